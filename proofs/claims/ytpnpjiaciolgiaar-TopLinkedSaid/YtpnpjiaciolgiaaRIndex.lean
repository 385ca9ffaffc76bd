/- slices.Index and slices.Contains at []int. -/
import Derived.Test.YtpnpjiaciolgiaaRHelp
namespace Go.Proofs.YtpnpjiaciolgiaaR
open Go.RowKit

/-- The place of x in the numbers q 0 .. q (n - 1) from k on, or -1. -/
def has (q : Nat → Nat) (n : Nat) (x : Nat) : Prop := ∃ i, i < n ∧ q i = x

def ints (q : Nat → Nat) (n : Nat) : List Value := (List.range n).map fun i => .int .i64 (q i)
theorem ints_len (q : Nat → Nat) (n : Nat) : (ints q n).length = n := by simp [ints]
theorem ints_get (q : Nat → Nat) (n i : Nat) (h : i < n) : (ints q n)[i]? = some (.int .i64 (q i)) := by simp [ints, h]

set_option maxHeartbeats 400000 in
theorem index_any (base n : Nat) (q : Nat → Nat) (v : Value) (x : Nat) (w : World) (hs : Sl w base 3 1 v n (ints q n)) (hn : n ≤ 1000000) :
    Calls Try.prog 34 #[v, .int .i64 x] w fun e w' => (∃ r : Int, e = .returned (.int .i64 r) ∧ (0 ≤ r ↔ has q n x)) ∧ w = w' := by
  rcases Nat.eq_zero_or_pos n with h0 | hpos
  · subst h0
    obtain ⟨A, c, rfl, _, _⟩ := hs.form
    clear hs
    have HP := Lib.hid (show ¬ has q 0 x from fun ⟨i, h, _⟩ => by omega)
    go_enter Try.func34, Try.ntmps34
    go_wp2
    go_loop [8] (fun t => t = .int .i64 0) (fun _ => 0)
    case atStart => rfl
    case round =>
      subst hrel
      go_wp2
      go_ret
      exact ⟨⟨-1, rfl, ⟨fun h => absurd h (by decide), fun h => absurd h HP.out⟩⟩, rfl⟩
  · obtain ⟨g, off, c, rfl, hnc, hc, _, _, hcell, _⟩ := hs.at_ hpos
    clear hs
    have hcell' : ∀ i, i < n → w.cell? ⟨g, off + i, none⟩ = some (.int .i64 (q i)) := fun i hi => by rw [hcell i (by omega), ints_get q n i hi]
    unfold maxLen at hc
    have HC := Lib.hid hcell'
    clear hcell hcell'
    go_enter Try.func34, Try.ntmps34
    go_wp2
    go_loop [8] (fun t => ∃ k : Nat, k ≤ n ∧ (∀ i, i < k → q i ≠ x) ∧ t = .int .i64 k) (fun t => n - (intOf t).toNat)
    case atStart => exact ⟨0, Nat.zero_le _, fun i h => absurd h (Nat.not_lt_zero _), rfl⟩
    case round =>
      obtain ⟨k, hk, hnone, rfl⟩ := hrel
      have HN := Lib.hid hnone
      clear hnone
      by_cases hlt : k < n
      · have c0 := HC.out k hlt
        by_cases hx : x = q k
        · have hx1 : ((x : Int) == (q k : Int)) = true := by simp [hx]
          have HX := Lib.hid hx
          clear hx
          go_wp2
          go_ret
          exact ⟨⟨k, rfl, ⟨fun _ => ⟨k, hlt, HX.out.symm⟩, fun _ => by omega⟩⟩, rfl⟩
        · have hx1 : ((x : Int) == (q k : Int)) = false := by simp; omega
          have HX := Lib.hid hx
          clear hx
          go_wp2
          go_round
          case rel => exact ⟨k + 1, by omega, fun i hi => by
            rcases Nat.lt_succ_iff_lt_or_eq.1 hi with h | h
            · exact HN.out i h
            · subst h; exact fun e => HX.out e.symm, by go_num⟩
          case measure => simp [intOf]; omega
      · go_wp2
        go_ret
        exact ⟨⟨-1, rfl, by
          constructor
          · intro h; omega
          · rintro ⟨i, hi, e⟩
            exact absurd e (HN.out i (by omega))⟩, rfl⟩

set_option maxHeartbeats 400000 in
theorem contains_any (base n : Nat) (q : Nat → Nat) (v : Value) (x : Nat) (w : World) (hs : Sl w base 3 1 v n (ints q n)) (hn : n ≤ 1000000) :
    Calls Try.prog 7 #[v, .int .i64 x] w fun e w' => (∃ b : Bool, e = .returned (.bool b) ∧ (b = true ↔ has q n x)) ∧ w = w' := by
  obtain ⟨A, c, rfl, _, _⟩ := hs.form
  go_enter Try.func7, Try.ntmps7
  go_wp2_with (go_at_call 34; refine (index_any base n q _ x _ hs hn).mono ?_; rintro e w' ⟨⟨r, rfl, hr⟩, rfl⟩)
  go_ret
  exact ⟨⟨_, rfl, by simpa using hr⟩, rfl⟩

end Go.Proofs.YtpnpjiaciolgiaaR
