/- clocks.More, clocks.New and slices.Clone: what each makes. -/
import Derived.Test.YtpnpjiaciolgiaaRClocks
import Derived.Lib.SliceRun
namespace Go.Proofs.YtpnpjiaciolgiaaR
open Go.RowKit

theorem below_row {b : Nat} {w w' : World} (hg : w.grownBy w' (some b)) (hb : b ≤ w.heap.size) : Below b w w' :=
  (Below.refl _ _).grown hg hb (fun k h => by cases h; exact Nat.le_refl _)

/-- The row that more makes. -/
theorem Rd.made {w : World} {g : Nat} (xs : List Nat) (N : Nat) (hN : xs.length = N) (hNm : N ≤ maxLen) (hg : w.heap[g]? = some (.cells (nums xs).toArray 35 (0, 0))) : Rd w (.slice (some ⟨g, 0, none⟩) N N) xs := by
  subst hN
  refine ⟨_, _, rfl, Nat.le_refl _, hNm, fun _ => ⟨g, 0, rfl, (Array.getElem?_eq_some_iff.1 hg).1, fun j hj => ?_⟩⟩
  rw [cell_of_row w g (0 + j) _ 35 (0, 0) hg, Nat.zero_add]
  simp

theorem splice2 (Z X Y : List Value) (h : Z.length = X.length + Y.length) : splice (splice Z 0 X) X.length Y = X ++ Y := by
  have h1 : splice Z 0 X = X ++ Z.drop X.length := by simp [splice]
  rw [h1]
  unfold splice
  have h2 : (X ++ Z.drop X.length).drop (X.length + Y.length) = [] := by
    apply List.drop_eq_nil_of_le
    simp
    omega
  rw [h2, List.take_append_of_le_length (Nat.le_refl _), List.take_length, List.append_nil]

set_option maxHeartbeats 1000000 in
theorem more_any (b now most : Nat) (dv lv : Value) (xs ys : List Nat) (w : World) (hr : w.rowIs b 77 3 (clkF now dv most)) (hd : Rd w dv xs) (hl : Rd w lv ys) (hlen : xs.length + ys.length ≤ 1000) :
    Calls Try.prog 19 #[.pointer (some ⟨b, 0, none⟩), lv] w fun e w' => e = .returned (.tuple #[]) ∧
      (∃ v', w'.rowIs b 77 3 (clkF now v' most) ∧ Rd w' v' (xs ++ ys) ∧ v'.ownBlock = some w.heap.size) ∧ w.grownBy w' (some b) ∧ w.heap.size < w'.heap.size := by
  obtain ⟨i0, hi0, hz0, hz1, hz2⟩ := info_parts info35
  have hsz : (Try.prog.info? 35).map (·.size) = some 1 := by rw [hi0]; simp [hz1]
  have hlt := hr.lt
  have HD := Lib.hid hd
  have HL := Lib.hid hl
  obtain ⟨A, c, rfl, hc1, _⟩ := hd.form
  obtain ⟨A2, c2, rfl, hc2, _⟩ := hl.form
  have c1 := clk_1 hr
  have f0 := hr.frozen
  have HR := Lib.hid hr
  clear hr hd hl
  obtain ⟨n, hn⟩ : ∃ n, xs.length = n := ⟨_, rfl⟩
  obtain ⟨m, hm⟩ : ∃ m, ys.length = m := ⟨_, rfl⟩
  rw [hn] at c1 hc1 hlen
  rw [hm] at hc2 hlen ⊢
  have HN := Lib.hid hn
  have HM := Lib.hid hm
  clear hn hm
  have hmin : (m : Int) = if 65536 - (n : Int) < (m : Int) then 65536 - (n : Int) else (m : Int) := by rw [if_neg (by omega)]
  have HMIN := Lib.hid hmin
  have hmk : ∀ W : World, (Instr.makeSlice 34 (.int .i64 ((n : Int) + (m : Int))) (.int .i64 ((n : Int) + (m : Int)))).run Try.prog W = .ok (.slice (some ⟨W.heap.size, 0, none⟩) (n + m) (n + m)) (W.alloc (.cells (madeCells #[.int .u64 0] (n + m)) 35)) := fun W => by
    have := run_make_row' (P := Try.prog) 34 35 (.int .u64 0) 8 Try.underlying34 info35 rfl .i64 .i64 (n + m) (by omega) (by omega) W
    rw [Int.natCast_add] at this
    exact this
  have hcopy1 : (nums xs).length = Nat.min n (n + m) ∧ (nums ys).length = Nat.min m m ∧ (nums xs).length = n ∧ (nums ys).length = m :=
    ⟨by rw [nums_len, HN.out]; exact (Nat.min_eq_left (by omega)).symm, by rw [nums_len, HM.out]; exact (Nat.min_self _).symm, by rw [nums_len, HN.out], by rw [nums_len, HM.out]⟩
  have HC := Lib.hid hcopy1
  have hbel : Below w.heap.size w (w.alloc (.cells (madeCells #[.int .u64 0] (n + m)) 35)) := (Below.refl _ w).alloc (Nat.le_refl _) _
  have HB := Lib.hid hbel
  have hmade : (w.alloc (.cells (madeCells #[.int .u64 0] (n + m)) 35)).heap[w.heap.size]? = some (.cells ((madeCells #[.int .u64 0] (n + m)).toList).toArray 35 (0, 0)) := by
    rw [heap_alloc_new w _]
  have HZ := Lib.hid hmade
  have hzl : ((madeCells #[.int .u64 0] (n + m)).toList).length = n + m := by rw [Array.length_toList, size_madeCells]
  have HZL := Lib.hid hzl
  clear hmin hcopy1 hbel hmade hzl
  go_enter Try.func19, Try.ntmps19
  go_wp2_with (first
    | (refine wpList_min2 (.tmp 9) (.tmp 15) #[3, 3] (65536 - (n : Int)) m m (by rfl) (by rfl) (by rfl) (by rfl) HMIN.out ?_)
    | (refine wpList_copy_splice (by rfl) (.tmp 26) (.tmp 30) 34 34 (by rfl) 35 Try.underlying34 hsz _ _ _ _ _ _ (by rfl) (by rfl) w.heap.size 0 (madeCells #[.int .u64 0] (n + m)).toList 35 HZ.out (nums xs) HC.out.1 (fun hp => ⟨by rfl, (HD.out.alloc _).src hp⟩) (by rw [HC.out.2.2.1, HZL.out]; omega) (nums_one xs) w.heap.size w HB.out (Nat.le_refl _) ?_; intro w2 HG2 hB2; rw [HC.out.2.2.1])
    | (refine wpList_from (by rfl) (.tmp 25) (.tmp 31) 34 .i64 (by rfl) 35 i0 Try.underlying34 hi0 hz1 w.heap.size n m (by rfl) (by rfl) ?_; intro A3 hA3; have HA3 := Lib.hid hA3; clear hA3)
    | (refine wpList_copy_splice (by rfl) (.tmp 32) (.tmp 33) 34 34 (by rfl) 35 Try.underlying34 hsz _ _ _ _ _ _ (by rfl) (by rfl) w.heap.size n _ 35 HG2.out (nums ys) HC.out.2.1 (fun hp => ⟨HA3.out (by rw [HC.out.2.2.2] at hp; exact hp), (HL.out.below hB2).src hp⟩) (by rw [length_splice _ _ _ (by rw [HC.out.2.2.1, HZL.out]; omega), HC.out.2.2.2, HZL.out]; omega) (nums_one ys) w.heap.size w hB2 (Nat.le_refl _) ?_; intro w3 HG3 hB3; rw [HC.out.2.2.2]; have hr3 := HR.out.of_block (hB3.block b hlt); have d1 := clk_1 hr3; have f3 := hr3.frozen; have HR3 := Lib.hid hr3; clear hr3))
  go_end0
  have hg3 := HG3.out
  have key := splice2 (madeCells #[.int .u64 0] (n + m)).toList (nums xs) (nums ys) (by rw [HZL.out, HC.out.2.2.1, HC.out.2.2.2])
  rw [HC.out.2.2.1] at key
  rw [key, ← nums_app] at hg3
  have hrd := Rd.made (xs ++ ys) (n + m) (by rw [List.length_append, HN.out, HM.out]) (by unfold maxLen; omega) hg3
  have hB4 : Below w.heap.size w w3 := hB3
  refine ⟨rfl, ⟨_, clk_set1 HR3.out _, hrd.grown (only_set (World.grownBy.refl w3 (some b)) _ _) (.inr (by simp [Value.ownBlock]; omega)), rfl⟩, only_set ⟨hB4.os, hB4.tape, hB4.output, hB4.size, fun i hi _ => hB4.block i hi⟩ _ _, by simpa using (Array.getElem?_eq_some_iff.1 hg3).1⟩

set_option maxHeartbeats 400000 in
theorem cnew_any (most : Nat) (dv : Value) (xs : List Nat) (w : World) (hd : Rd w dv xs) (hlen : xs.length ≤ 1000) :
    Calls Try.prog 11 #[dv, .int .u64 most] w fun e w' => e = .returned (.pointer (some ⟨w.heap.size, 0, none⟩)) ∧
      (∃ v', w'.rowIs w.heap.size 77 3 (clkF 0 v' most) ∧ Rd w' v' xs ∧ v'.ownBlock = some (w.heap.size + 1)) ∧ Below w.heap.size w w' ∧ w.heap.size + 2 ≤ w'.heap.size := by
  have hr : (w.alloc (.cells #[.int .u64 0, .slice none 0 0, .int .u64 most] 77)).rowIs w.heap.size 77 3 (clkF 0 (.slice none 0 0) most) :=
    World.rowIs_alloc w _ 77 _ fun i hi => by
      simp at hi
      rcases (show i = 0 ∨ i = 1 ∨ i = 2 by omega) with rfl | rfl | rfl <;> rfl
  have hd1 := hd.alloc (.cells #[.int .u64 0, .slice none 0 0, .int .u64 most] 77)
  obtain ⟨A, c, rfl, _, _⟩ := hd.form
  have hB := (Below.refl _ w).alloc (Nat.le_refl _) (.cells #[.int .u64 0, .slice none 0 0, .int .u64 most] 77)
  have HB := Lib.hid hB
  have hsz : (w.alloc (.cells #[.int .u64 0, .slice none 0 0, .int .u64 most] 77)).heap.size = w.heap.size + 1 := by simp
  have HS := Lib.hid hsz
  have HR := Lib.hid hr
  have HD := Lib.hid hd1
  clear hr hd hd1 hB hsz
  go_enter Try.func11, Try.ntmps11
  go_wp2_with fail
  refine (more_any _ _ _ _ _ [] xs _ HR.out (Rd.nil _) HD.out (by simpa using hlen)).mono ?_
  rintro e w2 ⟨rfl, ⟨v', hr2, hd2, ho2⟩, hg2, hl2⟩
  rw [HS.out] at ho2 hl2
  have h2 := HB.out.trans (below_row hg2 (by rw [HS.out]; omega))
  go_wp2_with fail
  go_ret
  exact ⟨rfl, ⟨v', hr2, hd2, ho2⟩, h2, by omega⟩

theorem eql_nil (A : Option Addr) (n c : Nat) (w : World) : (binOp .eql 34 (.slice A n c) (.slice none 0 0)).run Try.prog w = .ok (.bool A.isNone) w := Lib.run_eql_slice_nil w _ _ A n c 0 0 Try.underlying34

set_option maxHeartbeats 400000 in
theorem clone_any (dv : Value) (xs : List Nat) (w : World) (hd : Rd w dv xs) (hlen : xs.length ≤ 1000) :
    Calls Try.prog 13 #[dv] w fun e w' => (∃ v', e = .returned v' ∧ Sl w' w.heap.size 35 1 v' xs.length (nums xs) ∧ ∀ j, v'.ownBlock = some j → j < w'.heap.size) ∧ Below w.heap.size w w' := by
  obtain ⟨i0, hi0, hz0, hz1, hz2⟩ := info_parts info35
  have hq := eql_nil
  have HD := Lib.hid hd
  obtain ⟨A, c, rfl, hnc, hc63⟩ := hd.form
  clear hd
  cases A with
  | none =>
    have h0 : xs = [] := by
      obtain ⟨A', c', hv, _, _, h4⟩ := HD.out
      injection hv with e1 _ _
      subst e1
      rcases xs with _ | ⟨x, xs⟩
      · rfl
      · obtain ⟨g, off, he, _⟩ := h4 (by simp)
        cases he
    subst h0
    clear HD
    go_enter Try.func13, Try.ntmps13
    go_wp2_with fail
    go_ret
    exact ⟨⟨_, rfl, Sl.nil _ _ _ _, fun j hj => by simp [Value.ownBlock] at hj⟩, Below.refl _ _⟩
  | some a =>
    have hsl : Sl (w.alloc (.cells #[] 35)) w.heap.size 35 1 (.slice (some ⟨w.heap.size, 0, none⟩) 0 0) 0 [] :=
      ⟨by simp, _, 0, rfl, Nat.le_refl _, Nat.zero_le _, fun h => by simp at h, fun a h => by injection h with h; subst h; exact Nat.le_refl _, fun h => absurd h (Nat.lt_irrefl _)⟩
    have hB := (Below.refl _ w).alloc (Nat.le_refl _) (.cells #[] 35)
    rcases Nat.eq_zero_or_pos xs.length with h0 | hp
    · have h0' : xs = [] := List.eq_nil_of_length_eq_zero h0
      subst h0'
      have HSL := Lib.hid hsl
      have HB := Lib.hid hB
      clear HD hsl hB h0
      rw [List.length_nil]
      go_enter Try.func13, Try.ntmps13
      go_wp2_with fail
      go_ret
      exact ⟨⟨_, rfl, HSL.out, fun j hj => by simp [Value.ownBlock] at hj; simp; omega⟩, HB.out⟩
    · have hsrc := (HD.out.alloc (.cells #[] 35)).src (by rw [nums_len]; exact hp)
      obtain ⟨ad, hA, hnews⟩ := hsrc
      injection hA with hA
      subst hA
      have HN := Lib.hid hnews
      have HSL := Lib.hid hsl
      have HB := Lib.hid hB
      have hlen1 : (nums xs).length = xs.length * 1 := by rw [nums_len, Nat.mul_one]
      have HL := Lib.hid hlen1
      clear HD hsl hB hnews hlen1
      obtain ⟨n, hn⟩ : ∃ n, xs.length = n := ⟨_, rfl⟩
      rw [hn] at hp hlen hnc ⊢
      have H := Lib.hid hn
      clear hn
      go_enter Try.func13, Try.ntmps13
      go_wp2_with (at_builtin; refine wpList_append_sl _ (by rfl) (.tmp 5) (.tmp 6) 34 (by rfl) w.heap.size 35 i0 (.int .u64 0) 1 8 Try.underlying34 hi0 hz0 hz1 hz2 rfl (by decide) _ 0 [] (by rfl) HSL.out a n c (nums xs) (by rfl) hp (by rw [HL.out, H.out]) HN.out (nums_one xs) (by unfold maxLen; omega) (by omega) (by simp) ?_; intro v' w8 hsl8 hg8 hat8; have H8 := Lib.hid hsl8; have HG := Lib.hid hg8; clear hsl8 hg8 hat8)
      go_ret
      have h8 := H8.out
      rw [Nat.zero_add, List.nil_append] at h8
      obtain ⟨g8, off8, c8, hv8, _, _, _, hl8, _⟩ := h8.at_ hp
      refine ⟨⟨_, rfl, h8, fun j hj => by rw [hv8] at hj; simp [Value.ownBlock] at hj; omega⟩, HB.out.grown HG.out (by simp) (fun j hj => by simp [Value.ownBlock] at hj; omega)⟩

end Go.Proofs.YtpnpjiaciolgiaaR
