/- clocks, and slices.Clone: what each function that TopSlept calls does. -/
import Derived.Test.YtpnpjiaciolgiaaRRd
import Derived.Laws.Externs
namespace Go.Proofs.YtpnpjiaciolgiaaR
open Go.RowKit

/-- The greatest number of 64 bits, and one more. -/
def top64 : Nat := 18446744073709551615
def satadd (a b : Nat) : Nat := if a + b < 18446744073709551616 then a + b else 18446744073709551615
theorem satadd_lt (a b : Nat) : satadd a b < 18446744073709551616 := by unfold satadd; split <;> omega

theorem add64 (x y : Nat) (hx : x < 18446744073709551616) (hy : y < 18446744073709551616) (w : World) : (callFunc 41 #[.int .u64 x, .int .u64 y, .int .u64 0]).run Try.prog w =
    .ok (.value (.tuple #[.int .u64 (((x : Int) + y) % 18446744073709551616), .int .u64 (if x + y < 18446744073709551616 then 0 else 1)])) w := by
  rw [run_callFunc_extern Try.func41 (by kernel_rfl) (by kernel_rfl) (by kernel_rfl) (e := add64Entry) (by kernel_rfl), run_add64 x y 0 (by omega) (by omega) (by decide) (by decide)]
  have h1 : ((x : Int) + y) / 18446744073709551616 = if x + y < 18446744073709551616 then 0 else 1 := by split <;> omega
  simp only [Result.andThen, Int.add_zero, h1]

set_option maxHeartbeats 400000 in
theorem plus_any (x y : Nat) (w : World) (hx : x < 18446744073709551616) (hy : y < 18446744073709551616) :
    Calls Try.prog 36 #[.int .u64 x, .int .u64 y] w fun e w' => e = .returned (.int .u64 (satadd x y)) ∧ w = w' := by
  have h41 := fun W => add64 x y hx hy W
  unfold satadd
  by_cases h : x + y < 18446744073709551616
  · simp only [if_pos h] at h41 ⊢
    have hm : ((x : Int) + y) % 18446744073709551616 = ((x + y : Nat) : Int) := by omega
    rw [hm] at h41
    clear hm
    generalize x + y = z at *
    go_enter Try.func36, Try.ntmps36
    go_wp2_with (simp only [h41])
    go_ret
    exact ⟨rfl, rfl⟩
  · simp only [if_neg h] at h41 ⊢
    generalize ((x : Int) + y) % 18446744073709551616 = z at *
    go_enter Try.func36, Try.ntmps36
    go_wp2_with (simp only [h41])
    go_ret
    exact ⟨rfl, rfl⟩

theorem Below.keep {B : Nat} {w w' : World} (h : Below B w w') (n : Nat) : Below B w (w'.drewN n) := ⟨h.os, h.tape, h.output, h.size, h.block⟩

def clkF (now : Nat) (dv : Value) (most : Nat) : Nat → Value
  | 0 => .int .u64 now
  | 1 => dv
  | _ => .int .u64 most

section
variable {w : World} {b now most : Nat} {dv : Value}
theorem clk_0 (h : w.rowIs b 77 3 (clkF now dv most)) : w.cell? ⟨b, 0, none⟩ = some (.int .u64 now) := h.cell (i := 0) (by omega)
theorem clk_1 (h : w.rowIs b 77 3 (clkF now dv most)) : w.cell? ⟨b, 1, none⟩ = some dv := h.cell (i := 1) (by omega)
theorem clk_2 (h : w.rowIs b 77 3 (clkF now dv most)) : w.cell? ⟨b, 2, none⟩ = some (.int .u64 most) := h.cell (i := 2) (by omega)
theorem clk_set0 (h : w.rowIs b 77 3 (clkF now dv most)) (n : Nat) : (w.setCell ⟨b, 0, none⟩ (.int .u64 n)).rowIs b 77 3 (clkF n dv most) :=
  (h.set 0 _).congr fun i hi => by
    rcases (show i = 0 ∨ i = 1 ∨ i = 2 by omega) with rfl | rfl | rfl <;> rfl
theorem clk_set1 (h : w.rowIs b 77 3 (clkF now dv most)) (v : Value) : (w.setCell ⟨b, 1, none⟩ v).rowIs b 77 3 (clkF now v most) :=
  (h.set 1 _).congr fun i hi => by
    rcases (show i = 0 ∨ i = 1 ∨ i = 2 by omega) with rfl | rfl | rfl <;> rfl
end

set_option maxHeartbeats 400000 in
theorem now_any (b now most : Nat) (dv : Value) (w : World) (hr : w.rowIs b 77 3 (clkF now dv most)) :
    Calls Try.prog 25 #[.pointer (some ⟨b, 0, none⟩)] w fun e w' => e = .returned (.int .u64 now) ∧ w = w' := by
  have c0 := clk_0 hr
  clear hr
  go_enter Try.func25, Try.ntmps25
  go_wp2_with fail
  go_ret
  exact ⟨rfl, rfl⟩

set_option maxHeartbeats 400000 in
theorem left_any (b now most : Nat) (dv : Value) (xs : List Nat) (w : World) (hr : w.rowIs b 77 3 (clkF now dv most)) (hd : Rd w dv xs) :
    Calls Try.prog 26 #[.pointer (some ⟨b, 0, none⟩)] w fun e w' => e = .returned (.int .i64 xs.length) ∧ w = w' := by
  have c0 := clk_1 hr
  obtain ⟨A, c, rfl, _, _⟩ := hd.form
  clear hr hd
  generalize xs.length = n at *
  go_enter Try.func26, Try.ntmps26
  go_wp2_with fail
  go_ret
  exact ⟨rfl, rfl⟩

set_option maxHeartbeats 400000 in
theorem tick_any (b now most n : Nat) (dv : Value) (w : World) (hr : w.rowIs b 77 3 (clkF now dv most)) (hx : now < 18446744073709551616) (hy : n < 18446744073709551616) :
    Calls Try.prog 15 #[.pointer (some ⟨b, 0, none⟩), .int .u64 n] w fun e w' => e = .returned (.tuple #[]) ∧ w'.rowIs b 77 3 (clkF (satadd now n) dv most) ∧ w.grownBy w' (some b) := by
  have c0 := clk_0 hr
  have f0 := hr.frozen
  have H := Lib.hid hr
  clear hr
  go_enter Try.func15, Try.ntmps15
  go_wp2_with fail
  refine (plus_any _ _ _ hx hy).mono ?_
  rintro e w1 ⟨rfl, rfl⟩
  go_wp2_with fail
  go_end0
  exact ⟨rfl, clk_set0 H.out _, only_set (World.grownBy.refl w _) _ _⟩

set_option maxHeartbeats 400000 in
theorem after_any (b now most n : Nat) (dv : Value) (w : World) (hr : w.rowIs b 77 3 (clkF now dv most)) (hx : now < 18446744073709551616) (hy : n < 18446744073709551616) :
    Calls Try.prog 16 #[.pointer (some ⟨b, 0, none⟩), .int .u64 n] w fun e w' => e = .returned (.agg #[.bool true, .int .u64 (satadd now n)]) ∧ Below w.heap.size w w' := by
  have c0 := clk_0 hr
  have hlt := hr.lt
  have c0 : ∀ o, (w.alloc o).cell? ⟨b, 0, none⟩ = _ := fun o => (World.cell?_alloc_lt w o _ hlt).trans c0
  clear hr
  go_enter Try.func16, Try.ntmps16
  go_wp2_with fail
  refine (plus_any _ _ _ hx hy).mono ?_
  rintro e w1 ⟨rfl, rfl⟩
  go_wp2_with fail
  exact bodyPost_ret (v := .agg #[.bool true, .int .u64 (satadd now n)]) (by simp [results, Try.results16, go_sem]) rfl ⟨rfl, (Below.refl _ _).alloc (Nat.le_refl _) _⟩

set_option maxHeartbeats 400000 in
theorem come_any (b now most at_ : Nat) (on : Bool) (dv : Value) (w : World) (hr : w.rowIs b 77 3 (clkF now dv most)) :
    Calls Try.prog 17 #[.pointer (some ⟨b, 0, none⟩), .agg #[.bool on, .int .u64 at_]] w fun e w' => e = .returned (.bool (on && decide (at_ ≤ now))) ∧ Below w.heap.size w w' := by
  have c0 := clk_0 hr
  have hlt := hr.lt
  have c0 : ∀ o, (w.alloc o).cell? ⟨b, 0, none⟩ = _ := fun o => (World.cell?_alloc_lt w o _ hlt).trans c0
  have hb : ∀ n, Below w.heap.size w ((w.alloc (.cells #[.bool on, .int .u64 at_] 54)).drewN n) := fun n => Below.keep ((Below.refl _ w).alloc (Nat.le_refl _) _) n
  have HB := Lib.hid hb
  clear hr hb
  cases on
  · go_enter Try.func17, Try.ntmps17
    go_wp2_with fail
    go_quiet (fail)
    go_wp2_with fail
    go_ret
    exact ⟨rfl, HB.out _⟩
  · go_enter Try.func17, Try.ntmps17
    go_wp2_with fail
    go_quiet (fail)
    go_wp2_with fail
    go_ret
    exact ⟨by simp, HB.out _⟩

/-- What a draw gives. -/
def drawN (most x : Nat) : Nat := if most = 18446744073709551615 then x else x % (most + 1)

set_option maxHeartbeats 400000 in
theorem draw_none (b now most : Nat) (dv : Value) (w : World) (hr : w.rowIs b 77 3 (clkF now dv most)) (hd : Rd w dv []) :
    Calls Try.prog 18 #[.pointer (some ⟨b, 0, none⟩)] w fun e w' => e = .returned (.int .u64 0) ∧ w = w' := by
  have c0 := clk_1 hr
  obtain ⟨A, c, rfl, _, _⟩ := hd.form
  clear hr hd
  rw [List.length_nil] at c0
  go_enter Try.func18, Try.ntmps18
  go_wp2_with fail
  go_ret
  exact ⟨rfl, rfl⟩

set_option maxHeartbeats 400000 in
theorem draw_one (b now most x : Nat) (xs : List Nat) (dv : Value) (w : World) (hr : w.rowIs b 77 3 (clkF now dv most)) (hd : Rd w dv (x :: xs)) (hne : dv.ownBlock ≠ some b) (hm : most < 18446744073709551616) (hx : x < 18446744073709551616) :
    Calls Try.prog 18 #[.pointer (some ⟨b, 0, none⟩)] w fun e w' => e = .returned (.int .u64 (drawN most x)) ∧
      (∃ v', w'.rowIs b 77 3 (clkF now v' most) ∧ Rd w' v' xs ∧ v'.ownBlock = dv.ownBlock) ∧ w.grownBy w' (some b) := by
  obtain ⟨i0, hi0, hz0, hz1, hz2⟩ := info_parts info35
  have c0 := clk_1 hr
  have c2 := clk_2 hr
  have f0 := hr.frozen
  obtain ⟨g, off, c, rfl, hnc, hc, ce, _⟩ := hd.tail
  have hd' : Rd w (.slice (some ⟨g, off, none⟩) (xs.length + 1) c) (x :: xs) := hd
  have HD := Lib.hid hd'
  have HR := Lib.hid hr
  have HNE := Lib.hid hne
  have hgb : g ≠ b := fun h => hne (by simp [Value.ownBlock, h])
  have hbg : b ≠ g := fun h => hgb h.symm
  clear hr hd hd' hne
  unfold maxLen at hc
  unfold drawN
  by_cases hmm : most = 18446744073709551615
  · have hmt : ((most : Int) == 18446744073709551615) = true := by simp; omega
    rw [if_pos hmm]
    go_enter Try.func18, Try.ntmps18
    go_wp2_with (refine wpList_tail_rd (by rfl) (.tmp 24) 34 .i64 (by rfl) 35 i0 Try.underlying34 hi0 hz1 _ x xs (by rfl) HD.out ?_; intro A' c' hcut hob; have HC := Lib.hid hcut; have HO := Lib.hid hob; clear hcut hob)
    go_ret
    exact ⟨rfl, ⟨_, clk_set1 HR.out _, HC.out.grown (only_set (World.grownBy.refl w (some b)) _ _) (.inr (by rw [HO.out]; exact HNE.out)), HO.out⟩, only_set (World.grownBy.refl w _) _ _⟩
  · have hmt : ((most : Int) == 18446744073709551615) = false := by simp; omega
    rw [if_neg hmm]
    go_enter Try.func18, Try.ntmps18
    go_wp2_with (refine wpList_tail_rd (by rfl) (.tmp 24) 34 .i64 (by rfl) 35 i0 Try.underlying34 hi0 hz1 _ x xs (by rfl) HD.out ?_; intro A' c' hcut hob; have HC := Lib.hid hcut; have HO := Lib.hid hob; clear hcut hob)
    go_ret
    exact ⟨rfl, ⟨_, clk_set1 HR.out _, HC.out.grown (only_set (World.grownBy.refl w (some b)) _ _) (.inr (by rw [HO.out]; exact HNE.out)), HO.out⟩, only_set (World.grownBy.refl w _) _ _⟩

end Go.Proofs.YtpnpjiaciolgiaaR
