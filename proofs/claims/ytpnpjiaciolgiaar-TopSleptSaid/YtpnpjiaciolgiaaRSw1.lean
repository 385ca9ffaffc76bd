/- TopSlept, the switch: a deadline. -/
import Derived.Test.YtpnpjiaciolgiaaRFam
import Derived.Deep.RegionWith
import Derived.Deep.RegionHeld3
namespace Go.Proofs.YtpnpjiaciolgiaaR
open Go.RowKit

set_option maxRecDepth 100000 in
set_option maxHeartbeats 1000000 in
theorem sw_1 {B : Blk} {b0 : Nat} {w0 wr : World} {X pb ib M : Nat} {d pr : Int} {N : Nat} {P : Int} {σ : St} {W : World} {k most : Nat} {lv v56 v57 v58 : Value} {xs : List Nat} {l : Array Value} {K : Act → World → Prop} {Q' : Exit → Act → World → Prop}
    (hl : FrS B most X pb ib (mineAt B M P) (.int .u64 σ.now) lv v56 v57 v58 (.int .u8 1) l) (h : RS B wr X pb ib M d pr N P σ W) (hI : LI B b0 w0 k σ lv xs wr) (hN : N < 18446744073709551616) (hmost : σ.most = most)
    (hK : SwK B b0 w0 wr X pb ib M d pr N P k most v56 v57 v58 K) (hk : k < 100) : sw4.wp Try.prog (Exit.then K Q') ⟨l, []⟩ W := by
  obtain ⟨f, rfl⟩ := hl.lit
  conv => arg 2; whnf
  have HK := Lib.hid hK
  have HI := Lib.hid hI
  have H := Lib.hid h
  have HM := Lib.hid hmost
  have x2 : W.cell? ⟨X, 2, none⟩ = some (.int .u64 N) := h.x.cell (i := 2) (by omega)
  have hnow := hI.now64
  have hX := h.x.lt
  have hc := h.m.c
  obtain ⟨n90, h90, h90'⟩ : ∃ b : Nat, (N : Int) % 90 = b ∧ b < 90 := ⟨N % 90, by omega, by omega⟩
  clear hK hI h hl hmost
  have after := after_any B.c σ.now σ.most N σ.dv W hc hnow hN
  obtain ⟨A, hA⟩ : ∃ A, satadd σ.now N = A := ⟨_, rfl⟩
  have hA64 : A < 18446744073709551616 := by rw [← hA]; exact satadd_lt _ _
  rw [hA] at after
  have HAF := Lib.hid after
  have hsum : (σ.now + N < 18446744073709551616 ∧ (σ.now : Int) + (N : Int) = (A : Int)) ∨ (A = 18446744073709551615 ∧ ∃ z : Int, IntKind.u64.wrap ((σ.now : Int) + (N : Int)) = z ∧ z < (σ.now : Int) ∧ ¬ (σ.now + N < 18446744073709551616)) := by
    unfold satadd at hA
    split at hA
    · exact .inl ⟨by assumption, by omega⟩
    · exact .inr ⟨hA.symm, _, wrap64_over (by omega) (by omega), by omega, by assumption⟩
  clear after hA hc
  rcases hsum with ⟨hs1, hs2⟩ | ⟨hs1, z, hs2, hs3, hs4⟩
  · go_wp2_with fail
    refine HAF.out.mono ?_
    rintro e w1 ⟨rfl, hb1⟩
    have hr := H.out.below hb1
    have hX1 := Nat.lt_of_lt_of_le hX hb1.size
    have r0 := hr.below ((Below.refl _ w1).alloc (Nat.le_refl _) (.cells #[.bool true, .int .u64 ((A : Nat) : Int)] 54))
    have nw := new_cells w1 #[.bool true, .int .u64 ((A : Nat) : Int)] 54
    obtain ⟨W1, hW1⟩ : ∃ W1, W1 = w1.alloc (.cells #[.bool true, .int .u64 ((A : Nat) : Int)] 54) := ⟨_, rfl⟩
    rw [← hW1] at r0 nw
    have hl1 : w1.heap.size < W1.heap.size := by rw [hW1]; simp
    obtain ⟨ι, hne, wf, n0, hn0, hfb, hcl⟩ := family W1
    have rf := fun n => r0.below (hfb n)
    have s0 : ∀ n, (wf n).cell? ⟨w1.heap.size, 0, none⟩ = some (.bool true) := fun n => nw _ (hfb n) 0
    have s1 : ∀ n, (wf n).cell? ⟨w1.heap.size, 1, none⟩ = some (.int .u64 ((A : Nat) : Int)) := fun n => nw _ (hfb n) 1
    have s2 : ∀ n, (wf n).cell? ⟨X, 2, none⟩ = some (.int .u64 N) := fun n => (rf n).x.cell (i := 2) (by omega)
    have HN0 := Lib.hid hn0
    have HW1 := Lib.hid hW1
    have RF := Lib.hid rf
    obtain ⟨c1, hc1⟩ : ∃ c, decide (A ≤ σ.now) = c := ⟨_, rfl⟩
    obtain ⟨c2, hc2⟩ : ∃ c, decide (n90 ≤ σ.now) = c := ⟨_, rfl⟩
    have k1 : ∀ n, Calls Try.prog 17 #[.pointer (some ⟨B.c, 0, none⟩), .agg #[.bool true, .int .u64 ((A : Nat) : Int)]] (wf n) fun e w'' => e = .returned (.bool c1) ∧ ∃ m, w'' = wf m := fun n => fam_call hcl (by have := come_any B.c σ.now σ.most A true σ.dv _ (rf n).m.c; rw [hc1] at this; exact this)
    have k2 : ∀ n, Calls Try.prog 17 #[.pointer (some ⟨B.c, 0, none⟩), .agg #[.bool false, .int .u64 σ.now]] (wf n) fun e w'' => e = .returned (.bool false) ∧ ∃ m, w'' = wf m := fun n => fam_call hcl (come_any B.c σ.now σ.most σ.now false σ.dv _ (rf n).m.c)
    have k3 : ∀ n, Calls Try.prog 17 #[.pointer (some ⟨B.c, 0, none⟩), .agg #[.bool true, .int .u64 n90]] (wf n) fun e w'' => e = .returned (.bool c2) ∧ ∃ m, w'' = wf m := fun n => fam_call hcl (by have := come_any B.c σ.now σ.most n90 true σ.dv _ (rf n).m.c; rw [hc2] at this; exact this)
    have HCL := Lib.hid hcl
    clear hb1 hr r0 nw hn0 hW1 hfb rf hcl hX1 hX hl1
    go_wp2_with fail
    rw [← HW1.out]
    refine wp_region_fam wf n0 HN0.out ?_ ?_ ?_
    · kernel_rfl
    · kernel_rfl
    repeat (go_big_quiet_step (first | (go_at_call 17; with_reducible exact k1 _) | (go_at_call 17; with_reducible exact k2 _) | (go_at_call 17; with_reducible exact k3 _)))
    refine wpQuiet_nil ?_
    intro n
    have r4 := RF.out n
    clear RF HCL s0 s1 s2
    go_wp2_with fail
    exact HK.out _ _ σ lv xs _ ⟨rfl, rfl, rfl, rfl, rfl, rfl, rfl, rfl, rfl, rfl, rfl, rfl, rfl, rfl, rfl, rfl, rfl, rfl⟩ r4 HM.out (HI.out.next0 r4 rfl HI.out.same HI.out.hn HI.out.hk HI.out.hw HI.out.n0 (by have := HI.out.n1; omega) HI.out.now64 HI.out.most64)
  · subst hs1
    go_wp2_with fail
    refine HAF.out.mono ?_
    rintro e w1 ⟨rfl, hb1⟩
    have hr := H.out.below hb1
    have hX1 := Nat.lt_of_lt_of_le hX hb1.size
    have r0 := hr.below ((Below.refl _ w1).alloc (Nat.le_refl _) (.cells #[.bool true, .int .u64 18446744073709551615] 54))
    have nw := new_cells w1 #[.bool true, .int .u64 18446744073709551615] 54
    obtain ⟨W1, hW1⟩ : ∃ W1, W1 = w1.alloc (.cells #[.bool true, .int .u64 18446744073709551615] 54) := ⟨_, rfl⟩
    rw [← hW1] at r0 nw
    have hl1 : w1.heap.size < W1.heap.size := by rw [hW1]; simp
    obtain ⟨ι, hne, wf, n0, hn0, hfb, hcl⟩ := family W1
    have rf := fun n => r0.below (hfb n)
    have s0 : ∀ n, (wf n).cell? ⟨w1.heap.size, 0, none⟩ = some (.bool true) := fun n => nw _ (hfb n) 0
    have s1 : ∀ n, (wf n).cell? ⟨w1.heap.size, 1, none⟩ = some (.int .u64 18446744073709551615) := fun n => nw _ (hfb n) 1
    have s2 : ∀ n, (wf n).cell? ⟨X, 2, none⟩ = some (.int .u64 N) := fun n => (rf n).x.cell (i := 2) (by omega)
    have HN0 := Lib.hid hn0
    have HW1 := Lib.hid hW1
    have RF := Lib.hid rf
    obtain ⟨c1, hc1⟩ : ∃ c, decide (18446744073709551615 ≤ σ.now) = c := ⟨_, rfl⟩
    have hc1' : decide ((18446744073709551615 : Int) ≤ (σ.now : Int)) = c1 := by
      rw [← hc1]
      exact decide_eq_decide.2 ⟨fun h => by omega, fun h => by omega⟩
    obtain ⟨c2, hc2⟩ : ∃ c, decide (n90 ≤ σ.now) = c := ⟨_, rfl⟩
    have k1 : ∀ n, Calls Try.prog 17 #[.pointer (some ⟨B.c, 0, none⟩), .agg #[.bool true, .int .u64 18446744073709551615]] (wf n) fun e w'' => e = .returned (.bool c1) ∧ ∃ m, w'' = wf m := fun n => fam_call hcl (by have := come_any B.c σ.now σ.most 18446744073709551615 true σ.dv _ (rf n).m.c; rw [hc1] at this; exact this)
    have k2 : ∀ n, Calls Try.prog 17 #[.pointer (some ⟨B.c, 0, none⟩), .agg #[.bool false, .int .u64 σ.now]] (wf n) fun e w'' => e = .returned (.bool false) ∧ ∃ m, w'' = wf m := fun n => fam_call hcl (come_any B.c σ.now σ.most σ.now false σ.dv _ (rf n).m.c)
    have k3 : ∀ n, Calls Try.prog 17 #[.pointer (some ⟨B.c, 0, none⟩), .agg #[.bool true, .int .u64 n90]] (wf n) fun e w'' => e = .returned (.bool c2) ∧ ∃ m, w'' = wf m := fun n => fam_call hcl (by have := come_any B.c σ.now σ.most n90 true σ.dv _ (rf n).m.c; rw [hc2] at this; exact this)
    have HCL := Lib.hid hcl
    clear hb1 hr r0 nw hn0 hW1 hfb rf hcl hX1 hX hl1
    go_wp2_with fail
    rw [← HW1.out]
    refine wp_region_fam wf n0 HN0.out ?_ ?_ ?_
    · kernel_rfl
    · kernel_rfl
    repeat (go_big_quiet_step (first | (go_at_call 17; with_reducible exact k1 _) | (go_at_call 17; with_reducible exact k2 _) | (go_at_call 17; with_reducible exact k3 _)))
    refine wpQuiet_nil ?_
    intro n
    have r4 := RF.out n
    clear RF HCL s0 s1 s2
    go_wp2_with fail
    exact HK.out _ _ σ lv xs _ ⟨rfl, rfl, rfl, rfl, rfl, rfl, rfl, rfl, rfl, rfl, rfl, rfl, rfl, rfl, rfl, rfl, rfl, rfl⟩ r4 HM.out (HI.out.next0 r4 rfl HI.out.same HI.out.hn HI.out.hk HI.out.hw HI.out.n0 (by have := HI.out.n1; omega) HI.out.now64 HI.out.most64)

end Go.Proofs.YtpnpjiaciolgiaaR
