/- TopSlept: what stands behind the switch in a round. -/
import Derived.Test.YtpnpjiaciolgiaaRFam
namespace Go.Proofs.YtpnpjiaciolgiaaR
open Go.RowKit

set_option maxRecDepth 100000 in
set_option maxHeartbeats 2000000 in
theorem tail_any {B : Blk} {b0 : Nat} {w0 wr : World} {X pb ib M : Nat} {d pr : Int} {N : Nat} {P : Int} {σ : St} {W : World} {k most : Nat} {lv v56 v57 v58 v88 : Value} {xs : List Nat} {l : Array Value} {K : Act → World → Prop} {Q' : Exit → Act → World → Prop}
    (hl : FrS B most X pb ib (mineAt B M P) (.int .u64 σ.now) lv v56 v57 v58 v88 l) (h : RS B wr X pb ib M d pr N P σ W) (hI : LI B b0 w0 k σ lv xs W)
    (hK : ∀ (l' : Array Value) (W' : World), FrS B most X pb ib (mineAt B M P) (.int .u64 σ.now) lv v56 v57 v58 v88 l' → LI B b0 w0 k σ lv xs W' → K ⟨l', []⟩ W') : tail4.wp Try.prog (Exit.then K Q') ⟨l, []⟩ W := by
  obtain ⟨f, rfl⟩ := hl.lit
  conv => arg 2; whnf
  have HK := Lib.hid hK
  obtain ⟨A, c, rfl, _, _⟩ := hI.rl.form
  obtain ⟨ι, hne, wf, n0, hn0, hfb, hcl⟩ := family W
  have rf := fun n => h.below (hfb n)
  have li := fun n => hI.below (hfb n)
  have p0 : W.cell? ⟨pb, 0, none⟩ = some (.int .i64 P) := h.p.cell (i := 0) (by omega)
  have i0 : W.cell? ⟨ib, 0, none⟩ = some (.bool (inr P)) := h.i.cell (i := 0) (by omega)
  have p1 : ∀ n, (wf n).cell? ⟨pb, 0, none⟩ = some (.int .i64 P) := fun n => (rf n).p.cell (i := 0) (by omega)
  have i1 : ∀ n, (wf n).cell? ⟨ib, 0, none⟩ = some (.bool (inr P)) := fun n => (rf n).i.cell (i := 0) (by omega)
  have q1 : ∀ n, (wf n).cell? ⟨B.k, 0, none⟩ = some (.int .i64 σ.n) := fun n => (rf n).m.k.cell (i := 0) (by omega)
  have l0 : ∀ n, (wf n).cell? ⟨B.l, 0, none⟩ = some (.int .u8 σ.kd) := fun n => (rf n).m.l.cell (i := 0) (by omega)
  have l1 : ∀ n, (wf n).cell? ⟨B.l, 1, none⟩ = some (.int .i64 σ.wh) := fun n => (rf n).m.l.cell (i := 1) (by omega)
  have k25 : ∀ n, Calls Try.prog 25 #[.pointer (some ⟨B.c, 0, none⟩)] (wf n) fun e w'' => e = .returned (.int .u64 σ.now) ∧ ∃ m, w'' = wf m := fun n => fam_same (now_any B.c σ.now σ.most σ.dv _ (rf n).m.c)
  have k26 : ∀ n, Calls Try.prog 26 #[.pointer (some ⟨B.c, 0, none⟩)] (wf n) fun e w'' => e = .returned (.int .i64 xs.length) ∧ ∃ m, w'' = wf m := fun n => fam_same (left_any B.c σ.now σ.most σ.dv xs _ (rf n).m.c (li n).rd)
  have k27 : ∀ n, Calls Try.prog 27 #[.pointer (some ⟨B.s, 0, none⟩), .int .i64 P] (wf n) fun e w'' => e = .returned (.bool (inr P && ((σ.ps.pk P.toNat).asleep || (σ.ps.pk P.toNat).on || (σ.ps.pk P.toNat).till != 0))) ∧ ∃ m, w'' = wf m := fun n => fam_same (asleep_any B.s P σ.ps _ (rf n).m.s)
  have k28 : ∀ n, Calls Try.prog 28 #[.pointer (some ⟨B.s, 0, none⟩), .int .i64 P, .int .u64 σ.now] (wf n) fun e w'' => e = .returned (.bool (inr P && (!((σ.ps.pk P.toNat).asleep || (σ.ps.pk P.toNat).on || (σ.ps.pk P.toNat).till != 0) || (σ.ps.pk P.toNat).permit || ((σ.ps.pk P.toNat).on && decide ((σ.ps.pk P.toNat).till ≤ (σ.now : Int)))))) ∧ ∃ m, w'' = wf m := fun n => fam_same (goes_any B.s P σ.now σ.ps _ (rf n).m.s)
  have k29 : ∀ n, Calls Try.prog 29 #[.pointer (some ⟨B.s, 0, none⟩)] (wf n) fun e w'' => e = .returned (.int .i64 σ.n) ∧ ∃ m, w'' = wf m := fun n => fam_same (by rw [hI.hn]; exact count_any B.s σ.ps _ (rf n).m.s)
  have k30 : ∀ n, Calls Try.prog 30 #[.pointer (some ⟨B.s, 0, none⟩)] (wf n) fun e w'' => e = .returned (.agg #[.int .u8 σ.kd, .int .i64 σ.wh]) ∧ ∃ m, w'' = wf m := fun n => fam_call hcl (by rw [hI.hk, hI.hw]; exact last_any B.s σ.ps _ (rf n).m.s)
  have HN0 := Lib.hid hn0
  have LI' := Lib.hid li
  rcases inr_ways P with hP | ⟨q, rfl, hq, hP⟩
  · have hmine : mineAt B M P = .pointer (some ⟨M, 0, none⟩) := by unfold mineAt; rw [hP]; rfl
    have HMINE := Lib.hid hmine
    rw [hmine]
    simp only [hP, Bool.false_and] at i0 i1 k27 k28
    have K25 := Lib.hid k25
    have K26 := Lib.hid k26
    have K27 := Lib.hid k27
    have K28 := Lib.hid k28
    have K29 := Lib.hid k29
    have K30 := Lib.hid k30
    clear hmine h hI hl hK hn0 hfb hcl rf li k25 k26 k27 k28 k29 k30 hP
    go_wp2_with fail
    refine wp_region_fam wf n0 HN0.out ?_ ?_ ?_
    · kernel_rfl
    · kernel_rfl
    repeat (go_big_quiet_step (first | (go_at_call 25; with_reducible exact K25.out _) | (go_at_call 26; with_reducible exact K26.out _) | (go_at_call 27; with_reducible exact K27.out _) | (go_at_call 28; with_reducible exact K28.out _) | (go_at_call 29; with_reducible exact K29.out _) | (go_at_call 30; with_reducible exact K30.out _)))
    refine wpQuiet_nil ?_
    intro n
    clear p0 i0 p1 i1 q1 l0 l1
    go_wp2_with fail
    exact HK.out _ _ ⟨rfl, rfl, rfl, rfl, rfl, rfl, rfl, rfl, rfl, rfl, rfl, rfl, HMINE.out.symm, rfl, rfl, rfl, rfl, rfl⟩ (LI'.out n)
  · have hmine : mineAt B M q = .pointer (some ⟨B.o, q * 4, none⟩) := by unfold mineAt; rw [hP]; rfl
    have HMINE := Lib.hid hmine
    rw [hmine]
    have hsame := hI.same q hq
    simp only [hP, Bool.true_and, Int.toNat_natCast] at i0 i1 k27 k28
    simp only [hsame.goes] at k28
    simp only [hsame.sleeps] at k27
    have o0 : W.cell? ⟨B.o, q * 4, none⟩ = some (.bool (σ.O q).permit) := by rw [h.m.o.cell (i := q * 4) (by omega)]; exact congrArg some (pk_0 _ _)
    have o1 : W.cell? ⟨B.o, q * 4 + 1, none⟩ = some (.bool (σ.O q).asleep) := by rw [h.m.o.cell (i := q * 4 + 1) (by omega)]; exact congrArg some (pk_1 _ _)
    have o2 : W.cell? ⟨B.o, q * 4 + 2, none⟩ = some (.bool (σ.O q).on) := by rw [h.m.o.cell (i := q * 4 + 2) (by omega)]; exact congrArg some (pk_2 _ _)
    have o3 : W.cell? ⟨B.o, q * 4 + 3, none⟩ = some (.int .u64 (σ.O q).till) := by rw [h.m.o.cell (i := q * 4 + 3) (by omega)]; exact congrArg some (pk_3 _ _)
    have u1 : ∀ n, (wf n).cell? ⟨B.o, q * 4 + 1, none⟩ = some (.bool (σ.O q).asleep) := fun n => by rw [(rf n).m.o.cell (i := q * 4 + 1) (by omega)]; exact congrArg some (pk_1 _ _)
    clear hmine h hI hl hK hn0 hfb hcl rf li hP hsame
    generalize (σ.O q).permit = pm at *
    generalize (σ.O q).asleep = sl at *
    generalize (σ.O q).on = on at *
    generalize (σ.O q).till = till at *
    obtain ⟨gg, hgg⟩ : ∃ g, decide (till ≤ (σ.now : Int)) = g := ⟨_, rfl⟩
    rw [hgg] at k28
    have K25 := Lib.hid k25
    have K26 := Lib.hid k26
    have K27 := Lib.hid k27
    have K29 := Lib.hid k29
    have K30 := Lib.hid k30
    clear k25 k26 k27 k29 k30
    cases sl <;> cases pm <;> cases on
    all_goals
      simp only [Bool.not_true, Bool.not_false, Bool.true_or, Bool.false_or, Bool.or_false, Bool.or_true, Bool.true_and, Bool.false_and] at k28
      have K28 := Lib.hid k28
      clear k28
      go_wp2_with fail
      refine wp_region_fam wf n0 HN0.out ?_ ?_ ?_
      · kernel_rfl
      · kernel_rfl
      repeat (go_big_quiet_step (first | (go_at_call 25; with_reducible exact K25.out _) | (go_at_call 26; with_reducible exact K26.out _) | (go_at_call 27; with_reducible exact K27.out _) | (go_at_call 28; with_reducible exact K28.out _) | (go_at_call 29; with_reducible exact K29.out _) | (go_at_call 30; with_reducible exact K30.out _)))
      refine wpQuiet_nil ?_
      intro n
      clear p0 i0 p1 i1 q1 l0 l1 o0 o1 o2 o3 u1
      go_wp2_with fail
      exact HK.out _ _ ⟨rfl, rfl, rfl, rfl, rfl, rfl, rfl, rfl, rfl, rfl, rfl, rfl, HMINE.out.symm, rfl, rfl, rfl, rfl, rfl⟩ (LI'.out n)

end Go.Proofs.YtpnpjiaciolgiaaR
