/- TopSlept, the switch: prepare. -/
import Derived.Test.YtpnpjiaciolgiaaRFrame
import Derived.Deep.RegionWith
import Derived.Deep.RegionHeld3
namespace Go.Proofs.YtpnpjiaciolgiaaR
open Go.RowKit

set_option maxRecDepth 100000 in
set_option maxHeartbeats 1000000 in
theorem sw_4 {B : Blk} {b0 : Nat} {w0 wr : World} {X pb ib M : Nat} {d pr : Int} {N : Nat} {P : Int} {σ : St} {W : World} {k most : Nat} {lv v56 v57 v58 : Value} {xs : List Nat} {l : Array Value} {K : Act → World → Prop} {Q' : Exit → Act → World → Prop}
    (hl : FrS B most X pb ib (mineAt B M P) (.int .u64 σ.now) lv v56 v57 v58 (.int .u8 4) l) (h : RS B wr X pb ib M d pr N P σ W) (hI : LI B b0 w0 k σ lv xs wr) (hN : N < 18446744073709551616) (hmost : σ.most = most)
    (hK : SwK B b0 w0 wr X pb ib M d pr N P k most v56 v57 v58 K) (hk : k < 100) : sw4.wp Try.prog (Exit.then K Q') ⟨l, []⟩ W := by
  obtain ⟨f, rfl⟩ := hl.lit
  conv => arg 2; whnf
  have HK := Lib.hid hK
  have HI := Lib.hid hI
  have H := Lib.hid h
  have HM := Lib.hid hmost
  have hn0 := hI.n0
  have hn1 := hI.n1
  have hcnt : 0 ≤ σ.ps.count ∧ σ.ps.count < 1000000 := by rw [← hI.hn]; omega
  have hcnt' := Lib.hid hcnt
  have c0 : W.cell? ⟨pb, 0, none⟩ = some (.int .i64 P) := h.p.cell (i := 0) (by omega)
  have prep := Lib.hid (prepare_any B.s P σ.ps W h.m.s hcnt.1 hcnt.2)
  clear hK hI h hl hmost hcnt
  rcases inr_ways P with hP | ⟨q, rfl, hq, hP⟩
  · clear hcnt'
    have hmine : mineAt B M P = .pointer (some ⟨M, 0, none⟩) := by unfold mineAt; rw [hP]; rfl
    have HMINE := Lib.hid hmine
    rw [hmine]
    clear hmine
    go_wp2_with fail
    refine prep.out.mono ?_
    rintro e w1 ⟨rfl, hs1, hg1⟩
    have r1 := H.out.putS hg1 hs1
    have call := called_any 1 r1 hn0 (by show σ.n < _; omega)
    clear r1 hs1 hg1
    go_wp2_with fail
    refine call.mono ?_
    rintro e w2 ⟨rfl, r2⟩
    rw [PSet.called_no hP, PSet.put_no hP, St.called_no hP] at r2
    obtain ⟨fb, hfb⟩ := r2.b
    have b0 := hfb.cell (i := 0) (by omega)
    have b1 := hfb.cell (i := 1) (by omega)
    have fz := hfb.frozen
    have R2 := Lib.hid r2
    clear r2 hfb call
    go_wp2_with fail
    have r3 := (R2.out.putM 0 (.bool false)).putM 1 (.bool false)
    exact HK.out _ _ σ lv xs _ ⟨rfl, rfl, rfl, rfl, rfl, rfl, rfl, rfl, rfl, rfl, rfl, rfl, HMINE.out.symm, rfl, rfl, rfl, rfl, rfl⟩ r3 HM.out (HI.out.next0 r3 rfl HI.out.same HI.out.hn HI.out.hk HI.out.hw HI.out.n0 (by omega) HI.out.now64 HI.out.most64)
  · clear hcnt'
    have hmine : mineAt B M q = .pointer (some ⟨B.o, q * 4, none⟩) := by unfold mineAt; rw [hP]; rfl
    have HMINE := Lib.hid hmine
    rw [hmine]
    clear hmine
    go_wp2_with fail
    refine prep.out.mono ?_
    rintro e w1 ⟨rfl, hs1, hg1⟩
    have r1 := H.out.putS hg1 hs1
    have call := called_any 1 r1 hn0 (by show σ.n < _; omega)
    clear r1 hs1 hg1
    go_wp2_with fail
    refine call.mono ?_
    rintro e w2 ⟨rfl, r2⟩
    rw [PSet.called_yes hP, PSet.put_yes hP, St.called_yes hP] at r2
    have b0 : w2.cell? ⟨B.o, q * 4, none⟩ = some (.bool (σ.O q).permit) := by rw [r2.m.o.cell (i := q * 4) (by omega)]; exact congrArg some (pk_0 _ _)
    have b1 : w2.cell? ⟨B.o, q * 4 + 1, none⟩ = some (.bool (σ.O q).asleep) := by rw [r2.m.o.cell (i := q * 4 + 1) (by omega)]; exact congrArg some (pk_1 _ _)
    have fz := r2.m.o.frozen
    have R2 := Lib.hid r2
    clear r2 call
    go_wp2_with fail
    have r3 := (R2.out.setO (j := q * 4) (by omega) (.bool false) (set_0 _ _ _)).setO (j := q * 4 + 1) (by omega) (.bool false) (set_1 _ _ _)
    refine (fun hfr => HK.out _ _ _ lv xs _ hfr r3 HM.out (HI.out.next0 r3 rfl (fun p hp => ?_) (congrArg (· + 1) HI.out.hn) rfl rfl (by show 0 ≤ σ.n + 1; omega) (by show σ.n + 1 ≤ _; omega) HI.out.now64 HI.out.most64)) ⟨rfl, rfl, rfl, rfl, rfl, rfl, rfl, rfl, rfl, rfl, rfl, rfl, HMINE.out.symm, rfl, rfl, rfl, rfl, rfl⟩
    show Same (updP σ.ps.pk q Pk.nil p) (updP (updP σ.O q { σ.O q with permit := false }) q { updP σ.O q { σ.O q with permit := false } q with asleep := false } p)
    rw [updP_same, updP_updP]
    by_cases hpq : p = q
    · subst hpq
      rw [updP_same, updP_same]
      exact Same.reset _
    · simp only [updP, if_neg hpq]
      exact HI.out.same p hp

end Go.Proofs.YtpnpjiaciolgiaaR
