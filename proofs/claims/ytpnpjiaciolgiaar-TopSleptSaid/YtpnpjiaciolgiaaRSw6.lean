/- TopSlept, the switch: park. -/
import Derived.Test.YtpnpjiaciolgiaaRFrame
namespace Go.Proofs.YtpnpjiaciolgiaaR
open Go.RowKit

set_option maxRecDepth 100000 in
set_option maxHeartbeats 2000000 in
theorem sw_6 {B : Blk} {b0 : Nat} {w0 wr : World} {X pb ib M : Nat} {d pr : Int} {N : Nat} {P : Int} {σ : St} {W : World} {k most : Nat} {lv v56 v57 v58 : Value} {xs : List Nat} {l : Array Value} {K : Act → World → Prop} {Q' : Exit → Act → World → Prop}
    (hd : d % 11 = 6) (hd0 : 0 ≤ d) (hd1 : d < 256)
    (hl : FrS B most X pb ib (mineAt B M P) (.int .u64 σ.now) lv v56 v57 v58 (.int .u8 6) l) (h : RS B wr X pb ib M d pr N P σ W) (hI : LI B b0 w0 k σ lv xs wr) (hN : N < 18446744073709551616) (hmost : σ.most = most)
    (hK : SwK B b0 w0 wr X pb ib M d pr N P k most v56 v57 v58 K) (hk : k < 100) : sw4.wp Try.prog (Exit.then K Q') ⟨l, []⟩ W := by
  obtain ⟨f, rfl⟩ := hl.lit
  conv => arg 2; whnf
  have HK := Lib.hid hK
  have HI := Lib.hid hI
  have H := Lib.hid h
  have HM := Lib.hid hmost
  have hn0 := hI.n0
  have hn1 := hI.n1
  have hcnt : 0 ≤ σ.ps.count ∧ σ.ps.count < 1000000 := by rw [← hI.hn]; omega
  have HCNT := Lib.hid hcnt
  have hnow := hI.now64
  have c0 : W.cell? ⟨pb, 0, none⟩ = some (.int .i64 P) := h.p.cell (i := 0) (by omega)
  have c1 : W.cell? ⟨ib, 0, none⟩ = some (.bool (inr P)) := h.i.cell (i := 0) (by omega)
  have x0 : W.cell? ⟨X, 0, none⟩ = some (.int .u8 d) := h.x.cell (i := 0) (by omega)
  have x2 : W.cell? ⟨X, 2, none⟩ = some (.int .u64 N) := h.x.cell (i := 2) (by omega)
  obtain ⟨n5, hn5, hn5'⟩ : ∃ b : Nat, (N : Int) % 5 = b ∧ b < 5 := ⟨N % 5, by omega, by omega⟩
  obtain ⟨A5, hA5, hA5'⟩ : ∃ A5 : Nat, IntKind.u64.wrap ((σ.now : Int) + (n5 : Int)) = A5 ∧ (A5 = σ.now + n5 ∨ 18446744073709551616 ≤ σ.now + n5) := by
    by_cases h5 : σ.now + n5 < 18446744073709551616
    · exact ⟨σ.now + n5, by rw [show IntKind.u64.wrap ((σ.now : Int) + (n5 : Int)) = ((σ.now : Int) + (n5 : Int)) % 18446744073709551616 from rfl]; omega, .inl rfl⟩
    · exact ⟨σ.now + n5 - 18446744073709551616, by rw [wrap64_over (by omega) (by omega)]; omega, .inr (by omega)⟩
  have hA5s : σ.now + n5 < 18446744073709551616 → (σ.now : Int) + (n5 : Int) = (A5 : Int) := by omega
  have HA5S := Lib.hid hA5s
  clear hK hI hl hmost hcnt hA5s hA5'
  by_cases h5 : σ.now + n5 < 18446744073709551616
  case' pos => have hA5s := HA5S.out h5
  all_goals
    rcases inr_ways P with hP | ⟨q, rfl, hq, hP⟩
    · rw [hP] at c1
      have hmine : mineAt B M P = .pointer (some ⟨M, 0, none⟩) := by unfold mineAt; rw [hP]; rfl
      have HMINE := Lib.hid hmine
      rw [hmine]
      have call := Lib.hid (called_any 3 h hn0 (by omega))
      clear hmine h
      go_wp2_with fail
      refine call.out.mono ?_
      rintro e w1 ⟨rfl, r1⟩
      rw [St.called_no hP] at r1
      have d0 : w1.cell? ⟨pb, 0, none⟩ = some (.int .i64 P) := r1.p.cell (i := 0) (by omega)
      have prk := Lib.hid (until_any B.s P A5 σ.now σ.ps w1 r1.m.s HCNT.out.1 HCNT.out.2)
      have R1 := Lib.hid r1
      clear r1
      go_wp2_with fail
      refine prk.out.mono ?_
      rintro e w2 ⟨rfl, hs2, hg2⟩
      have r3 := R1.out.putS hg2 hs2
      rw [PSet.called_no hP, PSet.put_no hP] at r3
      rw [hP, if_neg (by decide)]
      go_wp2_with fail
      exact HK.out _ _ σ lv xs _ ⟨rfl, rfl, rfl, rfl, rfl, rfl, rfl, rfl, rfl, rfl, rfl, rfl, HMINE.out.symm, rfl, rfl, rfl, rfl, rfl⟩ r3 HM.out (HI.out.next0 r3 rfl HI.out.same HI.out.hn HI.out.hk HI.out.hw HI.out.n0 (by omega) HI.out.now64 HI.out.most64)
    · rw [hP] at c1
      have hmine : mineAt B M q = .pointer (some ⟨B.o, q * 4, none⟩) := by unfold mineAt; rw [hP]; rfl
      have HMINE := Lib.hid hmine
      rw [hmine]
      have b0 : W.cell? ⟨B.o, q * 4, none⟩ = some (.bool (σ.O q).permit) := by rw [h.m.o.cell (i := q * 4) (by omega)]; exact congrArg some (pk_0 _ _)
      have b1 : W.cell? ⟨B.o, q * 4 + 1, none⟩ = some (.bool (σ.O q).asleep) := by rw [h.m.o.cell (i := q * 4 + 1) (by omega)]; exact congrArg some (pk_1 _ _)
      have b2 : W.cell? ⟨B.o, q * 4 + 2, none⟩ = some (.bool (σ.O q).on) := by rw [h.m.o.cell (i := q * 4 + 2) (by omega)]; exact congrArg some (pk_2 _ _)
      have b3 : W.cell? ⟨B.o, q * 4 + 3, none⟩ = some (.int .u64 (σ.O q).till) := by rw [h.m.o.cell (i := q * 4 + 3) (by omega)]; exact congrArg some (pk_3 _ _)
      have fz := h.m.o.frozen
      have hpb : pb ≠ B.o := by have := h.ok.h3; have := h.ok.h4; have := h.lt; have := h.hp; omega
      have hib : ib ≠ B.o := by have := h.ok.h3; have := h.ok.h4; have := h.lt; have := h.hi; omega
      have hXb : X ≠ B.o := by have := h.ok.h3; have := h.ok.h4; have := h.lt; have := h.hX; omega
      have hsame := HI.out.same q hq
      have HS := Lib.hid hsame
      obtain ⟨pm, hpm⟩ : ∃ x, (σ.O q).permit = x := ⟨_, rfl⟩
      rw [hpm] at b0
      have HPM := Lib.hid hpm
      clear hmine h hsame hpm
      cases pm
      · by_cases hA : A5 ≤ σ.now
        · go_wp2_with fail
          have r0 := H.out.setO (j := q * 4 + 1) (by omega) (.bool false) (set_1 _ _ _)
          have call := Lib.hid (called_any 3 r0 hn0 (by show σ.n < _; omega))
          clear r0 b0 b1 b2 b3
          refine call.out.mono ?_
          rintro e w1 ⟨rfl, r1⟩
          rw [St.called_yes hP] at r1
          have d0 : w1.cell? ⟨pb, 0, none⟩ = some (.int .i64 q) := r1.p.cell (i := 0) (by omega)
          have prk := Lib.hid (until_any B.s q A5 σ.now σ.ps w1 r1.m.s HCNT.out.1 HCNT.out.2)
          have R1 := Lib.hid r1
          clear r1 call
          go_wp2_with fail
          refine prk.out.mono ?_
          rintro e w2 ⟨rfl, hs2, hg2⟩
          have r3 := R1.out.putS hg2 hs2
          rw [PSet.called_yes hP, PSet.put_yes hP, Int.toNat_natCast] at r3
          have hpo : parkO (σ.ps.pk q) (decide ((A5 : Int) ≤ (σ.now : Int))) = 2 := by
            simp only [parkO, HS.out.1, HPM.out]
            first | rfl | simp [hA]
          rw [hP, if_pos rfl, Int.toNat_natCast, hpo]
          clear hpo
          go_wp2_with fail
          refine (fun hfr => HK.out _ _ _ lv xs _ hfr r3 HM.out (HI.out.next0 r3 rfl (fun p hp => ?_) (congrArg (· + 1) HI.out.hn) rfl rfl (by show 0 ≤ σ.n + 1; omega) (by show σ.n + 1 ≤ _; omega) HI.out.now64 HI.out.most64)) ⟨rfl, rfl, rfl, rfl, rfl, rfl, rfl, rfl, rfl, rfl, rfl, rfl, HMINE.out.symm, rfl, rfl, rfl, rfl, rfl⟩
          by_cases hpq : p = q
          · subst hpq
            simp only [updP_same, updP_updP]
            have := HS.out.late (by rw [HS.out.1, HPM.out]); simpa [parkR, HS.out.1, HPM.out, hA] using this
          · simp only [updP, if_neg hpq]
            exact HI.out.same p hp
        · have hA' : σ.now < A5 := by omega
          go_wp2_with fail
          have r0 := ((H.out.setO (j := q * 4 + 1) (by omega) (.bool true) (set_1 _ _ _)).setO (j := q * 4 + 2) (by omega) (.bool true) (set_2 _ _ _)).setO (j := q * 4 + 3) (by omega) (.int .u64 A5) (set_3 _ _ _)
          have call := Lib.hid (called_any 3 r0 hn0 (by show σ.n < _; omega))
          clear r0 b0 b1 b2 b3
          refine call.out.mono ?_
          rintro e w1 ⟨rfl, r1⟩
          rw [St.called_yes hP] at r1
          have d0 : w1.cell? ⟨pb, 0, none⟩ = some (.int .i64 q) := r1.p.cell (i := 0) (by omega)
          have prk := Lib.hid (until_any B.s q A5 σ.now σ.ps w1 r1.m.s HCNT.out.1 HCNT.out.2)
          have R1 := Lib.hid r1
          clear r1 call
          go_wp2_with fail
          refine prk.out.mono ?_
          rintro e w2 ⟨rfl, hs2, hg2⟩
          have r3 := R1.out.putS hg2 hs2
          rw [PSet.called_yes hP, PSet.put_yes hP, Int.toNat_natCast] at r3
          have hpo : parkO (σ.ps.pk q) (decide ((A5 : Int) ≤ (σ.now : Int))) = 0 := by
            simp only [parkO, HS.out.1, HPM.out]
            first | rfl | simp [hA]
          rw [hP, if_pos rfl, Int.toNat_natCast, hpo]
          clear hpo
          go_wp2_with fail
          refine (fun hfr => HK.out _ _ _ lv xs _ hfr r3 HM.out (HI.out.next0 r3 rfl (fun p hp => ?_) (congrArg (· + 1) HI.out.hn) rfl rfl (by show 0 ≤ σ.n + 1; omega) (by show σ.n + 1 ≤ _; omega) HI.out.now64 HI.out.most64)) ⟨rfl, rfl, rfl, rfl, rfl, rfl, rfl, rfl, rfl, rfl, rfl, rfl, HMINE.out.symm, rfl, rfl, rfl, rfl, rfl⟩
          by_cases hpq : p = q
          · subst hpq
            simp only [updP_same, updP_updP]
            have := HS.out.blocks true A5 A5 (fun _ => rfl); simpa [parkR, HS.out.1, HPM.out, hA] using this
          · simp only [updP, if_neg hpq]
            exact HI.out.same p hp
      · go_wp2_with fail
        have r0 := (H.out.setO (j := q * 4) (by omega) (.bool false) (set_0 _ _ _)).setO (j := q * 4 + 1) (by omega) (.bool false) (set_1 _ _ _)
        have call := Lib.hid (called_any 3 r0 hn0 (by show σ.n < _; omega))
        clear r0 b0 b1 b2 b3
        refine call.out.mono ?_
        rintro e w1 ⟨rfl, r1⟩
        rw [St.called_yes hP] at r1
        have d0 : w1.cell? ⟨pb, 0, none⟩ = some (.int .i64 q) := r1.p.cell (i := 0) (by omega)
        have prk := Lib.hid (until_any B.s q A5 σ.now σ.ps w1 r1.m.s HCNT.out.1 HCNT.out.2)
        have R1 := Lib.hid r1
        clear r1 call
        go_wp2_with fail
        refine prk.out.mono ?_
        rintro e w2 ⟨rfl, hs2, hg2⟩
        have r3 := R1.out.putS hg2 hs2
        rw [PSet.called_yes hP, PSet.put_yes hP, Int.toNat_natCast] at r3
        have hpo : parkO (σ.ps.pk q) (decide ((A5 : Int) ≤ (σ.now : Int))) = 1 := by
          simp only [parkO, HS.out.1, HPM.out]
          first | rfl | simp [hA]
        rw [hP, if_pos rfl, Int.toNat_natCast, hpo]
        clear hpo
        go_wp2_with fail
        refine (fun hfr => HK.out _ _ _ lv xs _ hfr r3 HM.out (HI.out.next0 r3 rfl (fun p hp => ?_) (congrArg (· + 1) HI.out.hn) rfl rfl (by show 0 ≤ σ.n + 1; omega) (by show σ.n + 1 ≤ _; omega) HI.out.now64 HI.out.most64)) ⟨rfl, rfl, rfl, rfl, rfl, rfl, rfl, rfl, rfl, rfl, rfl, rfl, HMINE.out.symm, rfl, rfl, rfl, rfl, rfl⟩
        by_cases hpq : p = q
        · subst hpq
          simp only [updP_same, updP_updP]
          have := Same.reset (σ.O p); simpa [parkR, HS.out.1, HPM.out] using this
        · simp only [updP, if_neg hpq]
          exact HI.out.same p hp

end Go.Proofs.YtpnpjiaciolgiaaR
