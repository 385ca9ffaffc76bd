/- TopSlept, the switch: late. -/
import Derived.Test.YtpnpjiaciolgiaaRFam
import Derived.Deep.RegionWith
import Derived.Deep.RegionHeld3
namespace Go.Proofs.YtpnpjiaciolgiaaR
open Go.RowKit

set_option maxRecDepth 100000 in
set_option maxHeartbeats 6000000 in
theorem sw_10 {B : Blk} {b0 : Nat} {w0 wr : World} {X pb ib M : Nat} {d pr : Int} {N : Nat} {P : Int} {σ : St} {W : World} {k most : Nat} {lv v56 v57 v58 : Value} {xs : List Nat} {l : Array Value} {K : Act → World → Prop} {Q' : Exit → Act → World → Prop}
    (hl : FrS B most X pb ib (mineAt B M P) (.int .u64 σ.now) lv v56 v57 v58 (.int .u8 10) l) (h : RS B wr X pb ib M d pr N P σ W) (hI : LI B b0 w0 k σ lv xs wr) (hN : N < 18446744073709551616) (hmost : σ.most = most)
    (hK : SwK B b0 w0 wr X pb ib M d pr N P k most v56 v57 v58 K) (hk : k < 100) : sw4.wp Try.prog (Exit.then K Q') ⟨l, []⟩ W := by
  obtain ⟨f, rfl⟩ := hl.lit
  conv => arg 2; whnf
  have HK := Lib.hid hK
  have HI := Lib.hid hI
  have H := Lib.hid h
  have HM := Lib.hid hmost
  have hn0 := hI.n0
  have hn1 := hI.n1
  have hcnt : 0 ≤ σ.ps.count ∧ σ.ps.count < 1000000 := by rw [← hI.hn]; omega
  have hcnt' := Lib.hid hcnt
  have c0 : W.cell? ⟨pb, 0, none⟩ = some (.int .i64 P) := h.p.cell (i := 0) (by omega)
  have c1 : W.cell? ⟨ib, 0, none⟩ = some (.bool (inr P)) := h.i.cell (i := 0) (by omega)
  have late := Lib.hid (fun W' (hs : W'.rowIs B.s 84 515 σ.ps.f) => late_any B.s P σ.ps W' hs hcnt.1 hcnt.2)
  have hn0' := hn0
  have hpb := h.p.lt
  have hib := h.i.lt
  have hob := h.m.o.lt
  have HNE := Lib.hid (show B.s ≠ pb ∧ B.s ≠ ib ∧ B.s ≠ B.o from by have := h.ok.h2; have := h.ok.h3; have := h.ok.h4; have := h.lt; have := h.hp; have := h.hi; omega)
  have HD := Lib.hid (h.below (Below.refl _ _).drew)
  clear hK hI h hl hmost hcnt hcnt'
  rcases inr_ways P with hP | ⟨q, rfl, hq, hP⟩
  · rw [hP] at c1
    have hmine : mineAt B M P = .pointer (some ⟨M, 0, none⟩) := by unfold mineAt; rw [hP]; rfl
    have HMINE := Lib.hid hmine
    rw [hmine]
    clear hmine
    go_wp2_with fail
    obtain ⟨ι, hne, wf, n0, hn0, hfb, hcl⟩ := family W
    have p1 : ∀ n, (wf n).cell? ⟨pb, 0, none⟩ = some (.int .i64 P) := fun n => ((hfb n).cell (p := ⟨pb, 0, none⟩) hpb).trans c0
    have i1 : ∀ n, (wf n).cell? ⟨ib, 0, none⟩ = some (.bool false) := fun n => ((hfb n).cell (p := ⟨ib, 0, none⟩) hib).trans c1
    have K24 := Lib.hid (fun n => fam_same (wf := wf) (late_no B.s P (wf n) hP))
    have RF := Lib.hid (fun n => H.out.below (hfb n))
    clear hfb hcl
    refine wp_region_fam wf n0 hn0 ?_ ?_ ?_
    · kernel_rfl
    · kernel_rfl
    repeat (go_big_quiet_step (first | (go_at_call 24; with_reducible exact K24.out _)))
    refine wpQuiet_nil ?_
    intro n
    have call := called_any 5 (RF.out n) hn0' (by show σ.n < _; omega)
    clear p1 i1
    go_wp2_with fail
    refine call.mono ?_
    rintro e w2 ⟨rfl, r3⟩
    rw [St.called_no hP] at r3
    go_wp2_with fail
    exact HK.out _ _ σ lv xs _ ⟨rfl, rfl, rfl, rfl, rfl, rfl, rfl, rfl, rfl, rfl, rfl, rfl, HMINE.out.symm, rfl, rfl, rfl, rfl, rfl⟩ r3 HM.out (HI.out.next0 r3 rfl HI.out.same HI.out.hn HI.out.hk HI.out.hw HI.out.n0 (by omega) HI.out.now64 HI.out.most64)
  · rw [hP] at c1
    have b0 : W.cell? ⟨B.o, q * 4, none⟩ = some (.bool (σ.O q).permit) := by rw [H.out.m.o.cell (i := q * 4) (by omega)]; exact congrArg some (pk_0 _ _)
    have hsame := (HI.out.same q hq).1
    obtain ⟨pm, hpm⟩ : ∃ x, (σ.O q).permit = x := ⟨_, rfl⟩
    rw [hpm] at b0 hsame
    have HS := Lib.hid hsame
    clear hsame hpm
    have hmine : mineAt B M q = .pointer (some ⟨B.o, q * 4, none⟩) := by unfold mineAt; rw [hP]; rfl
    have HMINE := Lib.hid hmine
    rw [hmine]
    clear hmine
    cases pm
    · go_wp2_with fail
      have s0 : W.drew.cell? ⟨pb, 0, none⟩ = some (.int .i64 q) ∧ W.drew.cell? ⟨ib, 0, none⟩ = some (.bool true) ∧ W.drew.cell? ⟨B.o, q * 4, none⟩ = some (.bool false) := ⟨c0, c1, b0⟩
      go_region_held3 (fun w' => w'.cell? ⟨pb, 0, none⟩ = some (.int .i64 q) ∧ w'.cell? ⟨ib, 0, none⟩ = some (.bool true) ∧ w'.cell? ⟨B.o, q * 4, none⟩ = some (.bool false)) (first | exact s0 | exact s1) (first
        | (go_at_call 24; refine (late.out _ HD.out.m.s).mono ?_; rintro e w1 ⟨rfl, hs1, hg1⟩; rw [hP, Int.toNat_natCast, HS.out, Bool.true_and]; have s1 : w1.cell? ⟨pb, 0, none⟩ = some (.int .i64 q) ∧ w1.cell? ⟨ib, 0, none⟩ = some (.bool true) ∧ w1.cell? ⟨B.o, q * 4, none⟩ = some (.bool false) := ⟨(World.cell?_of_block (hg1.block pb hpb (fun e => HNE.out.1 (by injection e with e; exact e.symm)))).trans s0.1, (World.cell?_of_block (hg1.block ib hib (fun e => HNE.out.2.1 (by injection e with e; exact e.symm)))).trans s0.2.1, (World.cell?_of_block (hg1.block B.o hob (fun e => HNE.out.2.2 (by injection e with e; exact e.symm)))).trans s0.2.2⟩; have R1 := Lib.hid (HD.out.putS hg1 hs1); clear hs1 hg1))
      simp only [Exit.then]
      have call := called_any 5 R1.out hn0 (by show σ.n < _; omega)
      go_wp2_with fail
      refine call.mono ?_
      rintro e w2 ⟨rfl, r3⟩
      rw [PSet.called_yes hP, St.called_yes hP] at r3
      go_wp2_with fail
      refine (fun hfr => HK.out _ _ _ lv xs _ hfr r3 HM.out (HI.out.next0 r3 rfl (fun p hp => ?_) (congrArg (· + 1) HI.out.hn) rfl rfl (by show 0 ≤ σ.n + 1; omega) (by show σ.n + 1 ≤ _; omega) HI.out.now64 HI.out.most64)) ⟨rfl, rfl, rfl, rfl, rfl, rfl, rfl, rfl, rfl, rfl, rfl, rfl, HMINE.out.symm, rfl, rfl, rfl, rfl, rfl⟩
      exact HI.out.same p hp
    · go_wp2_with fail
      have s0 : W.drew.cell? ⟨pb, 0, none⟩ = some (.int .i64 q) ∧ W.drew.cell? ⟨ib, 0, none⟩ = some (.bool true) ∧ W.drew.cell? ⟨B.o, q * 4, none⟩ = some (.bool true) := ⟨c0, c1, b0⟩
      go_region_held3 (fun w' => w'.cell? ⟨pb, 0, none⟩ = some (.int .i64 q) ∧ w'.cell? ⟨ib, 0, none⟩ = some (.bool true) ∧ w'.cell? ⟨B.o, q * 4, none⟩ = some (.bool true)) (first | exact s0 | exact s1) (first
        | (go_at_call 24; refine (late.out _ HD.out.m.s).mono ?_; rintro e w1 ⟨rfl, hs1, hg1⟩; rw [hP, Int.toNat_natCast, HS.out, Bool.true_and]; have s1 : w1.cell? ⟨pb, 0, none⟩ = some (.int .i64 q) ∧ w1.cell? ⟨ib, 0, none⟩ = some (.bool true) ∧ w1.cell? ⟨B.o, q * 4, none⟩ = some (.bool true) := ⟨(World.cell?_of_block (hg1.block pb hpb (fun e => HNE.out.1 (by injection e with e; exact e.symm)))).trans s0.1, (World.cell?_of_block (hg1.block ib hib (fun e => HNE.out.2.1 (by injection e with e; exact e.symm)))).trans s0.2.1, (World.cell?_of_block (hg1.block B.o hob (fun e => HNE.out.2.2 (by injection e with e; exact e.symm)))).trans s0.2.2⟩; have R1 := Lib.hid (HD.out.putS hg1 hs1); clear hs1 hg1))
      simp only [Exit.then]
      have call := called_any 5 R1.out hn0 (by show σ.n < _; omega)
      go_wp2_with fail
      refine call.mono ?_
      rintro e w2 ⟨rfl, r3⟩
      rw [PSet.called_yes hP, St.called_yes hP] at r3
      go_wp2_with fail
      refine (fun hfr => HK.out _ _ _ lv xs _ hfr r3 HM.out (HI.out.next0 r3 rfl (fun p hp => ?_) (congrArg (· + 1) HI.out.hn) rfl rfl (by show 0 ≤ σ.n + 1; omega) (by show σ.n + 1 ≤ _; omega) HI.out.now64 HI.out.most64)) ⟨rfl, rfl, rfl, rfl, rfl, rfl, rfl, rfl, rfl, rfl, rfl, rfl, HMINE.out.symm, rfl, rfl, rfl, rfl, rfl⟩
      exact HI.out.same p hp

end Go.Proofs.YtpnpjiaciolgiaaR
