/- TopSlept, the switch: a tick. -/
import Derived.Test.YtpnpjiaciolgiaaRFrame
import Derived.Deep.RegionWith
import Derived.Deep.RegionHeld3
namespace Go.Proofs.YtpnpjiaciolgiaaR
open Go.RowKit

theorem wrap64_over {x : Int} (h : 18446744073709551616 ≤ x) (h2 : x < 36893488147419103232) : IntKind.u64.wrap x = x - 18446744073709551616 := by
  have : IntKind.u64.wrap x = x % 18446744073709551616 := rfl
  rw [this]
  omega

set_option maxRecDepth 100000 in
set_option maxHeartbeats 1000000 in
theorem sw_0 {B : Blk} {b0 : Nat} {w0 wr : World} {X pb ib M : Nat} {d pr : Int} {N : Nat} {P : Int} {σ : St} {W : World} {k most : Nat} {lv v56 v57 v58 : Value} {xs : List Nat} {l : Array Value} {K : Act → World → Prop} {Q' : Exit → Act → World → Prop}
    (hl : FrS B most X pb ib (mineAt B M P) (.int .u64 σ.now) lv v56 v57 v58 (.int .u8 0) l) (h : RS B wr X pb ib M d pr N P σ W) (hI : LI B b0 w0 k σ lv xs wr) (hN : N < 18446744073709551616) (hmost : σ.most = most)
    (hK : SwK B b0 w0 wr X pb ib M d pr N P k most v56 v57 v58 K) : sw4.wp Try.prog (Exit.then K Q') ⟨l, []⟩ W := by
  obtain ⟨f, rfl⟩ := hl.lit
  conv => arg 2; whnf
  have HK := Lib.hid hK
  have HI := Lib.hid hI
  have H := Lib.hid h
  have HM := Lib.hid hmost
  have x2 : W.cell? ⟨X, 2, none⟩ = some (.int .u64 N) := h.x.cell (i := 2) (by omega)
  have hnow := hI.now64
  obtain ⟨b40, h40, h40'⟩ : ∃ b : Nat, (N : Int) % 40 = b ∧ b < 40 := ⟨N % 40, by omega, by omega⟩
  obtain ⟨e3, h3, h3'⟩ : ∃ b : Nat, (18446744073709551615 : Int) - (N : Int) % 3 = b ∧ b < 18446744073709551616 := ⟨18446744073709551615 - N % 3, by omega, by omega⟩
  clear hK hI h hl hmost
  by_cases hN1 : 18446744073709551606 < N
  · have tick := tick_any B.c σ.now σ.most e3 σ.dv W H.out.m.c hnow (by omega)
    have HT := Lib.hid tick
    clear tick
    by_cases hsum : σ.now + e3 < 18446744073709551616
    · have hsa : satadd σ.now e3 = σ.now + e3 := if_pos hsum
      have HS := Lib.hid hsa
      clear hsa
      go_wp2_with fail
      refine HT.out.mono ?_
      rintro e w1 ⟨rfl, hr1, hg1⟩
      rw [HS.out] at hr1
      have h1 := Lib.hid (H.out.putC hg1 hr1)
      clear hr1 hg1
      go_wp2_with fail
      refine HK.out _ _ { σ with now := σ.now + e3 } lv xs _ ⟨rfl, rfl, rfl, rfl, ?_, rfl, rfl, rfl, rfl, rfl, rfl, rfl, rfl, rfl, rfl, rfl, rfl, rfl⟩ h1.out HM.out (HI.out.next0 h1.out rfl HI.out.same HI.out.hn HI.out.hk HI.out.hw HI.out.n0 (by have := HI.out.n1; show σ.n ≤ _; omega) hsum HI.out.most64)
      simp
    · have hsa : satadd σ.now e3 = 18446744073709551615 := if_neg hsum
      have HS := Lib.hid hsa
      have hwr : IntKind.u64.wrap ((σ.now : Int) + (e3 : Int)) = (σ.now : Int) + (e3 : Int) - 18446744073709551616 := wrap64_over (by omega) (by omega)
      obtain ⟨zz, hzz⟩ : ∃ z : Int, (σ.now : Int) + (e3 : Int) - 18446744073709551616 = z := ⟨_, rfl⟩
      have hz1 : zz < (e3 : Int) := by omega
      have hz0 : 0 ≤ zz := by omega
      rw [hzz] at hwr
      clear hsa hzz
      go_wp2_with fail
      refine HT.out.mono ?_
      rintro e w1 ⟨rfl, hr1, hg1⟩
      rw [HS.out] at hr1
      have h1 := Lib.hid (H.out.putC hg1 hr1)
      clear hr1 hg1
      go_wp2_with fail
      refine HK.out _ _ { σ with now := 18446744073709551615 } lv xs _ ⟨rfl, rfl, rfl, rfl, ?_, rfl, rfl, rfl, rfl, rfl, rfl, rfl, rfl, rfl, rfl, rfl, rfl, rfl⟩ h1.out HM.out (HI.out.next0 h1.out rfl HI.out.same HI.out.hn HI.out.hk HI.out.hw HI.out.n0 (by have := HI.out.n1; show σ.n ≤ _; omega) (show (18446744073709551615 : Nat) < _ by decide) HI.out.most64)
      simp
  · have tick := tick_any B.c σ.now σ.most b40 σ.dv W H.out.m.c hnow (by omega)
    have HT := Lib.hid tick
    clear tick
    by_cases hsum : σ.now + b40 < 18446744073709551616
    · have hsa : satadd σ.now b40 = σ.now + b40 := if_pos hsum
      have HS := Lib.hid hsa
      clear hsa
      go_wp2_with fail
      refine HT.out.mono ?_
      rintro e w1 ⟨rfl, hr1, hg1⟩
      rw [HS.out] at hr1
      have h1 := Lib.hid (H.out.putC hg1 hr1)
      clear hr1 hg1
      go_wp2_with fail
      refine HK.out _ _ { σ with now := σ.now + b40 } lv xs _ ⟨rfl, rfl, rfl, rfl, ?_, rfl, rfl, rfl, rfl, rfl, rfl, rfl, rfl, rfl, rfl, rfl, rfl, rfl⟩ h1.out HM.out (HI.out.next0 h1.out rfl HI.out.same HI.out.hn HI.out.hk HI.out.hw HI.out.n0 (by have := HI.out.n1; show σ.n ≤ _; omega) hsum HI.out.most64)
      simp
    · have hsa : satadd σ.now b40 = 18446744073709551615 := if_neg hsum
      have HS := Lib.hid hsa
      have hwr : IntKind.u64.wrap ((σ.now : Int) + (b40 : Int)) = (σ.now : Int) + (b40 : Int) - 18446744073709551616 := wrap64_over (by omega) (by omega)
      obtain ⟨zz, hzz⟩ : ∃ z : Int, (σ.now : Int) + (b40 : Int) - 18446744073709551616 = z := ⟨_, rfl⟩
      have hz1 : zz < (b40 : Int) := by omega
      have hz0 : 0 ≤ zz := by omega
      rw [hzz] at hwr
      clear hsa hzz
      go_wp2_with fail
      refine HT.out.mono ?_
      rintro e w1 ⟨rfl, hr1, hg1⟩
      rw [HS.out] at hr1
      have h1 := Lib.hid (H.out.putC hg1 hr1)
      clear hr1 hg1
      go_wp2_with fail
      refine HK.out _ _ { σ with now := 18446744073709551615 } lv xs _ ⟨rfl, rfl, rfl, rfl, ?_, rfl, rfl, rfl, rfl, rfl, rfl, rfl, rfl, rfl, rfl, rfl, rfl, rfl⟩ h1.out HM.out (HI.out.next0 h1.out rfl HI.out.same HI.out.hn HI.out.hk HI.out.hw HI.out.n0 (by have := HI.out.n1; show σ.n ≤ _; omega) (show (18446744073709551615 : Nat) < _ by decide) HI.out.most64)
      simp

end Go.Proofs.YtpnpjiaciolgiaaR
