/- TopSlept, the switch: more draws. -/
import Derived.Test.YtpnpjiaciolgiaaRFam
import Derived.Deep.RegionWith
import Derived.Deep.RegionHeld3
namespace Go.Proofs.YtpnpjiaciolgiaaR
open Go.RowKit

set_option maxRecDepth 100000 in
set_option maxHeartbeats 1000000 in
theorem sw_3 {B : Blk} {b0 : Nat} {w0 wr : World} {X pb ib M : Nat} {d pr : Int} {N : Nat} {P : Int} {σ : St} {W : World} {k most : Nat} {lv v56 v57 v58 : Value} {xs : List Nat} {l : Array Value} {K : Act → World → Prop} {Q' : Exit → Act → World → Prop}
    (hl : FrS B most X pb ib (mineAt B M P) (.int .u64 σ.now) lv v56 v57 v58 (.int .u8 3) l) (h : RS B wr X pb ib M d pr N P σ W) (hI : LI B b0 w0 k σ lv xs wr) (hN : N < 18446744073709551616) (hmost : σ.most = most)
    (hK : SwK B b0 w0 wr X pb ib M d pr N P k most v56 v57 v58 K) (hk : k < 100) : sw4.wp Try.prog (Exit.then K Q') ⟨l, []⟩ W := by
  obtain ⟨f, rfl⟩ := hl.lit
  conv => arg 2; whnf
  have HK := Lib.hid hK
  have HI := Lib.hid hI
  have H := Lib.hid h
  have HM := Lib.hid hmost
  obtain ⟨i0, hi0, hz0, hz1, hz2⟩ := info_parts info35
  have x2 : W.cell? ⟨X, 2, none⟩ = some (.int .u64 N) := h.x.cell (i := 2) (by omega)
  have hXl := h.x.lt
  have x2a : ∀ o, (W.alloc o).cell? ⟨X, 2, none⟩ = some (.int .u64 N) := fun o => (World.cell?_alloc_lt W o _ hXl).trans x2
  obtain ⟨q3, hq3, hq3'⟩ : ∃ b : Nat, (N : Int) / 3 = b ∧ b < 18446744073709551616 := ⟨N / 3, by omega, by omega⟩
  have hq3t : (N : Int).tdiv 3 = q3 := by rw [Int.tdiv_eq_ediv_of_nonneg (by omega)]; exact hq3
  have HRD := Lib.hid (hI.rd.ch hI.fd h.ch)
  have HRL := Lib.hid (hI.rl.ch hI.fl h.ch)
  have HFL := Lib.hid (hI.fl.ne (r := B.c) (.inl rfl))
  have HOUT := Lib.hid (fun (j : Nat) (hj : W.heap.size ≤ j) => (show ¬ B.has j from by have := h.ok.h1; have := h.ok.h2; have := h.ok.h3; have := h.ok.h4; have := h.lt; have := h.hT; unfold Blk.has; omega))
  have HBC := Lib.hid (show W.heap.size ≠ B.c from by have := h.ok.h1; have := h.ok.h2; have := h.ok.h3; have := h.ok.h4; have := h.lt; have := h.hT; omega)
  obtain ⟨Al, cl, rfl, hlc, hlm⟩ := hI.rl.form
  unfold maxLen at hlm
  have hw3 : N % 3 = 0 ∨ N % 3 = 1 ∨ N % 3 = 2 := by omega
  clear hK hI h hl hmost
  rcases hw3 with hw3 | hw3 | hw3
  · have hmod : (N : Int) % 3 = 0 := by omega
    go_wp2_with fail
    have hbe : Below W.heap.size W (W.alloc (.cells #[.int .u64 N, .int .u64 q3] 35)) := (Below.refl _ W).alloc (Nat.le_refl _) _
    have h0 := H.out.below hbe
    have hy : Rd (W.alloc (.cells #[.int .u64 N, .int .u64 q3] 35)) (.slice (some ⟨W.heap.size, 0, none⟩) 0 2) [] :=
      ⟨some ⟨W.heap.size, 0, none⟩, 2, rfl, by simp, by decide, fun _ => ⟨W.heap.size, 0, rfl, by simp, fun j hj => by
        rw [cell_of_row _ W.heap.size (0 + j) _ 35 (0, 0) (heap_alloc_new W _)]
        exact absurd hj (Nat.not_lt_zero _)⟩⟩
    have hdv := (HRD.out.below hbe)
    have hlv := (HRL.out.below hbe)
    obtain ⟨W1, hW1⟩ : ∃ W1, W1 = W.alloc (.cells #[.int .u64 N, .int .u64 q3] 35) := ⟨_, rfl⟩
    rw [← hW1] at hbe h0 hy hdv hlv ⊢
    have HW1 := Lib.hid hW1
    clear hW1
    refine (more_any B.c σ.now σ.most σ.dv _ xs [] W1 h0.m.c hdv hy (by have := HI.out.len; simp; omega)).mono ?_
    rintro e w1 ⟨rfl, ⟨v', hr1, hd1, ho1⟩, hg1, hl1⟩
    have h1 := h0.putC hg1 hr1
    have hy1 := hy.grown hg1 (.inr (by simp [Value.ownBlock]; exact HBC.out))
    have hlv1 := hlv.grown hg1 (.inr HFL.out)
    have H1 := Lib.hid h1
    have HD1 := Lib.hid hd1
    have HO1 := Lib.hid ho1
    have HL1 := Lib.hid hl1
    have HLV1 := Lib.hid hlv1
    have HY1 := Lib.hid hy1
    have HS1 := Lib.hid hbe.size
    have HS2 := Lib.hid hg1.size
    clear h0 hr1 hd1 ho1 hg1 hl1 h1 hy hdv hlv hlv1 hy1 hbe
    go_wp2_with fail
    refine (clone_any _ xs w1 HLV1.out (by have := HI.out.len; omega)).mono ?_
    rintro e w2 ⟨⟨lv2, rfl, hsl, hfl2⟩, hb2⟩
    have h2 := H1.out.below hb2
    have hd2 := HD1.out.below hb2
    have H2 := Lib.hid h2
    have HD2 := Lib.hid hd2
    have HSL := Lib.hid hsl
    have HFL2 := Lib.hid hfl2
    have HB2 := Lib.hid hb2
    have hy2 := HY1.out.below hb2
    clear h2 hd2 hfl2 hb2
    have hsz : wr.heap.size ≤ w2.heap.size := Nat.le_trans H1.out.ch.size HB2.out.size
    have HOWN := Lib.hid (show Far B lv2 w2 from fun j hj => ⟨HOUT.out j (by have h1 := HSL.out.own hj; have h2 := HS1.out; have h3 := HS2.out; omega), HFL2.out j hj⟩)
    have HFV := Lib.hid (show Far B v' w2 from fun j hj => ⟨HOUT.out j (by have h1 := HO1.out; rw [hj] at h1; injection h1 with h1; have h2 := HS1.out; omega), by have h1 := HO1.out; rw [hj] at h1; injection h1 with h1; have h2 := HL1.out; have h3 := HB2.out.size; omega⟩)
    have hd3 := HD2.out
    rw [List.append_nil] at hd3
    have HD3 := Lib.hid hd3
    have HRL3 := Lib.hid hsl.rd
    obtain ⟨A9, c9, hv9, hle9, _⟩ := hsl.form
    subst hv9
    clear hsl hy2 hsz hd3 HSL HFL2
    go_wp2_with (at_builtin; refine wpList_append_zero (by rfl) (.tmp 206) (.tmp 207) 34 (by rfl) 35 i0 Try.underlying34 hi0 A9 xs.length c9 (by rfl) hle9 ⟨W.heap.size, 0, none⟩ 2 (by rfl) ?_)
    all_goals
      refine (fun hfr => HK.out _ _ { σ with now := σ.now, dv := v' } _ xs _ hfr H2.out HM.out (HI.out.next H2.out HD3.out HRL3.out HFV.out HOWN.out HI.out.same HI.out.hn HI.out.hk HI.out.hw HI.out.n0 (by have := HI.out.n1; show σ.n ≤ _; omega) (by have := HI.out.len; omega) HI.out.x64 HI.out.now64 HI.out.most64)) ⟨rfl, rfl, rfl, rfl, rfl, rfl, rfl, rfl, rfl, rfl, rfl, rfl, rfl, rfl, rfl, rfl, rfl, rfl⟩
  · have hmod : (N : Int) % 3 = 1 := by omega
    go_wp2_with fail
    have hbe : Below W.heap.size W (W.alloc (.cells #[.int .u64 N, .int .u64 q3] 35)) := (Below.refl _ W).alloc (Nat.le_refl _) _
    have h0 := H.out.below hbe
    have hy : Rd (W.alloc (.cells #[.int .u64 N, .int .u64 q3] 35)) (.slice (some ⟨W.heap.size, 0, none⟩) 1 2) [N] :=
      ⟨some ⟨W.heap.size, 0, none⟩, 2, rfl, by simp, by decide, fun _ => ⟨W.heap.size, 0, rfl, by simp, fun j hj => by
        rw [cell_of_row _ W.heap.size (0 + j) _ 35 (0, 0) (heap_alloc_new W _)]
        simp at hj
        obtain rfl : j = 0 := by omega
        rfl⟩⟩
    have hdv := (HRD.out.below hbe)
    have hlv := (HRL.out.below hbe)
    obtain ⟨W1, hW1⟩ : ∃ W1, W1 = W.alloc (.cells #[.int .u64 N, .int .u64 q3] 35) := ⟨_, rfl⟩
    rw [← hW1] at hbe h0 hy hdv hlv ⊢
    have HW1 := Lib.hid hW1
    clear hW1
    refine (more_any B.c σ.now σ.most σ.dv _ xs [N] W1 h0.m.c hdv hy (by have := HI.out.len; simp; omega)).mono ?_
    rintro e w1 ⟨rfl, ⟨v', hr1, hd1, ho1⟩, hg1, hl1⟩
    have h1 := h0.putC hg1 hr1
    have hy1 := hy.grown hg1 (.inr (by simp [Value.ownBlock]; exact HBC.out))
    have hlv1 := hlv.grown hg1 (.inr HFL.out)
    have H1 := Lib.hid h1
    have HD1 := Lib.hid hd1
    have HO1 := Lib.hid ho1
    have HL1 := Lib.hid hl1
    have HLV1 := Lib.hid hlv1
    have HY1 := Lib.hid hy1
    have HS1 := Lib.hid hbe.size
    have HS2 := Lib.hid hg1.size
    clear h0 hr1 hd1 ho1 hg1 hl1 h1 hy hdv hlv hlv1 hy1 hbe
    go_wp2_with fail
    refine (clone_any _ xs w1 HLV1.out (by have := HI.out.len; omega)).mono ?_
    rintro e w2 ⟨⟨lv2, rfl, hsl, hfl2⟩, hb2⟩
    have h2 := H1.out.below hb2
    have hd2 := HD1.out.below hb2
    have H2 := Lib.hid h2
    have HD2 := Lib.hid hd2
    have HSL := Lib.hid hsl
    have HFL2 := Lib.hid hfl2
    have HB2 := Lib.hid hb2
    have hy2 := HY1.out.below hb2
    clear h2 hd2 hfl2 hb2
    have hsrc := hy2.src (by simp [nums])
    obtain ⟨ad, hA, hnews⟩ := hsrc
    injection hA with hA
    subst hA
    have HNW := Lib.hid hnews
    clear hsl hy2 hnews
    go_wp2_with (at_builtin; refine wpList_append_sl _ (by rfl) (.tmp 206) (.tmp 207) 34 (by rfl) w1.heap.size 35 i0 (.int .u64 0) 1 8 Try.underlying34 hi0 hz0 hz1 hz2 rfl (by decide) _ xs.length (nums xs) (by rfl) HSL.out ⟨W.heap.size, 0, none⟩ 1 2 (nums [N]) (by rfl) (by decide) (by rfl) HNW.out (nums_one _) (by have := HI.out.len; unfold maxLen; omega) (by have := HI.out.len; omega) HB2.out.size ?_; intro v9 w8 hsl8 hg8 hat8; have HSL8 := Lib.hid hsl8; have HG8 := Lib.hid hg8; clear hsl8 hg8 hat8)
    have hb8 : Below w1.heap.size w2 w8 := (Below.refl _ _).grown HG8.out HB2.out.size (fun j hj => HSL.out.own hj)
    have h8 := HB2.out.trans hb8
    have hr8 := H1.out.below h8
    have hsl9 : Sl w8 w1.heap.size 35 1 v9 (xs.length + 1) (nums (xs ++ [N])) := by rw [nums_app]; exact HSL8.out
    have hlen9 : (xs ++ [N]).length = xs.length + 1 := by simp
    exact HK.out _ _ { σ with now := σ.now, dv := v' } v9 (xs ++ [N]) _ ⟨rfl, rfl, rfl, rfl, rfl, rfl, rfl, rfl, rfl, rfl, rfl, rfl, rfl, rfl, rfl, rfl, rfl, rfl⟩ hr8 HM.out (HI.out.next hr8 (HD1.out.below h8) hsl9.rd (fun j hj => ⟨HOUT.out j (by have h1 := HO1.out; rw [hj] at h1; injection h1 with h1; have h2 := HS1.out; omega), by have h1 := HO1.out; rw [hj] at h1; injection h1 with h1; have h2 := HL1.out; have h3 := h8.size; omega⟩) (fun j hj => ⟨HOUT.out j (by have h1 := hsl9.own hj; have h2 := HS1.out; have h3 := HS2.out; omega), by
      obtain ⟨g9, off9, c9, hv9, _, _, _, hl9, _⟩ := hsl9.at_ (by omega)
      rw [hv9] at hj
      simp [Value.ownBlock] at hj
      omega⟩) HI.out.same HI.out.hn HI.out.hk HI.out.hw HI.out.n0 (by have := HI.out.n1; show σ.n ≤ _; omega) (by have := HI.out.len; rw [hlen9]; omega) (fun y hy => by
      rcases List.mem_append.1 hy with hy | hy
      · exact HI.out.x64 y hy
      · simp at hy
        omega) HI.out.now64 HI.out.most64)
  · have hmod : (N : Int) % 3 = 2 := by omega
    go_wp2_with fail
    have hbe : Below W.heap.size W (W.alloc (.cells #[.int .u64 N, .int .u64 q3] 35)) := (Below.refl _ W).alloc (Nat.le_refl _) _
    have h0 := H.out.below hbe
    have hy : Rd (W.alloc (.cells #[.int .u64 N, .int .u64 q3] 35)) (.slice (some ⟨W.heap.size, 0, none⟩) 2 2) [N, q3] :=
      ⟨some ⟨W.heap.size, 0, none⟩, 2, rfl, by simp, by decide, fun _ => ⟨W.heap.size, 0, rfl, by simp, fun j hj => by
        rw [cell_of_row _ W.heap.size (0 + j) _ 35 (0, 0) (heap_alloc_new W _)]
        simp at hj
        rcases (show j = 0 ∨ j = 1 by omega) with rfl | rfl <;> rfl⟩⟩
    have hdv := (HRD.out.below hbe)
    have hlv := (HRL.out.below hbe)
    obtain ⟨W1, hW1⟩ : ∃ W1, W1 = W.alloc (.cells #[.int .u64 N, .int .u64 q3] 35) := ⟨_, rfl⟩
    rw [← hW1] at hbe h0 hy hdv hlv ⊢
    have HW1 := Lib.hid hW1
    clear hW1
    refine (more_any B.c σ.now σ.most σ.dv _ xs [N, q3] W1 h0.m.c hdv hy (by have := HI.out.len; simp; omega)).mono ?_
    rintro e w1 ⟨rfl, ⟨v', hr1, hd1, ho1⟩, hg1, hl1⟩
    have h1 := h0.putC hg1 hr1
    have hy1 := hy.grown hg1 (.inr (by simp [Value.ownBlock]; exact HBC.out))
    have hlv1 := hlv.grown hg1 (.inr HFL.out)
    have H1 := Lib.hid h1
    have HD1 := Lib.hid hd1
    have HO1 := Lib.hid ho1
    have HL1 := Lib.hid hl1
    have HLV1 := Lib.hid hlv1
    have HY1 := Lib.hid hy1
    have HS1 := Lib.hid hbe.size
    have HS2 := Lib.hid hg1.size
    clear h0 hr1 hd1 ho1 hg1 hl1 h1 hy hdv hlv hlv1 hy1 hbe
    go_wp2_with fail
    refine (clone_any _ xs w1 HLV1.out (by have := HI.out.len; omega)).mono ?_
    rintro e w2 ⟨⟨lv2, rfl, hsl, hfl2⟩, hb2⟩
    have h2 := H1.out.below hb2
    have hd2 := HD1.out.below hb2
    have H2 := Lib.hid h2
    have HD2 := Lib.hid hd2
    have HSL := Lib.hid hsl
    have HFL2 := Lib.hid hfl2
    have HB2 := Lib.hid hb2
    have hy2 := HY1.out.below hb2
    clear h2 hd2 hfl2 hb2
    have hsrc := hy2.src (by simp [nums])
    obtain ⟨ad, hA, hnews⟩ := hsrc
    injection hA with hA
    subst hA
    have HNW := Lib.hid hnews
    clear hsl hy2 hnews
    go_wp2_with (at_builtin; refine wpList_append_sl _ (by rfl) (.tmp 206) (.tmp 207) 34 (by rfl) w1.heap.size 35 i0 (.int .u64 0) 1 8 Try.underlying34 hi0 hz0 hz1 hz2 rfl (by decide) _ xs.length (nums xs) (by rfl) HSL.out ⟨W.heap.size, 0, none⟩ 2 2 (nums [N, q3]) (by rfl) (by decide) (by rfl) HNW.out (nums_one _) (by have := HI.out.len; unfold maxLen; omega) (by have := HI.out.len; omega) HB2.out.size ?_; intro v9 w8 hsl8 hg8 hat8; have HSL8 := Lib.hid hsl8; have HG8 := Lib.hid hg8; clear hsl8 hg8 hat8)
    have hb8 : Below w1.heap.size w2 w8 := (Below.refl _ _).grown HG8.out HB2.out.size (fun j hj => HSL.out.own hj)
    have h8 := HB2.out.trans hb8
    have hr8 := H1.out.below h8
    have hsl9 : Sl w8 w1.heap.size 35 1 v9 (xs.length + 2) (nums (xs ++ [N, q3])) := by rw [nums_app]; exact HSL8.out
    have hlen9 : (xs ++ [N, q3]).length = xs.length + 2 := by simp
    exact HK.out _ _ { σ with now := σ.now, dv := v' } v9 (xs ++ [N, q3]) _ ⟨rfl, rfl, rfl, rfl, rfl, rfl, rfl, rfl, rfl, rfl, rfl, rfl, rfl, rfl, rfl, rfl, rfl, rfl⟩ hr8 HM.out (HI.out.next hr8 (HD1.out.below h8) hsl9.rd (fun j hj => ⟨HOUT.out j (by have h1 := HO1.out; rw [hj] at h1; injection h1 with h1; have h2 := HS1.out; omega), by have h1 := HO1.out; rw [hj] at h1; injection h1 with h1; have h2 := HL1.out; have h3 := h8.size; omega⟩) (fun j hj => ⟨HOUT.out j (by have h1 := hsl9.own hj; have h2 := HS1.out; have h3 := HS2.out; omega), by
      obtain ⟨g9, off9, c9, hv9, _, _, _, hl9, _⟩ := hsl9.at_ (by omega)
      rw [hv9] at hj
      simp [Value.ownBlock] at hj
      omega⟩) HI.out.same HI.out.hn HI.out.hk HI.out.hw HI.out.n0 (by have := HI.out.n1; show σ.n ≤ _; omega) (by have := HI.out.len; rw [hlen9]; omega) (fun y hy => by
      rcases List.mem_append.1 hy with hy | hy
      · exact HI.out.x64 y hy
      · simp at hy
        rcases hy with rfl | rfl <;> omega) HI.out.now64 HI.out.most64)

end Go.Proofs.YtpnpjiaciolgiaaR
