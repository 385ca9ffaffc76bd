/- TopSlept, the switch: a draw. -/
import Derived.Test.YtpnpjiaciolgiaaRFrame
import Derived.Deep.RegionWith
import Derived.Deep.RegionHeld3
namespace Go.Proofs.YtpnpjiaciolgiaaR
open Go.RowKit

set_option maxRecDepth 100000 in
set_option maxHeartbeats 1000000 in
theorem sw_2 {B : Blk} {b0 : Nat} {w0 wr : World} {X pb ib M : Nat} {d pr : Int} {N : Nat} {P : Int} {σ : St} {W : World} {k most : Nat} {lv v56 v57 v58 : Value} {xs : List Nat} {l : Array Value} {K : Act → World → Prop} {Q' : Exit → Act → World → Prop}
    (hl : FrS B most X pb ib (mineAt B M P) (.int .u64 σ.now) lv v56 v57 v58 (.int .u8 2) l) (h : RS B wr X pb ib M d pr N P σ W) (hI : LI B b0 w0 k σ lv xs wr) (hN : N < 18446744073709551616) (hmost : σ.most = most)
    (hK : SwK B b0 w0 wr X pb ib M d pr N P k most v56 v57 v58 K) (hk : k < 100) : sw4.wp Try.prog (Exit.then K Q') ⟨l, []⟩ W := by
  obtain ⟨f, rfl⟩ := hl.lit
  conv => arg 2; whnf
  have HK := Lib.hid hK
  have HI := Lib.hid hI
  have H := Lib.hid h
  have HM := Lib.hid hmost
  have hc := h.m.c
  obtain ⟨A, c, rfl, hnc, hc63⟩ := hI.rl.form
  have hm64 := hI.most64
  rw [hmost] at hm64
  unfold maxLen at hc63
  rcases xs with _ | ⟨x, xs⟩
  · have hd := Lib.hid (draw_none B.c σ.now σ.most σ.dv W hc (hI.rd.ch hI.fd h.ch))
    clear hK hI h hl hmost hc
    rw [List.length_nil] at hnc ⊢
    go_wp2_with fail
    refine hd.out.mono ?_
    rintro e w1 ⟨rfl, rfl⟩
    go_wp2_with fail
    exact HK.out _ _ σ _ [] _ ⟨rfl, rfl, rfl, rfl, rfl, rfl, rfl, rfl, rfl, rfl, rfl, rfl, rfl, rfl, rfl, rfl, rfl, rfl⟩ H.out HM.out (HI.out.next0 H.out rfl HI.out.same HI.out.hn HI.out.hk HI.out.hw HI.out.n0 (by have := HI.out.n1; omega) HI.out.now64 HI.out.most64)
  · have hx64 := hI.x64 x (List.mem_cons_self ..)
    have hd := Lib.hid (draw_one B.c σ.now σ.most x xs σ.dv W hc (hI.rd.ch hI.fd h.ch) (hI.fd.ne (.inl rfl)) hI.most64 hx64)
    have hrl := hI.rl.ch hI.fl h.ch
    obtain ⟨g, off, c', hv, hnc', hc63', ce, hcut⟩ := hrl.tail
    injection hv with e1 _ e2
    subst e1 e2
    have HCUT := Lib.hid hcut
    have HRD := Lib.hid (hI.rd.ch hI.fd h.ch)
    have HNE := Lib.hid (hI.fd.ne (r := B.c) (.inl rfl))
    have HFL := Lib.hid (hI.fl.ne (r := B.c) (.inl rfl))
    clear hK hI h hl hmost hc hrl hcut hc63'
    rw [List.length_cons]
    by_cases hmm : most = 18446744073709551615
    · by_cases hc1 : c = 1
      · subst hc1
        obtain rfl : xs = [] := List.eq_nil_of_length_eq_zero (by simp at hnc'; omega)
        have hmt : most = 18446744073709551615 := hmm
        have hdr : drawN σ.most x = x := by rw [HM.out]; exact if_pos hmm
        have HDR := Lib.hid hdr
        clear hdr
        go_wp2_with fail
        go_quiet (fail)
        go_wp2_with fail
        have hr0 := H.out.below (W' := W.drewN nq) (Below.keep (Below.refl _ W) nq)
        refine (draw_one B.c σ.now σ.most x _ σ.dv (W.drewN nq) hr0.m.c (HRD.out.below (Below.keep (Below.refl _ W) nq)) HNE.out HI.out.most64 hx64).mono ?_
        rintro e w1 ⟨rfl, ⟨v', hr1, hd1, ho1⟩, hg1⟩
        have h1 := hr0.putC hg1 hr1
        have H1 := Lib.hid h1
        have HD1 := Lib.hid hd1
        have HO1 := Lib.hid ho1
        have HG1 := Lib.hid hg1
        clear hr0 h1 hr1 hd1 ho1 hg1
        rw [HDR.out]
        go_wp2_with fail
        have hsz : wr.heap.size ≤ w1.heap.size := Nat.le_trans H.out.ch.size HG1.out.size
        have hrl : Rd w1 (.slice (some ⟨g, off, none⟩) 0 0) [] := Rd.grown (w := W.drewN nq) (HCUT.out (some ⟨g, off, none⟩) (by simp)) HG1.out (.inr HFL.out)
        exact HK.out _ _ { σ with now := σ.now, dv := v' } (.slice (some ⟨g, off, none⟩) 0 0) [] _ ⟨rfl, by first | rfl | exact (congrArg (fun t : Nat => Value.int .u64 (t : Int)) hmt).symm, rfl, rfl, rfl, rfl, rfl, rfl, rfl, rfl, rfl, rfl, rfl, rfl, rfl, rfl, rfl, rfl⟩ H1.out HM.out (HI.out.next H1.out HD1.out hrl (fun j hj => (HI.out.fd.size hsz) j (by rw [← HO1.out]; exact hj)) (fun j hj => (HI.out.fl.size hsz) j hj) HI.out.same HI.out.hn HI.out.hk HI.out.hw HI.out.n0 (by have := HI.out.n1; show σ.n ≤ _; omega) (by have := HI.out.len; simp only [List.length_cons, List.length_nil] at this ⊢; omega) (fun y hy => HI.out.x64 y (List.mem_cons_of_mem _ hy)) HI.out.now64 HI.out.most64)
      · have hmt : most = 18446744073709551615 := hmm
        have hdr : drawN σ.most x = x := by rw [HM.out]; exact if_pos hmm
        have HDR := Lib.hid hdr
        clear hdr
        go_wp2_with fail
        go_quiet (fail)
        go_wp2_with fail
        have hr0 := H.out.below (W' := W.drewN nq) (Below.keep (Below.refl _ W) nq)
        refine (draw_one B.c σ.now σ.most x _ σ.dv (W.drewN nq) hr0.m.c (HRD.out.below (Below.keep (Below.refl _ W) nq)) HNE.out HI.out.most64 hx64).mono ?_
        rintro e w1 ⟨rfl, ⟨v', hr1, hd1, ho1⟩, hg1⟩
        have h1 := hr0.putC hg1 hr1
        have H1 := Lib.hid h1
        have HD1 := Lib.hid hd1
        have HO1 := Lib.hid ho1
        have HG1 := Lib.hid hg1
        clear hr0 h1 hr1 hd1 ho1 hg1
        rw [HDR.out]
        go_wp2_with fail
        have hsz : wr.heap.size ≤ w1.heap.size := Nat.le_trans H.out.ch.size HG1.out.size
        have hrl : Rd w1 (.slice (some ⟨g, off + 1, none⟩) xs.length (c - 1)) xs := Rd.grown (w := W.drewN nq) (HCUT.out (some ⟨g, off + 1, none⟩) (.inr rfl)) HG1.out (.inr HFL.out)
        exact HK.out _ _ { σ with now := σ.now, dv := v' } (.slice (some ⟨g, off + 1, none⟩) xs.length (c - 1)) xs _ ⟨rfl, by first | rfl | exact (congrArg (fun t : Nat => Value.int .u64 (t : Int)) hmt).symm, rfl, rfl, rfl, rfl, rfl, rfl, rfl, rfl, rfl, rfl, rfl, rfl, rfl, rfl, rfl, rfl⟩ H1.out HM.out (HI.out.next H1.out HD1.out hrl (fun j hj => (HI.out.fd.size hsz) j (by rw [← HO1.out]; exact hj)) (fun j hj => (HI.out.fl.size hsz) j hj) HI.out.same HI.out.hn HI.out.hk HI.out.hw HI.out.n0 (by have := HI.out.n1; show σ.n ≤ _; omega) (by have := HI.out.len; simp only [List.length_cons, List.length_nil] at this ⊢; omega) (fun y hy => HI.out.x64 y (List.mem_cons_of_mem _ hy)) HI.out.now64 HI.out.most64)
    · by_cases hc1 : c = 1
      · subst hc1
        obtain rfl : xs = [] := List.eq_nil_of_length_eq_zero (by simp at hnc'; omega)
        have hmt : (most : Int) < 18446744073709551615 := by omega
        have hdr : drawN σ.most x = x % (most + 1) := by rw [HM.out]; exact if_neg hmm
        have HDR := Lib.hid hdr
        clear hdr hmm
        go_wp2_with fail
        go_quiet (fail)
        go_wp2_with fail
        have hr0 := H.out.below (W' := W.drewN nq) (Below.keep (Below.refl _ W) nq)
        refine (draw_one B.c σ.now σ.most x _ σ.dv (W.drewN nq) hr0.m.c (HRD.out.below (Below.keep (Below.refl _ W) nq)) HNE.out HI.out.most64 hx64).mono ?_
        rintro e w1 ⟨rfl, ⟨v', hr1, hd1, ho1⟩, hg1⟩
        have h1 := hr0.putC hg1 hr1
        have H1 := Lib.hid h1
        have HD1 := Lib.hid hd1
        have HO1 := Lib.hid ho1
        have HG1 := Lib.hid hg1
        clear hr0 h1 hr1 hd1 ho1 hg1
        rw [HDR.out]
        go_wp2_with fail
        have hsz : wr.heap.size ≤ w1.heap.size := Nat.le_trans H.out.ch.size HG1.out.size
        have hrl : Rd w1 (.slice (some ⟨g, off, none⟩) 0 0) [] := Rd.grown (w := W.drewN nq) (HCUT.out (some ⟨g, off, none⟩) (by simp)) HG1.out (.inr HFL.out)
        exact HK.out _ _ { σ with now := σ.now, dv := v' } (.slice (some ⟨g, off, none⟩) 0 0) [] _ ⟨rfl, by first | rfl | exact (congrArg (fun t : Nat => Value.int .u64 (t : Int)) hmt).symm, rfl, rfl, rfl, rfl, rfl, rfl, rfl, rfl, rfl, rfl, rfl, rfl, rfl, rfl, rfl, rfl⟩ H1.out HM.out (HI.out.next H1.out HD1.out hrl (fun j hj => (HI.out.fd.size hsz) j (by rw [← HO1.out]; exact hj)) (fun j hj => (HI.out.fl.size hsz) j hj) HI.out.same HI.out.hn HI.out.hk HI.out.hw HI.out.n0 (by have := HI.out.n1; show σ.n ≤ _; omega) (by have := HI.out.len; simp only [List.length_cons, List.length_nil] at this ⊢; omega) (fun y hy => HI.out.x64 y (List.mem_cons_of_mem _ hy)) HI.out.now64 HI.out.most64)
      · have hmt : (most : Int) < 18446744073709551615 := by omega
        have hdr : drawN σ.most x = x % (most + 1) := by rw [HM.out]; exact if_neg hmm
        have HDR := Lib.hid hdr
        clear hdr hmm
        go_wp2_with fail
        go_quiet (fail)
        go_wp2_with fail
        have hr0 := H.out.below (W' := W.drewN nq) (Below.keep (Below.refl _ W) nq)
        refine (draw_one B.c σ.now σ.most x _ σ.dv (W.drewN nq) hr0.m.c (HRD.out.below (Below.keep (Below.refl _ W) nq)) HNE.out HI.out.most64 hx64).mono ?_
        rintro e w1 ⟨rfl, ⟨v', hr1, hd1, ho1⟩, hg1⟩
        have h1 := hr0.putC hg1 hr1
        have H1 := Lib.hid h1
        have HD1 := Lib.hid hd1
        have HO1 := Lib.hid ho1
        have HG1 := Lib.hid hg1
        clear hr0 h1 hr1 hd1 ho1 hg1
        rw [HDR.out]
        go_wp2_with fail
        have hsz : wr.heap.size ≤ w1.heap.size := Nat.le_trans H.out.ch.size HG1.out.size
        have hrl : Rd w1 (.slice (some ⟨g, off + 1, none⟩) xs.length (c - 1)) xs := Rd.grown (w := W.drewN nq) (HCUT.out (some ⟨g, off + 1, none⟩) (.inr rfl)) HG1.out (.inr HFL.out)
        exact HK.out _ _ { σ with now := σ.now, dv := v' } (.slice (some ⟨g, off + 1, none⟩) xs.length (c - 1)) xs _ ⟨rfl, by first | rfl | exact (congrArg (fun t : Nat => Value.int .u64 (t : Int)) hmt).symm, rfl, rfl, rfl, rfl, rfl, rfl, rfl, rfl, rfl, rfl, rfl, rfl, rfl, rfl, rfl, rfl⟩ H1.out HM.out (HI.out.next H1.out HD1.out hrl (fun j hj => (HI.out.fd.size hsz) j (by rw [← HO1.out]; exact hj)) (fun j hj => (HI.out.fl.size hsz) j hj) HI.out.same HI.out.hn HI.out.hk HI.out.hw HI.out.n0 (by have := HI.out.n1; show σ.n ≤ _; omega) (by have := HI.out.len; simp only [List.length_cons, List.length_nil] at this ⊢; omega) (fun y hy => HI.out.x64 y (List.mem_cons_of_mem _ hy)) HI.out.now64 HI.out.most64)

end Go.Proofs.YtpnpjiaciolgiaaR
