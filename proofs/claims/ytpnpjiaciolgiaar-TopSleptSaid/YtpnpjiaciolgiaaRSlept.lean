/- TopSlept: the walk. -/
import Derived.Test.YtpnpjiaciolgiaaRSwAll
import Derived.Outline
import Derived.Deep.RegionWith
import Derived.Deep.RegionHeld3
import Derived.Deep.LoopGhost
import Derived.Deep.Cut
import Derived.Deep.CutRange
import Derived.Deep.CutBlock
namespace Go.Proofs.YtpnpjiaciolgiaaR
open Go.RowKit

def zeros512 : Array Value := ((List.range 512).map (pkF fun _ => Pk.nil)).toArray
set_option maxRecDepth 100000 in
theorem exec_alloc44 (ρ : Operand → Value) (dst : Option Tmp) (ty : TypeId) (pos : String) (after : Array Edge) (g : Option (Nat × Bool)) (w : World) :
    (execOp ρ ⟨dst, .alloc 44, ty, pos, after, g⟩).run Try.prog w = .ok (.value (.pointer (some ⟨w.heap.size, 0, none⟩))) (w.alloc (.cells zeros512 44)) := by kernel_rfl

set_option maxRecDepth 100000 in
/-- '[128]parker' is made, the world behind it a letter. -/
theorem wpList_own {w : World} {ops : Array Oper} {rest : List Oper} {dst : Option Tmp} {ty : TypeId} {pos : String} {after : Array Edge} {a : Act} {Q : Exit → Act → World → Prop}
    (h : ∀ w', w'.heap.size = w.heap.size + 1 → w'.rowIs w.heap.size 44 512 (pkF fun _ => Pk.nil) → Below w.heap.size w w' → wpList Try.prog ops Q rest (a.put dst (.pointer (some ⟨w.heap.size, 0, none⟩))) w') :
    wpList Try.prog ops Q (⟨dst, .alloc 44, ty, pos, after, none⟩ :: rest) a w :=
  wpList_run rfl (exec_alloc44 _ _ _ _ _ _ _) (h _ (by simp) (World.rowIs_alloc w zeros512 44 _ fun i hi => by
    simp only [zeros512, List.size_toArray, List.length_map, List.length_range] at hi
    simp [zeros512, hi]) ((Below.refl _ _).alloc (Nat.le_refl _) _))

/-- What the argument 'l' holds. -/
structure Things (A : Option Addr) (n : Nat) (D Pr : Nat → Int) (Nn : Nat → Nat) (w : World) : Prop where
  at_ : 0 < n → ∃ g off, A = some ⟨g, off, none⟩ ∧ g < w.heap.size ∧ ∀ i, i < n → w.cell? ⟨g, off + i * 3, none⟩ = some (.int .u8 (D i)) ∧ w.cell? ⟨g, off + i * 3 + 1, none⟩ = some (.int .u8 (Pr i)) ∧ w.cell? ⟨g, off + i * 3 + 2, none⟩ = some (.int .u64 (Nn i))
  d : ∀ i, i < n → 0 ≤ D i ∧ D i < 256
  p : ∀ i, i < n → 0 ≤ Pr i ∧ Pr i < 256
  n : ∀ i, i < n → Nn i < 18446744073709551616

/-- What holds ahead of each round of the second loop, and of the third. -/
def Loop2I (B : Blk) (w : World) (k : Nat) (σ : St) (lv : Value) (ys : List Nat) (g : Nat) (a : Act) (W : World) : Prop :=
  ∃ (j : Nat) (l : Array Value), a = ⟨l, []⟩ ∧ Fr2 (.pointer (some ⟨B.s, 0, none⟩)) (.pointer (some ⟨B.o, 0, none⟩)) (.int .i64 j) l ∧ g = 128 - j ∧ j ≤ 128 ∧ LI B B.c w k σ lv ys W
def Loop3I (b : Nat) (w : World) (g : Nat) (a : Act) (W : World) : Prop :=
  ∃ (t : Int) (l : Array Value), a = ⟨l, []⟩ ∧ Fr3 (.int .i64 t) l ∧ g = (66 - t).toNat ∧ -1 ≤ t ∧ t ≤ 66 ∧ Below b w W

/-- What holds ahead of each round of the great loop. -/
def LoopI (B : Blk) (w : World) (most L c2 : Nat) (A2 : Option Addr) (g : Nat) (a : Act) (W : World) : Prop :=
  ∃ (k : Nat) (σ : St) (lv : Value) (ys : List Nat) (l : Array Value) (p15 p16 p17 p18 p19 p88 : Value), a = ⟨l, []⟩ ∧
    Fr1 (.int .u64 most) (.pointer (some ⟨B.c, 0, none⟩)) (.pointer (some ⟨B.s, 0, none⟩)) (.int .u64 σ.now) lv (.pointer (some ⟨B.o, 0, none⟩)) (.pointer (some ⟨B.k, 0, none⟩)) (.pointer (some ⟨B.l, 0, none⟩)) p15 p16 p17 p18 p19 (.slice A2 L c2) (.int .i64 L) (.int .i64 k) p88 l ∧
    g = L - k ∧ k ≤ L ∧ σ.most = most ∧ LI B B.c w k σ lv ys W

set_option maxRecDepth 100000 in
set_option maxHeartbeats 4000000 in
theorem slept_walk (A0 A2 : Option Addr) (n0 c0 n2 c2 : Nat) (ds : List Nat) (most : Nat) (D Pr : Nat → Int) (Nn : Nat → Nat) (w : World)
    (hd : Rd w (.slice A0 n0 c0) ds) (hds : ds.length = n0) (hc0 : n0 ≤ c0) (hc0' : c0 ≤ maxLen) (hd64 : ∀ x, x ∈ ds → x < 18446744073709551616) (hm : most < 18446744073709551616) (ht : Things A2 n2 D Pr Nn w) (hc2 : n2 ≤ c2) (hc2' : c2 ≤ maxLen) :
    Calls Try.prog 4 #[.slice A0 n0 c0, .int .u64 most, .slice A2 n2 c2] w fun e w' => e = .returned (.bool true) ∧ Below w.heap.size w w' := by
  unfold maxLen at hc0' hc2'
  obtain ⟨K, hK⟩ : ∃ N : Nat, (N : Int) = if (20 : Int) < (n0 : Int) then (20 : Int) else (n0 : Int) := ⟨min n0 20, by split <;> omega⟩
  have hK1 : K ≤ n0 := by split at hK <;> omega
  have hK2 : K ≤ 20 := by split at hK <;> omega
  have HK := Lib.hid hK
  obtain ⟨L, hL⟩ : ∃ N : Nat, (N : Int) = if (100 : Int) < (n2 : Int) then (100 : Int) else (n2 : Int) := ⟨min n2 100, by split <;> omega⟩
  have hL1 : L ≤ n2 := by split at hL <;> omega
  have hL2 : L ≤ 100 := by split at hL <;> omega
  have HL := Lib.hid hL
  have hdt := hd.take hK1
  have hdl : (ds.take K).length = K := by rw [List.length_take]; omega
  have h64 : ∀ x, x ∈ ds.take K → x < 18446744073709551616 := fun x hx => hd64 x (List.mem_of_mem_take hx)
  have HT := Lib.hid ht
  obtain ⟨xs, hxs⟩ : ∃ xs, xs = ds.take K := ⟨_, rfl⟩
  rw [← hxs] at hdt hdl h64
  have HD := Lib.hid hdt
  have HDL := Lib.hid hdl
  have H64 := Lib.hid h64
  clear hd hds hd64 ht hdt hdl h64 hxs hK hL
  go_enter Try.func4, Try.ntmps4
  go_wp2_with (refine wpList_min (.tmp 36) #[3, 3] 20 n0 K (by rfl) (by rfl) (by rfl) HK.out ?_)
  refine (cnew_any most _ xs _ HD.out (by rw [HDL.out]; omega)).mono ?_
  rintro e w1 ⟨rfl, ⟨dv, hr1, hd1, ho1⟩, hb1, hs1⟩
  obtain ⟨bc, hbc⟩ : ∃ bc, bc = w.heap.size := ⟨_, rfl⟩
  rw [← hbc] at hr1 ho1 hs1
  have Hbc := Lib.hid hbc
  have Ho1 := Lib.hid ho1
  have hx1 := HD.out.below hb1
  have HD1 := Lib.hid hx1
  clear HD hx1 ho1
  rw [← hbc]
  clear hbc
  go_wp2_with fail
  refine (pnew_any _).mono ?_
  rintro e w2 ⟨rfl, hw2⟩
  obtain ⟨bs, hbs⟩ : ∃ bs, bs = w1.heap.size := ⟨_, rfl⟩
  have hb2 : Below w1.heap.size w1 w2 := by
    rw [hw2]
    exact (Below.refl _ _).alloc (Nat.le_refl _) _
  have hr2 : w2.rowIs bs 84 515 (PSet.f ⟨fun _ => Pk.nil, 0, 0, 0⟩) := by
    rw [hbs, hw2]
    exact (World.rowIs_alloc w1 zeros515 84 _ fun i hi => by
      simp only [zeros515, List.size_toArray, List.length_map, List.length_range] at hi
      simp [zeros515, hi])
  have hs2 : w2.heap.size = bs + 1 := by rw [hw2, hbs]; simp
  rw [← hbs]
  have hc2r := hr1.of_block (hb2.block _ hr1.lt)
  have hd2 := hd1.below hb2
  have hlt12 : bc < bs := by omega
  have HD2 := Lib.hid (HD1.out.below hb2)
  have Hb2 := Lib.hid (Below.trans hb1 (hb2.mono hb1.size))
  have HS2 := Lib.hid hs2
  have HR2 := Lib.hid hr2
  have HC2 := Lib.hid hc2r
  have HDV := Lib.hid hd2
  have Hbs := Lib.hid (show bc + 2 ≤ bs by omega)
  clear HD1 hd1 hr1 hb1 hs1 hw2 hb2 hbs hr2 hs2 hc2r hd2
  go_wp2_with fail
  refine (clone_any _ xs _ HD2.out (by rw [HDL.out]; omega)).mono ?_
  rintro e w3 ⟨⟨lv, rfl, hsl, hfl⟩, hb3⟩
  have hc3 := HC2.out.of_block (hb3.block _ HC2.out.lt)
  have hs3 := HR2.out.of_block (hb3.block _ HR2.out.lt)
  have hd3 := HDV.out.below hb3
  have Hb3 := Lib.hid (Below.trans Hb2.out (hb3.mono Hb2.out.size))
  have hl3 := hsl.rd
  have HFL := Lib.hid (fun j (hj : lv.ownBlock = some j) => (⟨hsl.own hj, hfl j hj⟩ : w2.heap.size ≤ j ∧ j < w3.heap.size))
  have HZ3 := Lib.hid (show bs + 1 ≤ w3.heap.size by have := hb3.size; have := HS2.out; omega)
  have HC3 := Lib.hid hc3
  have HR3 := Lib.hid hs3
  have HDV3 := Lib.hid hd3
  have HLV3 := Lib.hid hl3
  clear HC2 HR2 HDV hb3 hsl hfl hc3 hs3 hd3 hl3 HD2
  go_wp2_with (first
    | (refine wpList_own ?_; intro w4 hs4 hr4 hb4; obtain ⟨bo, hbo⟩ : ∃ bo, bo = w3.heap.size := ⟨_, rfl⟩; rw [← hbo] at hr4 hs4 ⊢; have HO4 := Lib.hid hr4; have HS4 := Lib.hid hs4; have HB4 := Lib.hid hb4; have HBO := Lib.hid hbo; clear hs4 hr4 hb4 hbo)
    | (refine wpList_min (.tmp 54) #[3, 3] 100 n2 L (by rfl) (by rfl) (by rfl) HL.out ?_))
  obtain ⟨B, hBc, hBs, hBo, hBk, hBl⟩ : ∃ B : Blk, bc = B.c ∧ bs = B.s ∧ bo = B.o ∧ w4.heap.size = B.k ∧ w4.heap.size + 1 = B.l := ⟨⟨bc, bs, bo, w4.heap.size, w4.heap.size + 1⟩, rfl, rfl, rfl, rfl, rfl⟩
  rw [hBl, hBk]
  have hBl' : B.l = B.k + 1 := by omega
  have hs4 : B.k = bo + 1 := by have := HS4.out; omega
  subst hBc hBs hBo
  have hlt := hlt12
  have hZ3 := HZ3.out
  have hBO := HBO.out
  have hbsz := Hbs.out
  have hBOk : B.Ok := ⟨hlt, by omega, by omega, by omega⟩
  have hsz5 : ((w4.alloc (.cells #[.int .i64 0] 3)).alloc (.cells #[.int .u8 0, .int .i64 0] 47)).heap.size = B.l + 1 := by simp; omega
  have hk5 : (w4.alloc (.cells #[.int .i64 0] 3)).rowIs B.k 3 1 (fun _ => .int .i64 0) := by
    rw [← hBk]
    exact World.rowIs_alloc w4 _ 3 _ fun i hi => by
      simp at hi
      subst hi
      rfl
  have hl5 : ((w4.alloc (.cells #[.int .i64 0] 3)).alloc (.cells #[.int .u8 0, .int .i64 0] 47)).rowIs B.l 47 2 (lstF 0 0) := by
    rw [← hBl, ← show (w4.alloc (.cells #[.int .i64 0] 3)).heap.size = w4.heap.size + 1 by simp]
    exact World.rowIs_alloc _ _ 47 _ fun i hi => by
      simp at hi
      rcases (show i = 0 ∨ i = 1 by omega) with rfl | rfl <;> rfl
  have hb5 : Below w4.heap.size w4 ((w4.alloc (.cells #[.int .i64 0] 3)).alloc (.cells #[.int .u8 0, .int .i64 0] 47)) := ((Below.refl _ w4).alloc (Nat.le_refl _) _).alloc (by simp) _
  have hb35 := Below.trans HB4.out (hb5.mono HB4.out.size)
  have hI : LI B B.c w 0 ⟨0, dv, most, ⟨fun _ => Pk.nil, 0, 0, 0⟩, fun _ => Pk.nil, 0, 0, 0⟩ lv xs ((w4.alloc (.cells #[.int .i64 0] 3)).alloc (.cells #[.int .u8 0, .int .i64 0] 47)) :=
    { m := ⟨HC3.out.of_block (hb35.block _ HC3.out.lt), HR3.out.of_block (hb35.block _ HR3.out.lt), HO4.out.of_block (hb5.block _ HO4.out.lt), hk5.alloc _, hl5⟩
      rd := HDV3.out.below hb35
      rl := HLV3.out.below hb35
      fd := fun j hj => by
        have h1 := Ho1.out
        rw [hj] at h1
        injection h1 with h1
        rw [hsz5]
        unfold Blk.has
        omega
      fl := fun j hj => by
        have h1 := HFL.out j hj
        have h2 := HS2.out
        rw [hsz5]
        unfold Blk.has
        omega
      bel := by
        rw [Hbc.out]
        exact Hb3.out.trans (hb35.mono Hb3.out.size)
      same := fun p _ => Same.nil
      hn := rfl
      hk := rfl
      hw := rfl
      n0 := Int.le_refl _
      n1 := Int.le_refl _
      len := by rw [HDL.out]; omega
      x64 := H64.out
      now64 := by show (0 : Nat) < _; decide
      most64 := hm
      ok := hBOk
      hb := Nat.le_refl _ }
  clear hBk hBl hBl' hs4 hlt hZ3 hBO hbsz hBOk hsz5 hk5 hl5 hb5 hb35 HB4 HS4 HO4 HBO HLV3 HDV3 HR3 HC3 HZ3 HFL Hb3 Hbs HS2 Hb2 hlt12 Ho1 HDL H64
  generalize (w4.alloc (.cells #[.int .i64 0] 3)).alloc (.cells #[.int .u8 0, .int .i64 0] 47) = W5 at *
  have HI := Lib.hid hI
  clear hI
  refine wp_loop_ghost (LoopI B w most L c2 A2) L ?_ ?_
  · exact ⟨0, _, lv, xs, _, _, _, _, _, _, _, rfl, ⟨rfl, rfl, rfl, rfl, rfl, rfl, rfl, rfl, rfl, rfl, rfl, rfl, rfl, rfl, rfl, rfl, rfl, rfl⟩, rfl, Nat.zero_le _, rfl, HI.out⟩
  · clear HI
    rintro gg a wr ⟨k, σ, lv, ys, l, p15, p16, p17, p18, p19, p88, rfl, hfr, rfl, hk, hmost, hI⟩
    obtain ⟨f, rfl⟩ := hfr.lit
    clear hfr
    by_cases hlt : k < L
    · obtain ⟨g, off, hA, hgl, hcells⟩ := HT.out.at_ (by omega)
      subst hA
      obtain ⟨x0, x1, x2⟩ := hcells k (by omega)
      have e0 := HT.out.d k (by omega)
      have e1 := HT.out.p k (by omega)
      have e2 := HT.out.n k (by omega)
      rw [← hI.bel.cell (p := ⟨g, off + k * 3, none⟩) (by rw [Hbc.out]; exact hgl)] at x0
      rw [← hI.bel.cell (p := ⟨g, off + k * 3 + 1, none⟩) (by rw [Hbc.out]; exact hgl)] at x1
      rw [← hI.bel.cell (p := ⟨g, off + k * 3 + 2, none⟩) (by rw [Hbc.out]; exact hgl)] at x2
      obtain ⟨d, hdd⟩ : ∃ d, d = D k := ⟨_, rfl⟩
      obtain ⟨pr, hpp⟩ : ∃ d, d = Pr k := ⟨_, rfl⟩
      obtain ⟨N, hnn⟩ : ∃ d, d = Nn k := ⟨_, rfl⟩
      rw [← hdd] at x0 e0
      rw [← hpp] at x1 e1
      rw [← hnn] at x2 e2
      clear hdd hpp hnn hcells
      have HI := Lib.hid hI
      have HM := Lib.hid hmost
      have hob := hI.m.o.lt
      clear hI hmost
      obtain ⟨Pa, hPa⟩ : ∃ P, pr % 132 - 2 = P := ⟨_, rfl⟩
      obtain ⟨Pb, hPb⟩ : ∃ P, pr % 3 = P := ⟨_, rfl⟩
      have hPa1 : -2 ≤ Pa ∧ Pa ≤ 129 := by omega
      have hPb1 : 0 ≤ Pb ∧ Pb ≤ 2 := by omega
      obtain ⟨hPa2, hPa3⟩ := hPa1
      obtain ⟨hPb2, hPb3⟩ := hPb1
      have hPb4 : Pb < 128 := by omega
      have hmf : ∀ (fn : Fn) (first cap : Array Value) (w : World), (Instr.makeFunc fn first cap).run Try.prog w = .ok (.func fn first cap) w := fun _ _ _ _ => rfl
      by_cases h131 : 131 < pr
      · have hin : inr Pb = true := by simp [inr]; omega
        have hmine : mineAt B (wr.heap.size + 3) Pb = .pointer (some ⟨B.o, Pb.toNat * 4, none⟩) := by unfold mineAt; rw [if_pos hin]
        go_upto_block 2 with fail
        refine sw_all (B := B) (b0 := B.c) (w0 := w) (wr := wr) (X := wr.heap.size) (pb := wr.heap.size + 1) (ib := wr.heap.size + 2) (M := wr.heap.size + 3) (d := d) (pr := pr) (N := N) (P := Pb) (σ := σ) (k := k) (most := most) (lv := lv) (v56 := .slice (some ⟨g, off, none⟩) L c2) (v57 := .int .i64 L) (v58 := .int .i64 k) (xs := ys) e0.1 e0.2 ⟨rfl, rfl, rfl, rfl, rfl, rfl, rfl, rfl, rfl, rfl, rfl, rfl, hmine.symm, rfl, rfl, rfl, rfl, rfl⟩ (RS.start d pr Pb N HI.out.m HI.out.ok HI.out.m.l.lt true hin.symm) HI.out e2 HM.out ?_ (by omega)
        intro l' v88 σ' lv' xs' W' hl' rs' hm' li'
        rename_i K2 hK2
        refine hK2 _ _ ?_
        refine tail_q hl' rs' li' ?_
        intro l2 W2 hl2 li2
        obtain ⟨f2, rfl⟩ := hl2.lit
        clear x0 x1 x2 hl' rs' li'
        have LI2 := Lib.hid li2
        have HM2 := Lib.hid hm'
        clear li2 hm'
        simp only [Exit.inBlock, Exit.then]
        go_wp2_with fail
        exact ⟨L - (k + 1), by omega, k + 1, σ', lv', xs', _, _, _, _, _, _, _, rfl, ⟨rfl, rfl, rfl, rfl, rfl, rfl, rfl, rfl, rfl, rfl, rfl, rfl, rfl, rfl, rfl, rfl, by go_num, rfl⟩, rfl, by omega, HM2.out, LI2.out⟩
      · by_cases h0 : 0 ≤ Pa
        · by_cases h128 : Pa < 128
          · have hin : inr Pa = true := by simp [inr]; omega
            have hmine : mineAt B (wr.heap.size + 3) Pa = .pointer (some ⟨B.o, Pa.toNat * 4, none⟩) := by unfold mineAt; rw [if_pos hin]
            go_upto_block 2 with fail
            refine sw_all (B := B) (b0 := B.c) (w0 := w) (wr := wr) (X := wr.heap.size) (pb := wr.heap.size + 1) (ib := wr.heap.size + 2) (M := wr.heap.size + 3) (d := d) (pr := pr) (N := N) (P := Pa) (σ := σ) (k := k) (most := most) (lv := lv) (v56 := .slice (some ⟨g, off, none⟩) L c2) (v57 := .int .i64 L) (v58 := .int .i64 k) (xs := ys) e0.1 e0.2 ⟨rfl, rfl, rfl, rfl, rfl, rfl, rfl, rfl, rfl, rfl, rfl, rfl, hmine.symm, rfl, rfl, rfl, rfl, rfl⟩ (RS.start d pr Pa N HI.out.m HI.out.ok HI.out.m.l.lt true hin.symm) HI.out e2 HM.out ?_ (by omega)
            intro l' v88 σ' lv' xs' W' hl' rs' hm' li'
            rename_i K2 hK2
            refine hK2 _ _ ?_
            refine tail_q hl' rs' li' ?_
            intro l2 W2 hl2 li2
            obtain ⟨f2, rfl⟩ := hl2.lit
            clear x0 x1 x2 hl' rs' li'
            have LI2 := Lib.hid li2
            have HM2 := Lib.hid hm'
            clear li2 hm'
            simp only [Exit.inBlock, Exit.then]
            go_wp2_with fail
            exact ⟨L - (k + 1), by omega, k + 1, σ', lv', xs', _, _, _, _, _, _, _, rfl, ⟨rfl, rfl, rfl, rfl, rfl, rfl, rfl, rfl, rfl, rfl, rfl, rfl, rfl, rfl, rfl, rfl, by go_num, rfl⟩, rfl, by omega, HM2.out, LI2.out⟩
          · have hin : inr Pa = false := by simp [inr]; omega
            have hmine : mineAt B (wr.heap.size + 3) Pa = .pointer (some ⟨wr.heap.size + 3, 0, none⟩) := by unfold mineAt; rw [hin]; rfl
            go_upto_block 2 with fail
            refine sw_all (B := B) (b0 := B.c) (w0 := w) (wr := wr) (X := wr.heap.size) (pb := wr.heap.size + 1) (ib := wr.heap.size + 2) (M := wr.heap.size + 3) (d := d) (pr := pr) (N := N) (P := Pa) (σ := σ) (k := k) (most := most) (lv := lv) (v56 := .slice (some ⟨g, off, none⟩) L c2) (v57 := .int .i64 L) (v58 := .int .i64 k) (xs := ys) e0.1 e0.2 ⟨rfl, rfl, rfl, rfl, rfl, rfl, rfl, rfl, rfl, rfl, rfl, rfl, hmine.symm, rfl, rfl, rfl, rfl, rfl⟩ (RS.start d pr Pa N HI.out.m HI.out.ok HI.out.m.l.lt false hin.symm) HI.out e2 HM.out ?_ (by omega)
            intro l' v88 σ' lv' xs' W' hl' rs' hm' li'
            rename_i K2 hK2
            refine hK2 _ _ ?_
            refine tail_q hl' rs' li' ?_
            intro l2 W2 hl2 li2
            obtain ⟨f2, rfl⟩ := hl2.lit
            clear x0 x1 x2 hl' rs' li'
            have LI2 := Lib.hid li2
            have HM2 := Lib.hid hm'
            clear li2 hm'
            simp only [Exit.inBlock, Exit.then]
            go_wp2_with fail
            exact ⟨L - (k + 1), by omega, k + 1, σ', lv', xs', _, _, _, _, _, _, _, rfl, ⟨rfl, rfl, rfl, rfl, rfl, rfl, rfl, rfl, rfl, rfl, rfl, rfl, rfl, rfl, rfl, rfl, by go_num, rfl⟩, rfl, by omega, HM2.out, LI2.out⟩
        · have hin : inr Pa = false := by simp [inr]; omega
          have hmine : mineAt B (wr.heap.size + 3) Pa = .pointer (some ⟨wr.heap.size + 3, 0, none⟩) := by unfold mineAt; rw [hin]; rfl
          go_upto_block 2 with fail
          refine sw_all (B := B) (b0 := B.c) (w0 := w) (wr := wr) (X := wr.heap.size) (pb := wr.heap.size + 1) (ib := wr.heap.size + 2) (M := wr.heap.size + 3) (d := d) (pr := pr) (N := N) (P := Pa) (σ := σ) (k := k) (most := most) (lv := lv) (v56 := .slice (some ⟨g, off, none⟩) L c2) (v57 := .int .i64 L) (v58 := .int .i64 k) (xs := ys) e0.1 e0.2 ⟨rfl, rfl, rfl, rfl, rfl, rfl, rfl, rfl, rfl, rfl, rfl, rfl, hmine.symm, rfl, rfl, rfl, rfl, rfl⟩ (RS.start d pr Pa N HI.out.m HI.out.ok HI.out.m.l.lt false hin.symm) HI.out e2 HM.out ?_ (by omega)
          intro l' v88 σ' lv' xs' W' hl' rs' hm' li'
          rename_i K2 hK2
          refine hK2 _ _ ?_
          refine tail_q hl' rs' li' ?_
          intro l2 W2 hl2 li2
          obtain ⟨f2, rfl⟩ := hl2.lit
          clear x0 x1 x2 hl' rs' li'
          have LI2 := Lib.hid li2
          have HM2 := Lib.hid hm'
          clear li2 hm'
          simp only [Exit.inBlock, Exit.then]
          go_wp2_with fail
          exact ⟨L - (k + 1), by omega, k + 1, σ', lv', xs', _, _, _, _, _, _, _, rfl, ⟨rfl, rfl, rfl, rfl, rfl, rfl, rfl, rfl, rfl, rfl, rfl, rfl, rfl, rfl, rfl, rfl, by go_num, rfl⟩, rfl, by omega, HM2.out, LI2.out⟩
    · have HI := Lib.hid hI
      clear hI hmost
      go_wp2_with fail
      refine wp_loop_ghost (Loop2I B w k σ lv ys) 128 ?_ ?_
      · exact ⟨0, _, rfl, ⟨rfl, rfl, rfl, rfl⟩, rfl, Nat.zero_le _, HI.out⟩
      · clear HI
        rintro gg2 a2 wr2 ⟨j, l, rfl, hfr, rfl, hj, hI⟩
        obtain ⟨f, rfl⟩ := hfr.lit
        clear hfr
        by_cases hj1 : j < 128
        · obtain ⟨ι, hne, wf, n0, hn0, hfb, hcl⟩ := family wr2
          have li := fun n => hI.below (hfb n)
          have o1 : ∀ n, (wf n).cell? ⟨B.o, j * 4 + 1, none⟩ = some (.bool (σ.O j).asleep) := fun n => by rw [(li n).m.o.cell (i := j * 4 + 1) (by omega)]; exact congrArg some (pk_1 _ _)
          have hin : inr (j : Int) = true := by simp [inr]; omega
          have k27 : ∀ n, Calls Try.prog 27 #[.pointer (some ⟨B.s, 0, none⟩), .int .i64 j] (wf n) fun e w'' => e = .returned (.bool (σ.O j).asleep) ∧ ∃ m, w'' = wf m := fun n => fam_same (by
            have h1 := asleep_any B.s j σ.ps _ (li n).m.s
            rw [hin, Bool.true_and, Int.toNat_natCast, (hI.same j hj1).sleeps] at h1
            exact h1)
          have HN0 := Lib.hid hn0
          have LI2 := Lib.hid li
          have K27 := Lib.hid k27
          clear hI hn0 hfb hcl li k27 hin
          generalize (σ.O j).asleep = sl at *
          go_wp2_with fail
          refine wp_region_fam wf n0 HN0.out ?_ ?_ ?_
          · kernel_rfl
          · kernel_rfl
          repeat (go_big_quiet_step (first | (go_at_call 27; with_reducible exact K27.out _)))
          refine wpQuiet_nil ?_
          intro n
          clear o1
          go_wp2_with fail
          exact ⟨128 - (j + 1), by omega, j + 1, _, rfl, ⟨rfl, rfl, rfl, by go_num⟩, rfl, by omega, LI2.out n⟩
        · have HB := Lib.hid hI.bel
          clear hI
          go_wp2_with fail
          refine wp_loop_ghost (Loop3I B.c w) 67 ?_ ?_
          · exact ⟨-1, _, rfl, ⟨rfl, rfl⟩, rfl, by omega, by omega, HB.out⟩
          · clear HB
            rintro gg3 a3 wr3 ⟨t, l, rfl, hfr, rfl, ht1, ht2, hb3⟩
            obtain ⟨f, rfl⟩ := hfr.lit
            have HB3 := Lib.hid hb3
            clear hfr hb3
            by_cases ht3 : t < 66
            · by_cases ht4 : t < 0
              · have L0 := lot_any t wr3 ht1 (by omega)
                rw [show ofN t 0 = -1 from by { unfold ofN; first | rw [if_pos (by omega)] | (rw [if_neg (by omega)]; omega) }] at L0
                have L1 := word_any t wr3 ht1 (by omega)
                rw [show ofN t 1 = -1 from by { unfold ofN; first | rw [if_pos (by omega)] | rw [if_neg (by omega)] }] at L1
                have HL0 := Lib.hid L0
                have HL1 := Lib.hid L1
                clear L0 L1
                go_wp2_with fail
                refine HL0.out.mono ?_
                rintro e w4 ⟨rfl, rfl⟩
                go_wp2_with fail
                refine HL1.out.mono ?_
                rintro e w5 ⟨rfl, rfl⟩
                go_wp2_with fail
                exact ⟨(66 - (t + 1)).toNat, by omega, t + 1, _, rfl, ⟨rfl, rfl⟩, rfl, by omega, by omega, HB3.out⟩
              · by_cases ht5 : 63 < t
                · have L0 := lot_any t wr3 ht1 (by omega)
                  rw [show ofN t 0 = -1 from by { unfold ofN; first | rw [if_pos (by omega)] | (rw [if_neg (by omega)]; omega) }] at L0
                  have L1 := word_any t wr3 ht1 (by omega)
                  rw [show ofN t 1 = -1 from by { unfold ofN; first | rw [if_pos (by omega)] | rw [if_neg (by omega)] }] at L1
                  have HL0 := Lib.hid L0
                  have HL1 := Lib.hid L1
                  clear L0 L1
                  go_wp2_with fail
                  refine HL0.out.mono ?_
                  rintro e w4 ⟨rfl, rfl⟩
                  go_wp2_with fail
                  refine HL1.out.mono ?_
                  rintro e w5 ⟨rfl, rfl⟩
                  go_wp2_with fail
                  exact ⟨(66 - (t + 1)).toNat, by omega, t + 1, _, rfl, ⟨rfl, rfl⟩, rfl, by omega, by omega, HB3.out⟩
                · have L0 := lot_any t wr3 ht1 (by omega)
                  rw [show ofN t 0 = 2 * t from by { unfold ofN; first | rw [if_pos (by omega)] | (rw [if_neg (by omega)]; omega) }] at L0
                  have L1 := word_any t wr3 ht1 (by omega)
                  rw [show ofN t 1 = 2 * t + 1 from by { unfold ofN; first | rw [if_pos (by omega)] | rw [if_neg (by omega)] }] at L1
                  have HL0 := Lib.hid L0
                  have HL1 := Lib.hid L1
                  clear L0 L1
                  go_wp2_with fail
                  refine HL0.out.mono ?_
                  rintro e w4 ⟨rfl, rfl⟩
                  go_wp2_with fail
                  refine HL1.out.mono ?_
                  rintro e w5 ⟨rfl, rfl⟩
                  go_wp2_with fail
                  exact ⟨(66 - (t + 1)).toNat, by omega, t + 1, _, rfl, ⟨rfl, rfl⟩, rfl, by omega, by omega, HB3.out⟩
            · go_wp2_with fail
              go_ret
              exact ⟨rfl, by have := HB3.out; rw [Hbc.out] at this; exact this⟩

end Go.Proofs.YtpnpjiaciolgiaaR
