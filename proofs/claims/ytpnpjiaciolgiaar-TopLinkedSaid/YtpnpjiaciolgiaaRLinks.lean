/- The methods of links.Set that TopLinked calls, each by a contract: what it does to the set's block. -/
import Derived.Test.YtpnpjiaciolgiaaRHelp
import Derived.BigQuiet
import Derived.Deep.QuietTactic
import Derived.ScopeJumps
namespace Go.Proofs.YtpnpjiaciolgiaaR
open Go.RowKit

/-- The test on threads. -/
def thr (t : Int) : Bool := decide (0 ≤ t) && decide (t < 64)

theorem thr_yes {t : Int} (h : thr t = true) : 0 ≤ t ∧ t < 64 := by simpa [thr] using h
theorem thr_no {t : Int} (h : thr t = false) : t < 0 ∨ 64 ≤ t := by
  simp [thr] at h
  omega

set_option maxHeartbeats 400000 in
theorem threaded_any (t : Int) (w : World) :
    Calls Try.prog 35 #[.int .i64 t] w fun e w' => e = .returned (.bool (thr t)) ∧ w = w' := by
  go_enter Try.func35, Try.ntmps35
  by_cases h : 0 ≤ t
  · go_wp2
    go_ret
    exact ⟨by simp [thr, h], rfl⟩
  · go_wp2
    go_ret
    exact ⟨by simp [thr]; omega, rfl⟩

set_option maxHeartbeats 400000 in
theorem at_no (b : Nat) (t : Int) (w : World) (h : thr t = false) :
    Calls Try.prog 33 #[.pointer (some ⟨b, 0, none⟩), .int .i64 t] w fun e w' => e = .returned (.pointer none) ∧ w = w' := by
  go_enter Try.func33, Try.ntmps33
  go_wp2_with (go_at_call 35; refine (threaded_any _ _).mono ?_; rintro e w' ⟨rfl, rfl⟩)
  go_ret
  exact ⟨rfl, rfl⟩

set_option maxHeartbeats 400000 in
theorem at_yes (b t : Nat) (w : World) (h : t < 64) :
    Calls Try.prog 33 #[.pointer (some ⟨b, 0, none⟩), .int .i64 t] w fun e w' => e = .returned (.pointer (some ⟨b, t * 3, none⟩)) ∧ w = w' := by
  have ht : thr t = true := by simp [thr]; omega
  go_enter Try.func33, Try.ntmps33
  go_wp2_with (go_at_call 35; refine (threaded_any _ _).mono ?_; rintro e w' ⟨rfl, rfl⟩)
  go_ret
  exact ⟨rfl, rfl⟩

def zeros192 : Array Value := Array.replicate 192 (.int .i64 0)
set_option maxRecDepth 100000 in
theorem run_build72 (w : World) : (Instr.build 72 #[]).run Try.prog w = .ok (.agg zeros192) w := by kernel_rfl
theorem exec_build72 (ρ : Operand → Value) (dst : Option Tmp) (ty : TypeId) (pos : String) (after : Array Edge) (g : Option (Nat × Bool)) (w : World) :
    (execOp ρ ⟨dst, .build 72 #[], ty, pos, after, g⟩).run Try.prog w = .ok (.value (.agg zeros192)) w := by
  unfold execOp
  simp only [Array.map_empty, Sem.run_bind, run_build72]
  rfl

set_option maxRecDepth 100000 in
set_option maxHeartbeats 400000 in
theorem new_any (w : World) :
    Calls Try.prog 5 #[] w fun e w' => e = .returned (.pointer (some ⟨w.heap.size, 0, none⟩)) ∧ w' = w.alloc (.cells zeros192 72) := by
  go_enter Try.func5, Try.ntmps5
  go_wp2_with (refine wpList_run rfl (exec_build72 _ _ _ _ _ _ _) ?_)
  go_ret
  exact ⟨rfl, rfl⟩

/-- The cells of a set: a number each. -/
def fv (f : Nat → Int) : Nat → Value := fun j => .int .i64 (f j)
def Small (f : Nat → Int) : Prop := ∀ j, 0 ≤ f j ∧ f j ≤ 64
/-- f, but v at j. -/
def upd (f : Nat → Int) (j : Nat) (v : Int) : Nat → Int := fun k => if k = j then v else f k
def link3 (f : Nat → Int) (t : Nat) (x y z : Int) : Nat → Int := upd (upd (upd f (t * 3) x) (t * 3 + 1) y) (t * 3 + 2) z

theorem row_upd {w : World} {b : Nat} {f : Nat → Int} (h : w.rowIs b 72 192 (fv f)) (j : Nat) (v : Int) : (w.setCell ⟨b, j, none⟩ (.int .i64 v)).rowIs b 72 192 (fv (upd f j v)) :=
  (h.set j _).congr fun i _ => by simp only [fv, upd]; split <;> rfl

theorem at_get (f : Nat → Int) (j : Nat) : fv f j = .int .i64 (f j) := rfl

set_option maxHeartbeats 400000 in
theorem push_yes (b t h : Nat) (f : Nat → Int) (w : World) (ht : t < 64) (hh : h < 64) (hr : w.rowIs b 72 192 (fv f)) :
    Calls Try.prog 8 #[.pointer (some ⟨b, 0, none⟩), .int .i64 t, .int .i64 h] w fun e w' => e = .returned (.tuple #[]) ∧ w'.rowIs b 72 192 (fv (link3 f t (h + 1) 0 0)) ∧ w.grownBy w' (some b) := by
  have c0 := hr.cell (i := t * 3) (by omega)
  have c1 := hr.cell (i := t * 3 + 1) (by omega)
  have c2 := hr.cell (i := t * 3 + 2) (by omega)
  have f0 := hr.frozen
  have hthr : thr (h : Int) = true := by simp [thr]; omega
  rw [at_get] at c0 c1 c2
  go_enter Try.func8, Try.ntmps8
  go_wp2_with (first
    | (go_at_call 33; refine (at_yes _ _ _ ht).mono ?_; rintro e w' ⟨rfl, rfl⟩)
    | (go_at_call 35; refine (threaded_any _ _).mono ?_; rintro e w' ⟨rfl, rfl⟩))
  go_end0
  refine ⟨rfl, row_upd (row_upd (row_upd hr _ _) _ _) _ _, only_set (only_set (only_set (World.grownBy.refl w _) _ _) _ _) _ _⟩

set_option maxHeartbeats 400000 in
theorem push_first (b t : Nat) (h : Int) (f : Nat → Int) (w : World) (ht : t < 64) (hthr : thr h = false) (hr : w.rowIs b 72 192 (fv f)) :
    Calls Try.prog 8 #[.pointer (some ⟨b, 0, none⟩), .int .i64 t, .int .i64 h] w fun e w' => e = .returned (.tuple #[]) ∧ w'.rowIs b 72 192 (fv (link3 f t 0 0 (t + 1))) ∧ w.grownBy w' (some b) := by
  have c0 := hr.cell (i := t * 3) (by omega)
  have c1 := hr.cell (i := t * 3 + 1) (by omega)
  have c2 := hr.cell (i := t * 3 + 2) (by omega)
  have f0 := hr.frozen
  rw [at_get] at c0 c1 c2
  go_enter Try.func8, Try.ntmps8
  go_wp2_with (first
    | (go_at_call 33; refine (at_yes _ _ _ ht).mono ?_; rintro e w' ⟨rfl, rfl⟩)
    | (go_at_call 35; refine (threaded_any _ _).mono ?_; rintro e w' ⟨rfl, rfl⟩))
  go_end0
  refine ⟨rfl, row_upd (row_upd (row_upd hr _ _) _ _) _ _, only_set (only_set (only_set (World.grownBy.refl w _) _ _) _ _) _ _⟩

set_option maxHeartbeats 400000 in
theorem push_none (b : Nat) (t h : Int) (w : World) (ht : thr t = false) :
    Calls Try.prog 8 #[.pointer (some ⟨b, 0, none⟩), .int .i64 t, .int .i64 h] w fun e w' => e = .returned (.tuple #[]) ∧ w = w' := by
  go_enter Try.func8, Try.ntmps8
  go_wp2_with (first
    | (go_at_call 33; refine (at_no _ _ _ ht).mono ?_; rintro e w' ⟨rfl, rfl⟩)
    | (go_at_call 35; refine (threaded_any _ _).mono ?_; rintro e w' ⟨rfl, rfl⟩))
  go_end0
  exact ⟨rfl, rfl⟩

set_option maxHeartbeats 400000 in
theorem cut_none (b : Nat) (h t : Int) (w : World) (hh : thr h = false) (ht : thr t = true) :
    Calls Try.prog 10 #[.pointer (some ⟨b, 0, none⟩), .int .i64 h, .int .i64 t] w fun e w' => e = .returned (.int .i64 (-1)) ∧ w = w' := by
  obtain ⟨k, rfl⟩ : ∃ k : Nat, t = k := ⟨t.toNat, by have := thr_yes ht; omega⟩
  have hk := (thr_yes ht).2
  go_enter Try.func10, Try.ntmps10
  go_wp2_with fail
  refine (at_no _ _ _ hh).mono ?_
  rintro e w' ⟨rfl, rfl⟩
  go_wp2_with fail
  refine (at_yes _ _ _ (by omega)).mono ?_
  rintro e w' ⟨rfl, rfl⟩
  go_wp2
  go_ret
  exact ⟨rfl, rfl⟩

set_option maxHeartbeats 400000 in
theorem cut_yes (b h t : Nat) (f : Nat → Int) (w : World) (hh : h < 64) (ht : t < 64) (hr : w.rowIs b 72 192 (fv f)) (hp : 1 ≤ f (t * 3 + 1)) (hp2 : f (t * 3 + 1) ≤ 64) :
    Calls Try.prog 10 #[.pointer (some ⟨b, 0, none⟩), .int .i64 h, .int .i64 t] w fun e w' =>
      e = .returned (.int .i64 (f (t * 3 + 1) - 1)) ∧ w'.rowIs b 72 192 (fv (upd f (h * 3 + 2) (f (t * 3 + 1)))) ∧ w.grownBy w' (some b) := by
  have c1 := hr.cell (i := t * 3 + 1) (by omega)
  have c2 := hr.cell (i := h * 3 + 2) (by omega)
  have f0 := hr.frozen
  rw [at_get] at c1 c2
  generalize hv : f (t * 3 + 1) = v at *
  clear hv
  have hz : (v == 0) = false := by simp; omega
  go_enter Try.func10, Try.ntmps10
  go_wp2_with fail
  refine (at_yes _ _ _ hh).mono ?_
  rintro e w' ⟨rfl, rfl⟩
  go_wp2_with fail
  refine (at_yes _ _ _ ht).mono ?_
  rintro e w' ⟨rfl, rfl⟩
  go_wp2
  go_ret
  exact ⟨rfl, row_upd hr _ _, only_set (World.grownBy.refl w _) _ _⟩

/-- The same, the value given. -/
theorem cut_is (b h t : Nat) (f : Nat → Int) (v : Int) (w : World) (hh : h < 64) (ht : t < 64) (hr : w.rowIs b 72 192 (fv f)) (hv : f (t * 3 + 1) = v + 1) (hp : 0 ≤ v) (hp2 : v < 64) :
    Calls Try.prog 10 #[.pointer (some ⟨b, 0, none⟩), .int .i64 h, .int .i64 t] w fun e w' =>
      e = .returned (.int .i64 v) ∧ w'.rowIs b 72 192 (fv (upd f (h * 3 + 2) (v + 1))) ∧ w.grownBy w' (some b) :=
  (cut_yes b h t f w hh ht hr (by omega) (by omega)).mono fun e w' ⟨he, h1, h2⟩ => ⟨by rw [he, hv, Int.add_sub_cancel], by rw [hv] at h1; exact h1, h2⟩

set_option maxHeartbeats 400000 in
theorem get_none (b : Nat) (t : Int) (w : World) (ht : thr t = false) :
    Calls Try.prog 6 #[.pointer (some ⟨b, 0, none⟩), .int .i64 t] w fun e w' => e = .returned (.agg #[.int .i64 (-1), .int .i64 (-1), .int .i64 (-1)]) ∧ Below w.heap.size w w' := by
  go_enter Try.func6, Try.ntmps6
  go_wp2_with (go_at_call 33; refine (at_no _ _ _ ht).mono ?_; rintro e w' ⟨rfl, rfl⟩)
  exact bodyPost_ret (v := .agg #[.int .i64 (-1), .int .i64 (-1), .int .i64 (-1)]) (by simp [results, Try.results6, go_sem]) rfl ⟨rfl, (Below.refl _ _).alloc (Nat.le_refl _) _⟩

set_option maxHeartbeats 400000 in
theorem get_yes (b t : Nat) (f : Nat → Int) (w : World) (ht : t < 64) (hr : w.rowIs b 72 192 (fv f)) (hs : Small f) :
    Calls Try.prog 6 #[.pointer (some ⟨b, 0, none⟩), .int .i64 t] w fun e w' =>
      e = .returned (.agg #[.int .i64 (f (t * 3) - 1), .int .i64 (f (t * 3 + 1) - 1), .int .i64 (f (t * 3 + 2) - 1)]) ∧ Below w.heap.size w w' := by
  have c0 := hr.cell (i := t * 3) (by omega)
  have c1 := hr.cell (i := t * 3 + 1) (by omega)
  have c2 := hr.cell (i := t * 3 + 2) (by omega)
  have b0 := hs (t * 3)
  have b1 := hs (t * 3 + 1)
  have b2 := hs (t * 3 + 2)
  rw [at_get] at c0 c1 c2
  generalize f (t * 3) = x at *
  generalize f (t * 3 + 1) = y at *
  generalize f (t * 3 + 2) = z at *
  have hb := hr.lt
  have d0 : ∀ o, (w.alloc o).cell? ⟨b, t * 3, none⟩ = some (.int .i64 x) := fun o => (World.cell?_alloc_lt w o _ hb).trans c0
  have d1 : ∀ o, (w.alloc o).cell? ⟨b, t * 3 + 1, none⟩ = some (.int .i64 y) := fun o => (World.cell?_alloc_lt w o _ hb).trans c1
  have d2 : ∀ o, (w.alloc o).cell? ⟨b, t * 3 + 2, none⟩ = some (.int .i64 z) := fun o => (World.cell?_alloc_lt w o _ hb).trans c2
  clear hs hr hb
  go_enter Try.func6, Try.ntmps6
  go_wp2_with (go_at_call 33; refine (at_yes _ _ _ ht).mono ?_; rintro e w' ⟨rfl, rfl⟩)
  go_region
  all_goals go_wp2
  all_goals exact bodyPost_ret (v := .agg #[.int .i64 (x - 1), .int .i64 (y - 1), .int .i64 (z - 1)]) (by simp [results, Try.results6, go_sem]) rfl ⟨rfl, ((Below.refl _ _).alloc (Nat.le_refl _) _).drew⟩

/-- The same, the values given. -/
theorem get_is (b t : Nat) (f : Nat → Int) (x y z : Int) (w : World) (ht : t < 64) (hr : w.rowIs b 72 192 (fv f)) (hs : Small f) (hx : f (t * 3) = x + 1) (hy : f (t * 3 + 1) = y + 1) (hz : f (t * 3 + 2) = z + 1) :
    Calls Try.prog 6 #[.pointer (some ⟨b, 0, none⟩), .int .i64 t] w fun e w' => e = .returned (.agg #[.int .i64 x, .int .i64 y, .int .i64 z]) ∧ Below w.heap.size w w' :=
  (get_yes b t f w ht hr hs).mono fun e w' ⟨he, hb⟩ => ⟨by rw [he, hx, hy, hz, Int.add_sub_cancel, Int.add_sub_cancel, Int.add_sub_cancel], hb⟩

/-- What Seek has done to the records behind k steps: each one that was passed knows who came next. -/
def seekF (f : Nat → Int) (q : Nat → Nat) (n : Nat) : Nat → Nat → Int
  | 0 => f
  | k + 1 => upd (seekF f q n k) (q (n - 2 - k) * 3 + 1) (q (n - 1 - k) + 1)
theorem seekF_0 (f : Nat → Int) (q : Nat → Nat) (n k j : Nat) : seekF f q n k (j * 3) = f (j * 3) := by
  induction k with
  | zero => rfl
  | succ k ih => simp only [seekF, upd]; rw [if_neg (by omega)]; exact ih
theorem seekF_2 (f : Nat → Int) (q : Nat → Nat) (n k j : Nat) : seekF f q n k (j * 3 + 2) = f (j * 3 + 2) := by
  induction k with
  | zero => rfl
  | succ k ih => simp only [seekF, upd]; rw [if_neg (by omega)]; exact ih

/-- What holds at the label. -/
def SeekJ (b : Nat) (f : Nat → Int) (q : Nat → Nat) (n m : Nat) (w : World) (a : Act) (w' : World) : Prop :=
  ∃ (k : Nat) (p c : Int), k ≤ n - 1 - m ∧ w'.rowIs b 72 192 (fv (seekF f q n k)) ∧ w.grownBy w' (some b) ∧ p = q (n - 1 - k) ∧ c = k ∧
    ∃ u2 u3 u4 u8 u9 u10 u11 u12 u13 u14 u15 u16 u17 u18 u19 u20 u21 u22 u23 u24 u25 u26 u27 u28 u29 u30 u31 u32 u33 u34 u35 u36 u37 u38 u39 u40 u41 u42 u43 u44 u45 u46 u47 u48 u49 u50 u51 u52 u53 u54 u55 u56 u57 u58 u59 u60 : Value, a = ⟨#[.pointer (some ⟨b, 0, none⟩), .int .i64 (q (n - 1)), u2, u3, u4, .pointer (some ⟨b, q (n - 1) * 3, none⟩), .int .i64 p, .int .i64 c, u8, u9, u10, u11, u12, u13, u14, u15, u16, u17, u18, u19, u20, u21, u22, u23, u24, u25, u26, u27, u28, u29, u30, u31, u32, u33, u34, u35, u36, u37, u38, u39, u40, u41, u42, u43, u44, u45, u46, u47, u48, u49, u50, u51, u52, u53, u54, u55, u56, u57, u58, u59, u60], []⟩

def many (a : Act) : Nat := (intOf (a.tmps.getD 7 undef)).toNat


set_option maxHeartbeats 400000 in
theorem seek_no (b : Nat) (h : Int) (w : World) (hh : thr h = false) :
    Calls Try.prog 9 #[.pointer (some ⟨b, 0, none⟩), .int .i64 h] w fun e w' => e = .returned (.int .i64 (-1)) ∧ w = w' := by
  go_enter Try.func9, Try.ntmps9
  go_wp2
  refine wp_scope_straight ?_
  go_wp2_with (go_at_call 33; refine (at_no _ _ _ hh).mono ?_; rintro e w' ⟨rfl, rfl⟩)
  rw [Exit.noGoto_ret]
  go_ret
  exact ⟨rfl, rfl⟩

set_option maxRecDepth 100000 in
set_option maxHeartbeats 1000000 in
theorem seek_yes (b : Nat) (f : Nat → Int) (q : Nat → Nat) (n m : Nat) (T : Int) (w : World) (hn : 0 < n) (hn64 : n ≤ 64) (hm : m < n) (hq : ∀ i, i < n → q i < 64)
    (hnext : ∀ i, m < i → i < n → f (q i * 3) = q (i - 1) + 1) (htail : ∀ i, m < i → i < n → f (q i * 3 + 2) = 0) (hT : f (q m * 3 + 2) = T) (hT1 : 1 ≤ T) (hT2 : T ≤ 64)
    (hr : w.rowIs b 72 192 (fv f)) :
    Calls Try.prog 9 #[.pointer (some ⟨b, 0, none⟩), .int .i64 (q (n - 1))] w fun e w' => e = .returned (.int .i64 (T - 1)) ∧
      w'.rowIs b 72 192 (fv (upd (seekF f q n (n - 1 - m)) (q (n - 1) * 3 + 2) T)) ∧ w.grownBy w' (some b) := by
  go_enter Try.func9, Try.ntmps9
  go_wp2
  refine wp_scope_jumps 0 (SeekJ b f q n m w) (fun a _ => 64 - many a) (by rfl) ?_ ?_
  · go_wp2_with fail
    refine (at_yes _ _ _ (hq (n - 1) (by omega))).mono ?_
    rintro e w' ⟨rfl, rfl⟩
    go_wp2_with fail
    refine wp_label ?_
    have hw : w.rowIs b 72 192 (fv (seekF f q n 0)) := hr
    have hg := World.grownBy.refl w (some b)
    have hk : 0 ≤ n - 1 - m := Nat.zero_le _
    have hh64 : q (n - 1) < 64 := hq _ (by omega)
    have c2h := hw.cell (i := q (n - 1) * 3 + 2) (by omega)
    have fz := hw.frozen
    rw [at_get, seekF_2] at c2h
    by_cases hend : n - 1 - m = 0
    · have hp64 : q m < 64 := hq _ hm
      have c2 := hw.cell (i := q m * 3 + 2) (by omega)
      rw [at_get, seekF_2, hT] at c2
      have hT0 : (T != 0) = true := by simp; omega
      have hr2 := row_upd hw (q (n - 1) * 3 + 2) T
      have c3 := hr2.cell (i := q (n - 1) * 3 + 2) (by omega)
      rw [at_get] at c3
      simp only [upd, if_true] at c3
      have fin : (w.setCell ⟨b, q (n - 1) * 3 + 2, none⟩ (.int .i64 T)).rowIs b 72 192 (fv (upd (seekF f q n (n - 1 - m)) (q (n - 1) * 3 + 2) T)) ∧ w.grownBy (w.setCell ⟨b, q (n - 1) * 3 + 2, none⟩ (.int .i64 T)) (some b) := ⟨by rw [hend]; exact hr2, only_set hg _ _⟩
      have Fin := Lib.hid fin
      have hee : n - 1 = m := by omega
      have Hee := Lib.hid hee
      clear c2h
      rw [hee] at c3 hh64 ⊢
      clear fin hr2 hw hg hr hend hee hT htail hnext
      go_wp2_with fail
      refine (at_yes _ _ _ hp64).mono ?_
      rintro e w2 ⟨rfl, rfl⟩
      go_wp2_with fail
      simp only [Exit.jump]
      go_ret
      exact ⟨rfl, by have h := Fin.out.1; rw [Hee.out] at h ⊢; exact h, by have h := Fin.out.2; rw [Hee.out] at h; exact h⟩
    · have e1 : n - 1 - 1 = n - 2 := by omega
      have hlo : m < n - 1 := by omega
      have hhi : n - 1 < n := by omega
      have hp64 : q (n - 1) < 64 := hq _ (by omega)
      have hp64' : q (n - 2) < 64 := hq _ (by omega)
      have c2 := hw.cell (i := q (n - 1) * 3 + 2) (by omega)
      have c0 := hw.cell (i := q (n - 1) * 3) (by omega)
      have c1 := hw.cell (i := q (n - 2) * 3 + 1) (by omega)
      rw [at_get, seekF_2, htail _ hlo hhi] at c2
      rw [at_get, seekF_0, hnext _ hlo hhi, e1] at c0
      rw [at_get] at c1
      have hr2 : (w.setCell ⟨b, q (n - 2) * 3 + 1, none⟩ (.int .i64 (q (n - 1) + 1))).rowIs b 72 192 (fv (seekF f q n (0 + 1))) := row_upd hw _ _
      have d0 := hr2.cell (i := q (n - 1) * 3) (by omega)
      rw [at_get, seekF_0, hnext _ hlo hhi, e1] at d0
      clear c2h
      have fin : 0 + 1 ≤ n - 1 - m ∧ (w.setCell ⟨b, q (n - 2) * 3 + 1, none⟩ (.int .i64 (q (n - 1) + 1))).rowIs b 72 192 (fv (seekF f q n (0 + 1))) ∧ w.grownBy (w.setCell ⟨b, q (n - 2) * 3 + 1, none⟩ (.int .i64 (q (n - 1) + 1))) (some b) ∧ n - 1 - (0 + 1) = n - 2 := ⟨by omega, hr2, only_set hg _ _, by rfl⟩
      have Fin := Lib.hid fin
      have hk63 : 0 < 63 := by omega
      clear fin hr2 hw hg hr hend hT htail hnext hq e1 hlo hhi hk
      have hk64 : ((0 : Int) == 64) = false := by first | rfl | (simp; omega)
      skip
      generalize hpp : q (n - 2) = pq at *
      have Hpp := Lib.hid hpp
      clear hpp 
      go_wp2_with fail
      refine (at_yes _ _ _ hp64).mono ?_
      rintro e w2 ⟨rfl, rfl⟩
      go_wp2_with fail
      refine (at_yes _ _ _ hp64').mono ?_
      rintro e w2 ⟨rfl, rfl⟩
      go_wp2_with fail
      refine wp_goto ⟨rfl, ?_⟩
      
      exact ⟨_, _, _, Fin.out.1, Fin.out.2.1, Fin.out.2.2.1, by rw [Fin.out.2.2.2, Hpp.out], by first | rfl | simp, by (repeat apply Exists.intro); rfl⟩
  · rintro a w' ⟨k, p, c, hk, hw, hg, rfl, rfl, hu⟩
    obtain ⟨u2, hu⟩ := hu
    obtain ⟨u3, hu⟩ := hu
    obtain ⟨u4, hu⟩ := hu
    obtain ⟨u8, hu⟩ := hu
    obtain ⟨u9, hu⟩ := hu
    obtain ⟨u10, hu⟩ := hu
    obtain ⟨u11, hu⟩ := hu
    obtain ⟨u12, hu⟩ := hu
    obtain ⟨u13, hu⟩ := hu
    obtain ⟨u14, hu⟩ := hu
    obtain ⟨u15, hu⟩ := hu
    obtain ⟨u16, hu⟩ := hu
    obtain ⟨u17, hu⟩ := hu
    obtain ⟨u18, hu⟩ := hu
    obtain ⟨u19, hu⟩ := hu
    obtain ⟨u20, hu⟩ := hu
    obtain ⟨u21, hu⟩ := hu
    obtain ⟨u22, hu⟩ := hu
    obtain ⟨u23, hu⟩ := hu
    obtain ⟨u24, hu⟩ := hu
    obtain ⟨u25, hu⟩ := hu
    obtain ⟨u26, hu⟩ := hu
    obtain ⟨u27, hu⟩ := hu
    obtain ⟨u28, hu⟩ := hu
    obtain ⟨u29, hu⟩ := hu
    obtain ⟨u30, hu⟩ := hu
    obtain ⟨u31, hu⟩ := hu
    obtain ⟨u32, hu⟩ := hu
    obtain ⟨u33, hu⟩ := hu
    obtain ⟨u34, hu⟩ := hu
    obtain ⟨u35, hu⟩ := hu
    obtain ⟨u36, hu⟩ := hu
    obtain ⟨u37, hu⟩ := hu
    obtain ⟨u38, hu⟩ := hu
    obtain ⟨u39, hu⟩ := hu
    obtain ⟨u40, hu⟩ := hu
    obtain ⟨u41, hu⟩ := hu
    obtain ⟨u42, hu⟩ := hu
    obtain ⟨u43, hu⟩ := hu
    obtain ⟨u44, hu⟩ := hu
    obtain ⟨u45, hu⟩ := hu
    obtain ⟨u46, hu⟩ := hu
    obtain ⟨u47, hu⟩ := hu
    obtain ⟨u48, hu⟩ := hu
    obtain ⟨u49, hu⟩ := hu
    obtain ⟨u50, hu⟩ := hu
    obtain ⟨u51, hu⟩ := hu
    obtain ⟨u52, hu⟩ := hu
    obtain ⟨u53, hu⟩ := hu
    obtain ⟨u54, hu⟩ := hu
    obtain ⟨u55, hu⟩ := hu
    obtain ⟨u56, hu⟩ := hu
    obtain ⟨u57, hu⟩ := hu
    obtain ⟨u58, hu⟩ := hu
    obtain ⟨u59, hu⟩ := hu
    obtain ⟨u60, hu⟩ := hu
    subst hu
    refine wp_seq ?_
    refine wp_skip ?_
    simp only [Exit.then]
    have hh64 : q (n - 1) < 64 := hq _ (by omega)
    have c2h := hw.cell (i := q (n - 1) * 3 + 2) (by omega)
    have fz := hw.frozen
    rw [at_get, seekF_2] at c2h
    by_cases hend : n - 1 - m = k
    · have hp64 : q m < 64 := hq _ hm
      have c2 := hw.cell (i := q m * 3 + 2) (by omega)
      rw [at_get, seekF_2, hT] at c2
      have hT0 : (T != 0) = true := by simp; omega
      have hr2 := row_upd hw (q (n - 1) * 3 + 2) T
      have c3 := hr2.cell (i := q (n - 1) * 3 + 2) (by omega)
      rw [at_get] at c3
      simp only [upd, if_true] at c3
      have fin : (w'.setCell ⟨b, q (n - 1) * 3 + 2, none⟩ (.int .i64 T)).rowIs b 72 192 (fv (upd (seekF f q n (n - 1 - m)) (q (n - 1) * 3 + 2) T)) ∧ w.grownBy (w'.setCell ⟨b, q (n - 1) * 3 + 2, none⟩ (.int .i64 T)) (some b) := ⟨by rw [hend]; exact hr2, only_set hg _ _⟩
      have Fin := Lib.hid fin
      have hee : n - 1 - k = m := by omega
      have Hee := Lib.hid hee
      skip
      rw [hee] at *
      clear fin hr2 hw hg hr hend hee hT htail hnext
      go_wp2_with fail
      refine (at_yes _ _ _ hp64).mono ?_
      rintro e w2 ⟨rfl, rfl⟩
      go_wp2_with fail
      simp only [Exit.jump]
      go_ret
      exact ⟨rfl, Fin.out.1, Fin.out.2⟩
    · have e1 : n - 1 - k - 1 = n - 2 - k := by omega
      have hlo : m < n - 1 - k := by omega
      have hhi : n - 1 - k < n := by omega
      have hp64 : q (n - 1 - k) < 64 := hq _ (by omega)
      have hp64' : q (n - 2 - k) < 64 := hq _ (by omega)
      have c2 := hw.cell (i := q (n - 1 - k) * 3 + 2) (by omega)
      have c0 := hw.cell (i := q (n - 1 - k) * 3) (by omega)
      have c1 := hw.cell (i := q (n - 2 - k) * 3 + 1) (by omega)
      rw [at_get, seekF_2, htail _ hlo hhi] at c2
      rw [at_get, seekF_0, hnext _ hlo hhi, e1] at c0
      rw [at_get] at c1
      have hr2 : (w'.setCell ⟨b, q (n - 2 - k) * 3 + 1, none⟩ (.int .i64 (q (n - 1 - k) + 1))).rowIs b 72 192 (fv (seekF f q n (k + 1))) := row_upd hw _ _
      have d0 := hr2.cell (i := q (n - 1 - k) * 3) (by omega)
      rw [at_get, seekF_0, hnext _ hlo hhi, e1] at d0
      skip
      have fin : k + 1 ≤ n - 1 - m ∧ (w'.setCell ⟨b, q (n - 2 - k) * 3 + 1, none⟩ (.int .i64 (q (n - 1 - k) + 1))).rowIs b 72 192 (fv (seekF f q n (k + 1))) ∧ w.grownBy (w'.setCell ⟨b, q (n - 2 - k) * 3 + 1, none⟩ (.int .i64 (q (n - 1 - k) + 1))) (some b) ∧ n - 1 - (k + 1) = n - 2 - k := ⟨by omega, hr2, only_set hg _ _, by omega⟩
      have Fin := Lib.hid fin
      have hk63 : k < 63 := by omega
      clear fin hr2 hw hg hr hend hT htail hnext hq e1 hlo hhi hk
      have hk64 : ((k : Int) == 64) = false := by first | rfl | (simp; omega)
      generalize hpp0 : q (n - 1 - k) = pp at *
      generalize hpp : q (n - 2 - k) = pq at *
      have Hpp := Lib.hid hpp
      clear hpp hpp0
      go_wp2_with fail
      refine (at_yes _ _ _ hp64).mono ?_
      rintro e w2 ⟨rfl, rfl⟩
      go_wp2_with fail
      refine (at_yes _ _ _ hp64').mono ?_
      rintro e w2 ⟨rfl, rfl⟩
      go_wp2_with fail
      refine wp_goto ⟨rfl, ?_⟩
      refine ⟨?_, ?_⟩; rotate_left; · simp [many, intOf]; omega
      exact ⟨_, _, _, Fin.out.1, Fin.out.2.1, Fin.out.2.2.1, by rw [Fin.out.2.2.2, Hpp.out], by first | rfl | simp, by (repeat apply Exists.intro); rfl⟩


end Go.Proofs.YtpnpjiaciolgiaaR
