/- permits: what each method that TopSlept calls does to the set's block. -/
import Derived.Test.YtpnpjiaciolgiaaRHelp
import Derived.BigQuiet
import Derived.Deep.QuietTactic
namespace Go.Proofs.YtpnpjiaciolgiaaR
open Go.RowKit

/-- The test on parkers. -/
def inr (p : Int) : Bool := decide (0 ≤ p) && decide (p < 128)
theorem inr_yes {p : Int} (h : inr p = true) : 0 ≤ p ∧ p < 128 := by simpa [inr] using h
theorem inr_no {p : Int} (h : inr p = false) : p < 0 ∨ 128 ≤ p := by
  simp [inr] at h
  omega

structure Pk where
  permit : Bool
  asleep : Bool
  on : Bool
  till : Int

def Pk.nil : Pk := ⟨false, false, false, 0⟩
def Pk.cell (x : Pk) : Nat → Value
  | 0 => .bool x.permit
  | 1 => .bool x.asleep
  | 2 => .bool x.on
  | _ => .int .u64 x.till
def pkF (P : Nat → Pk) (j : Nat) : Value := (P (j / 4)).cell (j % 4)
def updP (P : Nat → Pk) (k : Nat) (x : Pk) : Nat → Pk := fun i => if i = k then x else P i

theorem pk_0 (P : Nat → Pk) (k : Nat) : pkF P (k * 4) = .bool (P k).permit := by
  unfold pkF
  rw [show k * 4 / 4 = k from by omega, show k * 4 % 4 = 0 from by omega]
  rfl
theorem pk_1 (P : Nat → Pk) (k : Nat) : pkF P (k * 4 + 1) = .bool (P k).asleep := by
  unfold pkF
  rw [show (k * 4 + 1) / 4 = k from by omega, show (k * 4 + 1) % 4 = 1 from by omega]
  rfl
theorem pk_2 (P : Nat → Pk) (k : Nat) : pkF P (k * 4 + 2) = .bool (P k).on := by
  unfold pkF
  rw [show (k * 4 + 2) / 4 = k from by omega, show (k * 4 + 2) % 4 = 2 from by omega]
  rfl
theorem pk_3 (P : Nat → Pk) (k : Nat) : pkF P (k * 4 + 3) = .int .u64 (P k).till := by
  unfold pkF
  rw [show (k * 4 + 3) / 4 = k from by omega, show (k * 4 + 3) % 4 = 3 from by omega]
  rfl

/-- One field of one record is set. -/
theorem pk_set (P : Nat → Pk) (k c : Nat) (v : Value) (x : Pk) (hc : c < 4) (hx : ∀ m, m < 4 → x.cell m = if m = c then v else (P k).cell m) (j : Nat) : (if j = k * 4 + c then v else pkF P j) = pkF (updP P k x) j := by
  unfold pkF updP
  by_cases h1 : j / 4 = k
  · rw [if_pos h1, hx _ (by omega), ← h1]
    by_cases h2 : j % 4 = c
    · rw [if_pos h2, if_pos (by omega)]
    · rw [if_neg h2, if_neg (by omega)]
  · rw [if_neg h1, if_neg (by omega)]

theorem cell_lt {f : Nat → Value} {m : Nat} (h : m < 4) : (m = 0 ∨ m = 1 ∨ m = 2 ∨ m = 3) := by omega

theorem set_0 (P : Nat → Pk) (k : Nat) (v : Bool) (j : Nat) : (if j = k * 4 then .bool v else pkF P j) = pkF (updP P k { P k with permit := v }) j :=
  pk_set P k 0 _ _ (by decide) (fun m hm => by rcases (show m = 0 ∨ m = 1 ∨ m = 2 ∨ m = 3 by omega) with rfl | rfl | rfl | rfl <;> rfl) j
theorem set_1 (P : Nat → Pk) (k : Nat) (v : Bool) (j : Nat) : (if j = k * 4 + 1 then .bool v else pkF P j) = pkF (updP P k { P k with asleep := v }) j :=
  pk_set P k 1 _ _ (by decide) (fun m hm => by rcases (show m = 0 ∨ m = 1 ∨ m = 2 ∨ m = 3 by omega) with rfl | rfl | rfl | rfl <;> rfl) j
theorem set_2 (P : Nat → Pk) (k : Nat) (v : Bool) (j : Nat) : (if j = k * 4 + 2 then .bool v else pkF P j) = pkF (updP P k { P k with on := v }) j :=
  pk_set P k 2 _ _ (by decide) (fun m hm => by rcases (show m = 0 ∨ m = 1 ∨ m = 2 ∨ m = 3 by omega) with rfl | rfl | rfl | rfl <;> rfl) j
theorem set_3 (P : Nat → Pk) (k : Nat) (v : Int) (j : Nat) : (if j = k * 4 + 3 then .int .u64 v else pkF P j) = pkF (updP P k { P k with till := v }) j :=
  pk_set P k 3 _ _ (by decide) (fun m hm => by rcases (show m = 0 ∨ m = 1 ∨ m = 2 ∨ m = 3 by omega) with rfl | rfl | rfl | rfl <;> rfl) j

theorem updP_same (P : Nat → Pk) (k : Nat) (x : Pk) : updP P k x k = x := by simp [updP]
theorem updP_updP (P : Nat → Pk) (k : Nat) (x y : Pk) : updP (updP P k x) k y = updP P k y := by
  funext i
  unfold updP
  split <;> rfl

structure PSet where
  pk : Nat → Pk
  count : Int
  kind : Int
  who : Int

def PSet.f (s : PSet) (j : Nat) : Value := if j < 512 then pkF s.pk j else if j = 512 then .int .i64 s.count else if j = 513 then .int .u8 s.kind else .int .i64 s.who

section
variable {w : World} {b : Nat} {s : PSet}
theorem PSet.row_set (h : w.rowIs b 84 515 s.f) {j : Nat} (hj : j < 512) (v : Value) {P : Nat → Pk} (hP : ∀ i, (if i = j then v else pkF s.pk i) = pkF P i) : (w.setCell ⟨b, j, none⟩ v).rowIs b 84 515 (PSet.f { s with pk := P }) :=
  (h.set j v).congr fun i _ => by
    simp only [PSet.f]
    rw [← hP i]
    by_cases h1 : i = j
    · subst h1
      simp [hj]
    · simp only [if_neg h1]
theorem PSet.row_permit (h : w.rowIs b 84 515 s.f) {k : Nat} (hk : k < 128) (v : Bool) : (w.setCell ⟨b, k * 4, none⟩ (.bool v)).rowIs b 84 515 (PSet.f { s with pk := updP s.pk k { s.pk k with permit := v } }) := PSet.row_set h (by omega) _ (set_0 _ _ _)
theorem PSet.row_asleep (h : w.rowIs b 84 515 s.f) {k : Nat} (hk : k < 128) (v : Bool) : (w.setCell ⟨b, k * 4 + 1, none⟩ (.bool v)).rowIs b 84 515 (PSet.f { s with pk := updP s.pk k { s.pk k with asleep := v } }) := PSet.row_set h (by omega) _ (set_1 _ _ _)
theorem PSet.row_on (h : w.rowIs b 84 515 s.f) {k : Nat} (hk : k < 128) (v : Bool) : (w.setCell ⟨b, k * 4 + 2, none⟩ (.bool v)).rowIs b 84 515 (PSet.f { s with pk := updP s.pk k { s.pk k with on := v } }) := PSet.row_set h (by omega) _ (set_2 _ _ _)
theorem PSet.row_till (h : w.rowIs b 84 515 s.f) {k : Nat} (hk : k < 128) (v : Int) : (w.setCell ⟨b, k * 4 + 3, none⟩ (.int .u64 v)).rowIs b 84 515 (PSet.f { s with pk := updP s.pk k { s.pk k with till := v } }) := PSet.row_set h (by omega) _ (set_3 _ _ _)
theorem PSet.row_rec (h : w.rowIs b 84 515 s.f) {k : Nat} (hk : k < 128) (x : Pk) :
    ((((w.setCell ⟨b, k * 4, none⟩ (.bool x.permit)).setCell ⟨b, k * 4 + 1, none⟩ (.bool x.asleep)).setCell ⟨b, k * 4 + 2, none⟩ (.bool x.on)).setCell ⟨b, k * 4 + 3, none⟩ (.int .u64 x.till)).rowIs b 84 515 (PSet.f { s with pk := updP s.pk k x }) := by
  have h4 := PSet.row_till (PSet.row_on (PSet.row_asleep (PSet.row_permit h hk x.permit) hk x.asleep) hk x.on) hk x.till
  simp only [updP_same, updP_updP] at h4
  exact h4
theorem PSet.row_sleep (h : w.rowIs b 84 515 s.f) {k : Nat} (hk : k < 128) (a o : Bool) (t : Int) :
    (((w.setCell ⟨b, k * 4 + 1, none⟩ (.bool a)).setCell ⟨b, k * 4 + 2, none⟩ (.bool o)).setCell ⟨b, k * 4 + 3, none⟩ (.int .u64 t)).rowIs b 84 515 (PSet.f { s with pk := updP s.pk k ⟨(s.pk k).permit, a, o, t⟩ }) := by
  have h4 := PSet.row_till (PSet.row_on (PSet.row_asleep h hk a) hk o) hk t
  simp only [updP_same, updP_updP] at h4
  exact h4
theorem PSet.row_count (h : w.rowIs b 84 515 s.f) (v : Int) : (w.setCell ⟨b, 512, none⟩ (.int .i64 v)).rowIs b 84 515 (PSet.f { s with count := v }) :=
  (h.set 512 _).congr fun i _ => by
    simp only [PSet.f]
    by_cases h1 : i = 512
    · subst h1; rfl
    · simp only [if_neg h1]
theorem PSet.row_last (h : w.rowIs b 84 515 s.f) (k p : Int) : ((w.setCell ⟨b, 513, none⟩ (.int .u8 k)).setCell ⟨b, 514, none⟩ (.int .i64 p)).rowIs b 84 515 (PSet.f { s with kind := k, who := p }) :=
  ((h.set 513 _).set 514 _).congr fun i hi => by
    simp only [PSet.f]
    by_cases h1 : i = 514
    · subst h1; rfl
    · by_cases h2 : i = 513
      · subst h2; rfl
      · simp only [if_neg h1, if_neg h2]
        by_cases h3 : i < 512
        · simp only [if_pos h3]
        · have : i = 512 := by omega
          subst this
          rfl
theorem PSet.at_permit (h : w.rowIs b 84 515 s.f) {k : Nat} (hk : k < 128) : w.cell? ⟨b, k * 4, none⟩ = some (.bool (s.pk k).permit) := by
  rw [h.cell (i := k * 4) (by omega), PSet.f, if_pos (by omega), pk_0]
theorem PSet.at_asleep (h : w.rowIs b 84 515 s.f) {k : Nat} (hk : k < 128) : w.cell? ⟨b, k * 4 + 1, none⟩ = some (.bool (s.pk k).asleep) := by
  rw [h.cell (i := k * 4 + 1) (by omega), PSet.f, if_pos (by omega), pk_1]
theorem PSet.at_on (h : w.rowIs b 84 515 s.f) {k : Nat} (hk : k < 128) : w.cell? ⟨b, k * 4 + 2, none⟩ = some (.bool (s.pk k).on) := by
  rw [h.cell (i := k * 4 + 2) (by omega), PSet.f, if_pos (by omega), pk_2]
theorem PSet.at_till (h : w.rowIs b 84 515 s.f) {k : Nat} (hk : k < 128) : w.cell? ⟨b, k * 4 + 3, none⟩ = some (.int .u64 (s.pk k).till) := by
  rw [h.cell (i := k * 4 + 3) (by omega), PSet.f, if_pos (by omega), pk_3]
theorem PSet.at_count (h : w.rowIs b 84 515 s.f) : w.cell? ⟨b, 512, none⟩ = some (.int .i64 s.count) := h.cell (i := 512) (by omega)
theorem PSet.at_kind (h : w.rowIs b 84 515 s.f) : w.cell? ⟨b, 513, none⟩ = some (.int .u8 s.kind) := h.cell (i := 513) (by omega)
theorem PSet.at_who (h : w.rowIs b 84 515 s.f) : w.cell? ⟨b, 514, none⟩ = some (.int .i64 s.who) := h.cell (i := 514) (by omega)
end

/-- An object is made. -/
theorem only_alloc {a w : World} {row : Option Nat} (h : a.grownBy w row) (o : Obj) : a.grownBy (w.alloc o) row := h.trans (World.grownBy_alloc w o row)

set_option maxHeartbeats 400000 in
theorem pat_no (b : Nat) (p : Int) (w : World) (h : inr p = false) :
    Calls Try.prog 39 #[.pointer (some ⟨b, 0, none⟩), .int .i64 p] w fun e w' => e = .returned (.pointer none) ∧ w = w' := by
  rcases inr_no h with h0 | h0
  · clear h
    go_enter Try.func39, Try.ntmps39
    go_wp2
    go_ret
    exact ⟨rfl, rfl⟩
  · clear h
    go_enter Try.func39, Try.ntmps39
    go_wp2
    go_ret
    exact ⟨rfl, rfl⟩

set_option maxHeartbeats 400000 in
theorem pat_yes (b p : Nat) (w : World) (h : p < 128) :
    Calls Try.prog 39 #[.pointer (some ⟨b, 0, none⟩), .int .i64 p] w fun e w' => e = .returned (.pointer (some ⟨b, p * 4, none⟩)) ∧ w = w' := by
  go_enter Try.func39, Try.ntmps39
  go_wp2
  go_ret
  exact ⟨rfl, rfl⟩

set_option maxHeartbeats 400000 in
theorem pcall_no (b : Nat) (k p : Int) (w : World) (h : inr p = false) :
    Calls Try.prog 37 #[.pointer (some ⟨b, 0, none⟩), .int .u8 k, .int .i64 p] w fun e w' => e = .returned (.pointer none) ∧ w = w' := by
  go_enter Try.func37, Try.ntmps37
  go_wp2_with fail
  refine (pat_no _ _ _ h).mono ?_
  rintro e w' ⟨rfl, rfl⟩
  go_wp2_with fail
  go_ret
  exact ⟨rfl, rfl⟩

set_option maxHeartbeats 400000 in
theorem pcall_yes (b p : Nat) (k : Int) (s : PSet) (w : World) (h : p < 128) (hr : w.rowIs b 84 515 s.f) (hc : 0 ≤ s.count) (hc2 : s.count < 1000000) :
    Calls Try.prog 37 #[.pointer (some ⟨b, 0, none⟩), .int .u8 k, .int .i64 p] w fun e w' => e = .returned (.pointer (some ⟨b, p * 4, none⟩)) ∧
      w'.rowIs b 84 515 (PSet.f { s with count := s.count + 1, kind := k, who := p }) ∧ w.grownBy w' (some b) := by
  have c0 := PSet.at_count hr
  have c1 := PSet.at_kind hr
  have c2 := PSet.at_who hr
  have f0 := hr.frozen
  have hr1 := PSet.row_count hr (s.count + 1)
  have HR := Lib.hid hr1
  have HR0 := Lib.hid hr
  clear hr hr1
  generalize hn : s.count = n at *
  clear hn
  go_enter Try.func37, Try.ntmps37
  go_wp2_with fail
  refine (pat_yes _ _ _ h).mono ?_
  rintro e w' ⟨rfl, rfl⟩
  go_wp2_with fail
  go_ret
  exact ⟨rfl, PSet.row_last HR.out _ _, only_set (only_set (only_set (World.grownBy.refl w _) _ _) _ _) _ _⟩

/-- What a call of a parker leaves. -/
def PSet.called (s : PSet) (k p : Int) : PSet := if inr p then { s with count := s.count + 1, kind := k, who := p } else s
/-- The record of p set. -/
def PSet.put (s : PSet) (p : Int) (x : Pk) : PSet := if inr p then { s with pk := updP s.pk p.toNat x } else s

theorem PSet.called_no {s : PSet} {k p : Int} (h : inr p = false) : s.called k p = s := by simp [PSet.called, h]
theorem PSet.called_yes {s : PSet} {k p : Int} (h : inr p = true) : s.called k p = { s with count := s.count + 1, kind := k, who := p } := by simp [PSet.called, h]
theorem PSet.put_no {s : PSet} {p : Int} {x : Pk} (h : inr p = false) : s.put p x = s := by simp [PSet.put, h]
theorem PSet.put_yes {s : PSet} {p : Nat} {x : Pk} (h : inr p = true) : s.put p x = { s with pk := updP s.pk p x } := by simp [PSet.put, h]

/-- In or out of the range. -/
theorem inr_ways (p : Int) : inr p = false ∨ ∃ q : Nat, p = q ∧ q < 128 ∧ inr p = true := by
  cases h : inr p
  · exact .inl rfl
  · obtain ⟨h1, h2⟩ := inr_yes h
    exact .inr ⟨p.toNat, by omega, by omega, rfl⟩

set_option maxHeartbeats 400000 in
theorem prepare_any (b : Nat) (p : Int) (s : PSet) (w : World) (hr : w.rowIs b 84 515 s.f) (hc : 0 ≤ s.count) (hc2 : s.count < 1000000) :
    Calls Try.prog 20 #[.pointer (some ⟨b, 0, none⟩), .int .i64 p] w fun e w' => e = .returned (.tuple #[]) ∧ w'.rowIs b 84 515 ((s.called 1 p).put p Pk.nil).f ∧ w.grownBy w' (some b) := by
  rcases inr_ways p with h | ⟨q, rfl, hq, h⟩
  · rw [PSet.called_no h, PSet.put_no h]
    go_enter Try.func20, Try.ntmps20
    go_wp2_with fail
    refine (pcall_no _ _ _ _ h).mono ?_
    rintro e w' ⟨rfl, rfl⟩
    go_wp2_with fail
    go_end0
    exact ⟨rfl, hr, World.grownBy.refl w _⟩
  · rw [PSet.called_yes h, PSet.put_yes h]
    go_enter Try.func20, Try.ntmps20
    go_wp2_with fail
    refine (pcall_yes _ _ _ s _ hq hr hc hc2).mono ?_
    rintro e w1 ⟨rfl, hr1, hg1⟩
    have c0 := PSet.at_permit hr1 hq
    have c1 := PSet.at_asleep hr1 hq
    have c2 := PSet.at_on hr1 hq
    have c3 := PSet.at_till hr1 hq
    have f0 := hr1.frozen
    go_wp2_with fail
    go_end0
    exact ⟨rfl, PSet.row_rec hr1 hq Pk.nil, only_set (only_set (only_set (only_set hg1 _ _) _ _) _ _) _ _⟩

set_option maxHeartbeats 400000 in
theorem unpark_any (b : Nat) (p : Int) (s : PSet) (w : World) (hr : w.rowIs b 84 515 s.f) (hc : 0 ≤ s.count) (hc2 : s.count < 1000000) :
    Calls Try.prog 23 #[.pointer (some ⟨b, 0, none⟩), .int .i64 p] w fun e w' => e = .returned (.tuple #[]) ∧ w'.rowIs b 84 515 ((s.called 4 p).put p { s.pk p.toNat with permit := true }).f ∧ w.grownBy w' (some b) := by
  rcases inr_ways p with h | ⟨q, rfl, hq, h⟩
  · rw [PSet.called_no h, PSet.put_no h]
    go_enter Try.func23, Try.ntmps23
    go_wp2_with fail
    refine (pcall_no _ _ _ _ h).mono ?_
    rintro e w' ⟨rfl, rfl⟩
    go_wp2_with fail
    go_end0
    exact ⟨rfl, hr, World.grownBy.refl w _⟩
  · rw [PSet.called_yes h, PSet.put_yes h]
    go_enter Try.func23, Try.ntmps23
    go_wp2_with fail
    refine (pcall_yes _ _ _ s _ hq hr hc hc2).mono ?_
    rintro e w1 ⟨rfl, hr1, hg1⟩
    have c0 := PSet.at_permit hr1 hq
    have f0 := hr1.frozen
    go_wp2_with fail
    go_end0
    exact ⟨rfl, PSet.row_permit hr1 hq true, only_set hg1 _ _⟩

set_option maxHeartbeats 400000 in
theorem late_any (b : Nat) (p : Int) (s : PSet) (w : World) (hr : w.rowIs b 84 515 s.f) (hc : 0 ≤ s.count) (hc2 : s.count < 1000000) :
    Calls Try.prog 24 #[.pointer (some ⟨b, 0, none⟩), .int .i64 p] w fun e w' => e = .returned (.bool (inr p && !(s.pk p.toNat).permit)) ∧ w'.rowIs b 84 515 (s.called 5 p).f ∧ w.grownBy w' (some b) := by
  rcases inr_ways p with h | ⟨q, rfl, hq, h⟩
  · rw [PSet.called_no h, h]
    go_enter Try.func24, Try.ntmps24
    go_wp2_with fail
    refine (pcall_no _ _ _ _ h).mono ?_
    rintro e w' ⟨rfl, rfl⟩
    go_wp2_with fail
    go_ret
    exact ⟨rfl, hr, World.grownBy.refl w _⟩
  · rw [PSet.called_yes h, h]
    go_enter Try.func24, Try.ntmps24
    go_wp2_with fail
    refine (pcall_yes _ _ _ s _ hq hr hc hc2).mono ?_
    rintro e w1 ⟨rfl, hr1, hg1⟩
    have c0 := PSet.at_permit hr1 hq
    have f0 := hr1.frozen
    go_wp2_with fail
    go_ret
    exact ⟨by simp, hr1, hg1⟩

set_option maxHeartbeats 400000 in
theorem late_no (b : Nat) (p : Int) (w : World) (h : inr p = false) :
    Calls Try.prog 24 #[.pointer (some ⟨b, 0, none⟩), .int .i64 p] w fun e w' => e = .returned (.bool false) ∧ w = w' := by
  go_enter Try.func24, Try.ntmps24
  go_wp2_with fail
  refine (pcall_no _ _ _ _ h).mono ?_
  rintro e w' ⟨rfl, rfl⟩
  go_wp2_with fail
  go_ret
  exact ⟨rfl, rfl⟩

/-- What parks says, and what it makes of the record. -/
def parkO (x : Pk) (come : Bool) : Int := if x.permit then 1 else if come then 2 else 0
def parkR (x : Pk) (on : Bool) (till : Int) (come : Bool) : Pk := if x.permit then Pk.nil else if come then Pk.nil else ⟨x.permit, true, on, till⟩

set_option maxHeartbeats 400000 in
theorem parks_no (on come : Bool) (till : Int) (w : World) :
    Calls Try.prog 38 #[.pointer none, .agg #[.bool on, .int .u64 till], .bool come] w fun e w' => e = .returned (.int .u8 0) ∧ Below w.heap.size w w' := by
  go_enter Try.func38, Try.ntmps38
  go_wp2_with fail
  go_ret
  exact ⟨rfl, (Below.refl _ _).alloc (Nat.le_refl _) _⟩

set_option maxHeartbeats 400000 in
theorem parks_yes (b p : Nat) (on come : Bool) (till : Int) (s : PSet) (w : World) (hp : p < 128) (hr : w.rowIs b 84 515 s.f) :
    Calls Try.prog 38 #[.pointer (some ⟨b, p * 4, none⟩), .agg #[.bool on, .int .u64 till], .bool come] w fun e w' => e = .returned (.int .u8 (parkO (s.pk p) come)) ∧ w'.rowIs b 84 515 (PSet.f { s with pk := updP s.pk p (parkR (s.pk p) on till come) }) ∧ w.grownBy w' (some b) := by
  have hr1 := hr.alloc (.cells #[.bool on, .int .u64 till] 54)
  have c0 := PSet.at_permit hr hp
  have c1 := PSet.at_asleep hr hp
  have c2 := PSet.at_on hr hp
  have c3 := PSet.at_till hr hp
  have f0 := hr.frozen
  have hlt := hr.lt
  have c0 : ∀ o, (w.alloc o).cell? ⟨b, p * 4, none⟩ = _ := fun o => (World.cell?_alloc_lt w o _ hlt).trans c0
  have c1 : ∀ o, (w.alloc o).cell? ⟨b, p * 4 + 1, none⟩ = _ := fun o => (World.cell?_alloc_lt w o _ hlt).trans c1
  have c2 : ∀ o, (w.alloc o).cell? ⟨b, p * 4 + 2, none⟩ = _ := fun o => (World.cell?_alloc_lt w o _ hlt).trans c2
  have c3 : ∀ o, (w.alloc o).cell? ⟨b, p * 4 + 3, none⟩ = _ := fun o => (World.cell?_alloc_lt w o _ hlt).trans c3
  have f0 : ∀ o i, (w.alloc o).frozen? ⟨b, i, none⟩ = false := fun o i => (hr.alloc o).frozen i
  have hg0 := World.grownBy.refl w (some b)
  unfold parkO parkR
  have HR := Lib.hid hr
  have HG := Lib.hid hg0
  clear hr hr1 hg0
  cases hpm : (s.pk p).permit
  · simp only [hpm] at c0
    cases come
    · go_enter Try.func38, Try.ntmps38
      go_wp2_with fail
      go_ret
      refine ⟨rfl, ?_, only_alloc (only_set (only_set (only_set HG.out _ _) _ _) _ _) _⟩
      have := PSet.row_sleep HR.out hp true on till
      rw [hpm] at this
      exact this.alloc _
    · go_enter Try.func38, Try.ntmps38
      go_wp2_with fail
      go_ret
      exact ⟨rfl, (PSet.row_rec HR.out hp Pk.nil).alloc _, only_alloc (only_set (only_set (only_set (only_set HG.out _ _) _ _) _ _) _ _) _⟩
  · simp only [hpm] at c0
    go_enter Try.func38, Try.ntmps38
    go_wp2_with fail
    go_ret
    exact ⟨rfl, (PSet.row_rec HR.out hp Pk.nil).alloc _, only_alloc (only_set (only_set (only_set (only_set HG.out _ _) _ _) _ _) _ _) _⟩

set_option maxHeartbeats 400000 in
theorem park_any (b : Nat) (p : Int) (s : PSet) (w : World) (hr : w.rowIs b 84 515 s.f) (hc : 0 ≤ s.count) (hc2 : s.count < 1000000) :
    Calls Try.prog 22 #[.pointer (some ⟨b, 0, none⟩), .int .i64 p] w fun e w' => e = .returned (.int .u8 (if inr p then parkO (s.pk p.toNat) false else 0)) ∧
      w'.rowIs b 84 515 ((s.called 2 p).put p (parkR (s.pk p.toNat) false 0 false)).f ∧ w.grownBy w' (some b) := by
  rcases inr_ways p with h | ⟨q, rfl, hq, h⟩
  · rw [PSet.called_no h, PSet.put_no h, h]
    go_enter Try.func22, Try.ntmps22
    go_wp2_with fail
    refine (pcall_no _ _ _ _ h).mono ?_
    rintro e w' ⟨rfl, rfl⟩
    go_wp2_with fail
    refine (parks_no _ _ _ _).mono ?_
    rintro e w' ⟨rfl, hb⟩
    go_wp2_with fail
    go_ret
    exact ⟨rfl, hr.of_block (hb.block b hr.lt), ⟨hb.os, hb.tape, hb.output, hb.size, fun i hi _ => hb.block i hi⟩⟩
  · rw [PSet.called_yes h, PSet.put_yes h, h, Int.toNat_natCast, if_pos rfl]
    go_enter Try.func22, Try.ntmps22
    go_wp2_with fail
    refine (pcall_yes _ _ _ s _ hq hr hc hc2).mono ?_
    rintro e w1 ⟨rfl, hr1, hg1⟩
    go_wp2_with fail
    refine (parks_yes _ _ _ _ _ _ _ hq hr1).mono ?_
    rintro e w2 ⟨rfl, hr2, hg2⟩
    go_wp2_with fail
    go_ret
    exact ⟨rfl, hr2, hg1.trans hg2⟩

set_option maxHeartbeats 400000 in
theorem until_any (b : Nat) (p at_ now : Int) (s : PSet) (w : World) (hr : w.rowIs b 84 515 s.f) (hc : 0 ≤ s.count) (hc2 : s.count < 1000000) :
    Calls Try.prog 21 #[.pointer (some ⟨b, 0, none⟩), .int .i64 p, .int .u64 at_, .int .u64 now] w fun e w' => e = .returned (.int .u8 (if inr p then parkO (s.pk p.toNat) (decide (at_ ≤ now)) else 0)) ∧
      w'.rowIs b 84 515 ((s.called 3 p).put p (parkR (s.pk p.toNat) true at_ (decide (at_ ≤ now)))).f ∧ w.grownBy w' (some b) := by
  rcases inr_ways p with h | ⟨q, rfl, hq, h⟩
  · rw [PSet.called_no h, PSet.put_no h, h]
    go_enter Try.func21, Try.ntmps21
    go_wp2_with fail
    refine (pcall_no _ _ _ _ h).mono ?_
    rintro e w' ⟨rfl, rfl⟩
    go_wp2_with fail
    refine (parks_no _ _ _ _).mono ?_
    rintro e w' ⟨rfl, hb⟩
    go_wp2_with fail
    go_ret
    exact ⟨rfl, hr.of_block (hb.block b hr.lt), ⟨hb.os, hb.tape, hb.output, hb.size, fun i hi _ => hb.block i hi⟩⟩
  · rw [PSet.called_yes h, PSet.put_yes h, h, Int.toNat_natCast, if_pos rfl]
    go_enter Try.func21, Try.ntmps21
    go_wp2_with fail
    refine (pcall_yes _ _ _ s _ hq hr hc hc2).mono ?_
    rintro e w1 ⟨rfl, hr1, hg1⟩
    go_wp2_with fail
    refine (parks_yes _ _ _ _ _ _ _ hq hr1).mono ?_
    rintro e w2 ⟨rfl, hr2, hg2⟩
    go_wp2_with fail
    go_ret
    exact ⟨rfl, hr2, hg1.trans hg2⟩

set_option maxRecDepth 100000 in
set_option maxHeartbeats 400000 in
theorem asleep_any (b : Nat) (p : Int) (s : PSet) (w : World) (hr : w.rowIs b 84 515 s.f) :
    Calls Try.prog 27 #[.pointer (some ⟨b, 0, none⟩), .int .i64 p] w fun e w' => e = .returned (.bool (inr p && ((s.pk p.toNat).asleep || (s.pk p.toNat).on || (s.pk p.toNat).till != 0))) ∧ w = w' := by
  rcases inr_ways p with h | ⟨q, rfl, hq, h⟩
  · rw [h]
    go_enter Try.func27, Try.ntmps27
    go_wp2_with fail
    refine (pat_no _ _ _ h).mono ?_
    rintro e w' ⟨rfl, rfl⟩
    go_wp2_with fail
    go_ret
    exact ⟨rfl, rfl⟩
  · rw [h, Int.toNat_natCast, Bool.true_and]
    have c1 := PSet.at_asleep hr hq
    have c2 := PSet.at_on hr hq
    have c3 := PSet.at_till hr hq
    clear hr
    generalize (s.pk q).asleep = x1 at *
    generalize (s.pk q).on = x2 at *
    generalize (s.pk q).till = x3 at *
    go_enter Try.func27, Try.ntmps27
    go_wp2_with fail
    refine (pat_yes _ _ _ hq).mono ?_
    rintro e w' ⟨rfl, rfl⟩
    go_wp2_with fail
    all_goals go_ret
    all_goals exact ⟨by simp_all, rfl⟩

set_option maxRecDepth 100000 in
set_option maxHeartbeats 1000000 in
theorem goes_any (b : Nat) (p now : Int) (s : PSet) (w : World) (hr : w.rowIs b 84 515 s.f) :
    Calls Try.prog 28 #[.pointer (some ⟨b, 0, none⟩), .int .i64 p, .int .u64 now] w fun e w' => e = .returned (.bool (inr p && (!((s.pk p.toNat).asleep || (s.pk p.toNat).on || (s.pk p.toNat).till != 0) || (s.pk p.toNat).permit || ((s.pk p.toNat).on && decide ((s.pk p.toNat).till ≤ now))))) ∧ w = w' := by
  rcases inr_ways p with h | ⟨q, rfl, hq, h⟩
  · rw [h]
    go_enter Try.func28, Try.ntmps28
    go_wp2_with fail
    refine (pat_no _ _ _ h).mono ?_
    rintro e w' ⟨rfl, rfl⟩
    go_wp2_with fail
    go_ret
    exact ⟨rfl, rfl⟩
  · rw [h, Int.toNat_natCast, Bool.true_and]
    have c0 := PSet.at_permit hr hq
    have c1 := PSet.at_asleep hr hq
    have c2 := PSet.at_on hr hq
    have c3 := PSet.at_till hr hq
    clear hr
    generalize (s.pk q).permit = x0 at *
    generalize (s.pk q).asleep = x1 at *
    generalize (s.pk q).on = x2 at *
    generalize (s.pk q).till = x3 at *
    cases x0 <;> cases x1 <;> cases x2
    all_goals go_enter Try.func28, Try.ntmps28
    all_goals go_wp2_with fail
    all_goals refine (pat_yes _ _ _ hq).mono ?_
    all_goals rintro e w' ⟨rfl, rfl⟩
    all_goals go_wp2_with fail
    all_goals go_ret
    all_goals exact ⟨by simp_all, rfl⟩

set_option maxHeartbeats 400000 in
theorem count_any (b : Nat) (s : PSet) (w : World) (hr : w.rowIs b 84 515 s.f) :
    Calls Try.prog 29 #[.pointer (some ⟨b, 0, none⟩)] w fun e w' => e = .returned (.int .i64 s.count) ∧ w = w' := by
  have c0 := PSet.at_count hr
  clear hr
  generalize s.count = n at *
  go_enter Try.func29, Try.ntmps29
  go_wp2_with fail
  go_ret
  exact ⟨rfl, rfl⟩

set_option maxHeartbeats 400000 in
theorem last_any (b : Nat) (s : PSet) (w : World) (hr : w.rowIs b 84 515 s.f) :
    Calls Try.prog 30 #[.pointer (some ⟨b, 0, none⟩)] w fun e w' => e = .returned (.agg #[.int .u8 s.kind, .int .i64 s.who]) ∧ Below w.heap.size w w' := by
  have hlt := hr.lt
  have c0 := PSet.at_kind hr
  have c1 := PSet.at_who hr
  have c0 : ∀ o, (w.alloc o).cell? ⟨b, 513, none⟩ = _ := fun o => (World.cell?_alloc_lt w o _ hlt).trans c0
  have c1 : ∀ o, (w.alloc o).cell? ⟨b, 514, none⟩ = _ := fun o => (World.cell?_alloc_lt w o _ hlt).trans c1
  clear hr
  generalize s.kind = k at *
  generalize s.who = p at *
  go_enter Try.func30, Try.ntmps30
  go_wp2_with fail
  exact bodyPost_ret (v := .agg #[.int .u8 k, .int .i64 p]) (by simp [results, Try.results30, go_sem]) rfl ⟨rfl, (Below.refl _ _).alloc (Nat.le_refl _) _⟩

/-- The k-th parker of thread t, or -1. -/
def ofN (t k : Int) : Int := if t < 0 ∨ 63 < t then -1 else 2 * t + k

set_option maxHeartbeats 400000 in
theorem of_any (t k : Int) (w : World) (h : -1 ≤ t) (h2 : t ≤ 100) (hk : 0 ≤ k) (hk2 : k ≤ 1) :
    Calls Try.prog 40 #[.int .i64 t, .int .i64 k] w fun e w' => e = .returned (.int .i64 (ofN t k)) ∧ w = w' := by
  unfold ofN
  by_cases h3 : t < 0 ∨ 63 < t
  · rw [if_pos h3]
    rcases h3 with h3 | h3
    · go_enter Try.func40, Try.ntmps40
      go_wp2_with fail
      go_ret
      exact ⟨rfl, rfl⟩
    · go_enter Try.func40, Try.ntmps40
      go_wp2_with fail
      go_ret
      exact ⟨rfl, rfl⟩
  · rw [if_neg h3]
    have h4 : 0 ≤ t := by omega
    have h5 : t < 64 := by omega
    clear h3
    go_enter Try.func40, Try.ntmps40
    go_wp2_with fail
    go_ret
    exact ⟨rfl, rfl⟩

set_option maxHeartbeats 400000 in
theorem lot_any (t : Int) (w : World) (h : -1 ≤ t) (h2 : t ≤ 100) :
    Calls Try.prog 31 #[.int .i64 t] w fun e w' => e = .returned (.int .i64 (ofN t 0)) ∧ w = w' := by
  go_enter Try.func31, Try.ntmps31
  go_wp2_with fail
  refine (of_any t 0 _ h h2 (by decide) (by decide)).mono ?_
  rintro e w' ⟨rfl, rfl⟩
  go_wp2_with fail
  go_ret
  exact ⟨rfl, rfl⟩

set_option maxHeartbeats 400000 in
theorem word_any (t : Int) (w : World) (h : -1 ≤ t) (h2 : t ≤ 100) :
    Calls Try.prog 32 #[.int .i64 t] w fun e w' => e = .returned (.int .i64 (ofN t 1)) ∧ w = w' := by
  go_enter Try.func32, Try.ntmps32
  go_wp2_with fail
  refine (of_any t 1 _ h h2 (by decide) (by decide)).mono ?_
  rintro e w' ⟨rfl, rfl⟩
  go_wp2_with fail
  go_ret
  exact ⟨rfl, rfl⟩

def zeros515 : Array Value := ((List.range 515).map (PSet.f ⟨fun _ => Pk.nil, 0, 0, 0⟩)).toArray
set_option maxRecDepth 100000 in
theorem run_build84 (w : World) : (Instr.build 84 #[]).run Try.prog w = .ok (.agg zeros515) w := by kernel_rfl
theorem exec_build84 (ρ : Operand → Value) (dst : Option Tmp) (ty : TypeId) (pos : String) (after : Array Edge) (g : Option (Nat × Bool)) (w : World) :
    (execOp ρ ⟨dst, .build 84 #[], ty, pos, after, g⟩).run Try.prog w = .ok (.value (.agg zeros515)) w := by
  unfold execOp
  simp only [Array.map_empty, Sem.run_bind, run_build84]
  rfl

set_option maxRecDepth 100000 in
set_option maxHeartbeats 400000 in
theorem pnew_any (w : World) :
    Calls Try.prog 12 #[] w fun e w' => e = .returned (.pointer (some ⟨w.heap.size, 0, none⟩)) ∧ w' = w.alloc (.cells zeros515 84) := by
  go_enter Try.func12, Try.ntmps12
  go_wp2_with (refine wpList_run rfl (exec_build84 _ _ _ _ _ _ _) ?_)
  go_ret
  exact ⟨rfl, rfl⟩

end Go.Proofs.YtpnpjiaciolgiaaR
