/- TopSlept: what its loop keeps in memory, and the closure. -/
import Derived.Test.YtpnpjiaciolgiaaRParks
import Derived.Test.YtpnpjiaciolgiaaRMore
namespace Go.Proofs.YtpnpjiaciolgiaaR
open Go.RowKit

/-- The blocks that live through the loop: clock, set, the hand-kept parkers, the hand-kept count and last call. -/
structure Blk where
  c : Nat
  s : Nat
  o : Nat
  k : Nat
  l : Nat
def Blk.has (B : Blk) (j : Nat) : Prop := j = B.c ∨ j = B.s ∨ j = B.o ∨ j = B.k ∨ j = B.l
structure Blk.Ok (B : Blk) : Prop where
  h1 : B.c < B.s
  h2 : B.s < B.o
  h3 : B.o < B.k
  h4 : B.k < B.l

def lstF (kd wh : Int) : Nat → Value
  | 0 => .int .u8 kd
  | _ => .int .i64 wh
def thingF (d p : Int) (N : Nat) : Nat → Value
  | 0 => .int .u8 d
  | 1 => .int .u8 p
  | _ => .int .u64 N

/-- The state that the memory holds. -/
structure St where
  now : Nat
  dv : Value
  most : Nat
  ps : PSet
  O : Nat → Pk
  n : Int
  kd : Int
  wh : Int

structure M5 (B : Blk) (σ : St) (W : World) : Prop where
  c : W.rowIs B.c 77 3 (clkF σ.now σ.dv σ.most)
  s : W.rowIs B.s 84 515 σ.ps.f
  o : W.rowIs B.o 44 512 (pkF σ.O)
  k : W.rowIs B.k 3 1 (fun _ => .int .i64 σ.n)
  l : W.rowIs B.l 47 2 (lstF σ.kd σ.wh)

/-- Blocks below T other than the five are as they were. -/
structure Ch (B : Blk) (T : Nat) (w w' : World) : Prop where
  os : w'.os = w.os
  tape : w'.tape = w.tape
  output : w'.output = w.output
  size : w.heap.size ≤ w'.heap.size
  block : ∀ j, j < T → ¬ B.has j → w'.heap[j]? = w.heap[j]?

theorem Ch.refl (B : Blk) (T : Nat) (w : World) : Ch B T w w := ⟨rfl, rfl, rfl, Nat.le_refl _, fun _ _ _ => rfl⟩
theorem Ch.trans {B : Blk} {T : Nat} {a b c : World} (h : Ch B T a b) (k : Ch B T b c) : Ch B T a c :=
  ⟨k.os.trans h.os, k.tape.trans h.tape, k.output.trans h.output, Nat.le_trans h.size k.size, fun j h1 h2 => (k.block j h1 h2).trans (h.block j h1 h2)⟩
theorem Ch.below {B : Blk} {T : Nat} {a b c : World} (h : Ch B T a b) (k : Below b.heap.size b c) (hT : T ≤ b.heap.size) : Ch B T a c :=
  h.trans ⟨k.os, k.tape, k.output, k.size, fun j hj _ => k.block j (by omega)⟩
theorem Ch.grown {B : Blk} {T r : Nat} {a b c : World} (h : Ch B T a b) (k : b.grownBy c (some r)) (hT : T ≤ b.heap.size) (hr : B.has r ∨ T ≤ r) : Ch B T a c :=
  h.trans ⟨k.os, k.tape, k.output, k.size, fun j hj hn => k.block j (by omega) (fun e => by
    injection e with e
    subst e
    rcases hr with h | h
    · exact hn h
    · omega)⟩
theorem Ch.bel {B : Blk} {T b0 : Nat} {w0 a b : World} (h : Ch B T a b) (hb : Below b0 w0 a) (hB : B.Ok) (h0 : b0 ≤ B.c) (hT : B.l < T) : Below b0 w0 b :=
  ⟨h.os.trans hb.os, h.tape.trans hb.tape, h.output.trans hb.output, Nat.le_trans hb.size h.size, fun j hj => (h.block j (by have := hB.h1; have := hB.h2; have := hB.h3; have := hB.h4; omega) (by have := hB.h1; have := hB.h2; have := hB.h3; have := hB.h4; unfold Blk.has; omega)).trans (hb.block j hj)⟩

/-- The slice's row is none of the five. -/
def Far (B : Blk) (v : Value) (W : World) : Prop := ∀ j, v.ownBlock = some j → ¬ B.has j ∧ j < W.heap.size
theorem Far.size {B : Blk} {v : Value} {W W' : World} (h : Far B v W) (hs : W.heap.size ≤ W'.heap.size) : Far B v W' := fun j hj => ⟨(h j hj).1, Nat.lt_of_lt_of_le (h j hj).2 hs⟩
theorem Far.ne {B : Blk} {v : Value} {W : World} (h : Far B v W) {r : Nat} (hr : B.has r) : v.ownBlock ≠ some r := fun e => (h r e).1 hr
theorem Rd.ch {B : Blk} {v : Value} {xs : List Nat} {W W' : World} (h : Rd W v xs) (hf : Far B v W) (hc : Ch B W.heap.size W W') : Rd W' v xs :=
  h.kept (fun g hg hl => hc.block g hl (hf g hg).1) hc.size

/-- The state within a round: the five; the round's own variables; nothing else has turned since wr. -/
structure RS (B : Blk) (wr : World) (X pb ib M : Nat) (d pr : Int) (N : Nat) (P : Int) (σ : St) (W : World) : Prop where
  m : M5 B σ W
  ch : Ch B wr.heap.size wr W
  x : W.rowIs X 49 3 (thingF d pr N)
  p : W.rowIs pb 3 1 (fun _ => .int .i64 P)
  i : W.rowIs ib 4 1 (fun _ => .bool (inr P))
  b : ∃ f, W.rowIs M 43 4 f
  ok : B.Ok
  lt : B.l < wr.heap.size
  hX : wr.heap.size ≤ X
  hp : wr.heap.size ≤ pb
  hi : wr.heap.size ≤ ib
  hM : wr.heap.size ≤ M
  n1 : M ≠ X
  n2 : M ≠ pb
  n3 : M ≠ ib

section
variable {B : Blk} {wr : World} {X pb ib M : Nat} {d pr : Int} {N : Nat} {P : Int} {σ : St} {W W' : World}

theorem RS.hT (h : RS B wr X pb ib M d pr N P σ W) : wr.heap.size ≤ W.heap.size := h.ch.size

/-- A step that turns no block that was there. -/
theorem RS.below (h : RS B wr X pb ib M d pr N P σ W) (hb : Below W.heap.size W W') : RS B wr X pb ib M d pr N P σ W' :=
  { h with
    m := ⟨h.m.c.of_block (hb.block _ h.m.c.lt), h.m.s.of_block (hb.block _ h.m.s.lt), h.m.o.of_block (hb.block _ h.m.o.lt), h.m.k.of_block (hb.block _ h.m.k.lt), h.m.l.of_block (hb.block _ h.m.l.lt)⟩
    ch := h.ch.below hb h.hT
    x := h.x.of_block (hb.block _ h.x.lt)
    p := h.p.of_block (hb.block _ h.p.lt)
    i := h.i.of_block (hb.block _ h.i.lt)
    b := h.b.elim fun f hf => ⟨f, hf.of_block (hb.block _ hf.lt)⟩ }

/-- A step that turns block r alone, r none of the round's own variables. -/
theorem RS.step (h : RS B wr X pb ib M d pr N P σ W) {r : Nat} (hg : W.grownBy W' (some r)) (hr : B.has r) {σ' : St} (hm : M5 B σ' W') : RS B wr X pb ib M d pr N P σ' W' := by
  have hlt : r < wr.heap.size := by
    have := h.ok.h1; have := h.ok.h2; have := h.ok.h3; have := h.ok.h4; have := h.lt
    unfold Blk.has at hr
    omega
  have hne : ∀ j, wr.heap.size ≤ j → some j ≠ some r := fun j hj e => by injection e with e; omega
  exact { h with
    m := hm
    ch := h.ch.grown hg h.hT (.inl hr)
    x := h.x.of_block (hg.block _ h.x.lt (hne _ h.hX))
    p := h.p.of_block (hg.block _ h.p.lt (hne _ h.hp))
    i := h.i.of_block (hg.block _ h.i.lt (hne _ h.hi))
    b := h.b.elim fun f hf => ⟨f, hf.of_block (hg.block _ hf.lt (hne _ h.hM))⟩ }

theorem RS.putC (h : RS B wr X pb ib M d pr N P σ W) (hg : W.grownBy W' (some B.c)) {now' : Nat} {dv' : Value} (hc : W'.rowIs B.c 77 3 (clkF now' dv' σ.most)) : RS B wr X pb ib M d pr N P { σ with now := now', dv := dv' } W' := by
  have := h.ok.h1; have := h.ok.h2; have := h.ok.h3; have := h.ok.h4
  exact h.step hg (.inl rfl) ⟨hc, h.m.s.of_block (hg.block _ h.m.s.lt (by simp; omega)), h.m.o.of_block (hg.block _ h.m.o.lt (by simp; omega)), h.m.k.of_block (hg.block _ h.m.k.lt (by simp; omega)), h.m.l.of_block (hg.block _ h.m.l.lt (by simp; omega))⟩
theorem RS.putS (h : RS B wr X pb ib M d pr N P σ W) (hg : W.grownBy W' (some B.s)) {ps' : PSet} (hs : W'.rowIs B.s 84 515 ps'.f) : RS B wr X pb ib M d pr N P { σ with ps := ps' } W' := by
  have := h.ok.h1; have := h.ok.h2; have := h.ok.h3; have := h.ok.h4
  exact h.step hg (.inr (.inl rfl)) ⟨h.m.c.of_block (hg.block _ h.m.c.lt (by simp; omega)), hs, h.m.o.of_block (hg.block _ h.m.o.lt (by simp; omega)), h.m.k.of_block (hg.block _ h.m.k.lt (by simp; omega)), h.m.l.of_block (hg.block _ h.m.l.lt (by simp; omega))⟩
theorem RS.putO (h : RS B wr X pb ib M d pr N P σ W) (hg : W.grownBy W' (some B.o)) {O' : Nat → Pk} (hs : W'.rowIs B.o 44 512 (pkF O')) : RS B wr X pb ib M d pr N P { σ with O := O' } W' := by
  have := h.ok.h1; have := h.ok.h2; have := h.ok.h3; have := h.ok.h4
  exact h.step hg (.inr (.inr (.inl rfl))) ⟨h.m.c.of_block (hg.block _ h.m.c.lt (by simp; omega)), h.m.s.of_block (hg.block _ h.m.s.lt (by simp; omega)), hs, h.m.k.of_block (hg.block _ h.m.k.lt (by simp; omega)), h.m.l.of_block (hg.block _ h.m.l.lt (by simp; omega))⟩
theorem RS.putK (h : RS B wr X pb ib M d pr N P σ W) (hg : W.grownBy W' (some B.k)) {n' : Int} (hs : W'.rowIs B.k 3 1 (fun _ => .int .i64 n')) : RS B wr X pb ib M d pr N P { σ with n := n' } W' := by
  have := h.ok.h1; have := h.ok.h2; have := h.ok.h3; have := h.ok.h4
  exact h.step hg (.inr (.inr (.inr (.inl rfl)))) ⟨h.m.c.of_block (hg.block _ h.m.c.lt (by simp; omega)), h.m.s.of_block (hg.block _ h.m.s.lt (by simp; omega)), h.m.o.of_block (hg.block _ h.m.o.lt (by simp; omega)), hs, h.m.l.of_block (hg.block _ h.m.l.lt (by simp; omega))⟩
theorem RS.putL (h : RS B wr X pb ib M d pr N P σ W) (hg : W.grownBy W' (some B.l)) {kd' wh' : Int} (hs : W'.rowIs B.l 47 2 (lstF kd' wh')) : RS B wr X pb ib M d pr N P { σ with kd := kd', wh := wh' } W' := by
  have := h.ok.h1; have := h.ok.h2; have := h.ok.h3; have := h.ok.h4
  exact h.step hg (.inr (.inr (.inr (.inr rfl)))) ⟨h.m.c.of_block (hg.block _ h.m.c.lt (by simp; omega)), h.m.s.of_block (hg.block _ h.m.s.lt (by simp; omega)), h.m.o.of_block (hg.block _ h.m.o.lt (by simp; omega)), h.m.k.of_block (hg.block _ h.m.k.lt (by simp; omega)), hs⟩

/-- A store into the spare parker. -/
theorem RS.putM (h : RS B wr X pb ib M d pr N P σ W) (j : Nat) (v : Value) : RS B wr X pb ib M d pr N P σ (W.setCell ⟨M, j, none⟩ v) := by
  have := h.ok.h1; have := h.ok.h2; have := h.ok.h3; have := h.ok.h4; have := h.lt; have := h.hM
  exact { h with
    m := ⟨h.m.c.setOther (by simp; omega) v, h.m.s.setOther (by simp; omega) v, h.m.o.setOther (by simp; omega) v, h.m.k.setOther (by simp; omega) v, h.m.l.setOther (by simp; omega) v⟩
    ch := h.ch.grown (r := M) (only_set (World.grownBy.refl W _) j v) h.hT (.inr h.hM)
    x := h.x.setOther (fun e => h.n1 e.symm) v
    p := h.p.setOther (fun e => h.n2 e.symm) v
    i := h.i.setOther (fun e => h.n3 e.symm) v
    b := h.b.elim fun f hf => ⟨_, hf.set j v⟩ }

/-- A store into a record that is kept by hand. -/
theorem RS.setO (h : RS B wr X pb ib M d pr N P σ W) {j : Nat} (hj : j < 512) (v : Value) {O' : Nat → Pk} (hO : ∀ i, (if i = j then v else pkF σ.O i) = pkF O' i) : RS B wr X pb ib M d pr N P { σ with O := O' } (W.setCell ⟨B.o, j, none⟩ v) :=
  h.putO (only_set (World.grownBy.refl W _) j v) ((h.m.o.set j v).congr fun i _ => hO i)

/-- What 'called' does to what is counted by hand. -/
def St.called (σ : St) (kind P : Int) : St := if inr P then { σ with n := σ.n + 1, kd := kind, wh := P } else σ
theorem St.called_no {σ : St} {kind P : Int} (h : inr P = false) : σ.called kind P = σ := by simp [St.called, h]
theorem St.called_yes {σ : St} {kind P : Int} (h : inr P = true) : σ.called kind P = { σ with n := σ.n + 1, kd := kind, wh := P } := by simp [St.called, h]

end

set_option maxHeartbeats 1000000 in
theorem called_any {B : Blk} {wr : World} {X pb ib M : Nat} {d pr : Int} {N : Nat} {P : Int} {σ : St} (kind : Int) {W : World} (h : RS B wr X pb ib M d pr N P σ W) (hn : 0 ≤ σ.n) (hn2 : σ.n < 1000000) :
    Calls Try.prog 14 #[.int .u8 kind, .pointer (some ⟨ib, 0, none⟩), .pointer (some ⟨B.k, 0, none⟩), .pointer (some ⟨pb, 0, none⟩), .pointer (some ⟨B.l, 0, none⟩)] W fun e w' => e = .returned (.tuple #[]) ∧ RS B wr X pb ib M d pr N P (σ.called kind P) w' := by
  have c0 := h.i.cell (i := 0) (by omega)
  unfold St.called
  cases hP : inr P
  · rw [hP] at c0
    have H := Lib.hid h
    clear h
    go_enter Try.func14, Try.ntmps14
    go_wp2_with fail
    go_end0
    exact ⟨rfl, H.out⟩
  · rw [hP] at c0
    have c1 := h.m.k.cell (i := 0) (by omega)
    have c2 := h.p.cell (i := 0) (by omega)
    have c3 := h.m.l.cell (i := 0) (by omega)
    have c4 := h.m.l.cell (i := 1) (by omega)
    have f1 := h.m.k.frozen
    have f2 := h.m.l.frozen
    have hkl : B.k ≠ B.l := by have := h.ok.h4; omega
    have hlk : B.l ≠ B.k := by omega
    have hpk : pb ≠ B.k := by have := h.ok.h4; have := h.lt; have := h.hp; omega
    have hpl : pb ≠ B.l := by have := h.lt; have := h.hp; omega
    have hkp : B.k ≠ pb := fun e => hpk e.symm
    have hlp : B.l ≠ pb := fun e => hpl e.symm
    have H := Lib.hid h
    clear h
    go_enter Try.func14, Try.ntmps14
    go_wp2_with fail
    go_region
    all_goals go_wp2
    all_goals go_end0
    have h1 := H.out.putK (only_set (World.grownBy.refl W _) 0 (.int .i64 (σ.n + 1))) (n' := σ.n + 1) ((H.out.m.k.set 0 _).congr fun i hi => by rw [if_pos (by omega)])
    have h2 := h1.putL (only_set (only_set (World.grownBy.refl _ _) 0 (.int .u8 kind)) 1 (.int .i64 P)) (kd' := kind) (wh' := P) (((h1.m.l.set 0 _).set 1 _).congr fun i hi => by
      rcases (show i = 0 ∨ i = 1 by omega) with rfl | rfl <;> rfl)
    exact ⟨rfl, h2.below (Below.refl _ _).drew⟩

end Go.Proofs.YtpnpjiaciolgiaaR
