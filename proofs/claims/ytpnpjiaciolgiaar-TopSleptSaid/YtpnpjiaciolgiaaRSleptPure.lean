/- TopSlept: the plain law: a parker kept by hand answers as the set's own. -/
import Derived.Test.YtpnpjiaciolgiaaRSlept1
namespace Go.Proofs.YtpnpjiaciolgiaaR
open Go.RowKit

/-- A record of the set, and the one kept by hand. -/
def Same (x y : Pk) : Prop := x.permit = y.permit ∧ x.asleep = y.asleep ∧ (x.asleep = true → x.on = y.on ∧ (x.on = true → x.till = y.till)) ∧ (x.asleep = false → x.on = false ∧ x.till = 0)

theorem Same.nil : Same Pk.nil Pk.nil := ⟨rfl, rfl, fun h => (by cases h), fun _ => ⟨rfl, rfl⟩⟩

/-- Does it sleep? -/
theorem Same.sleeps {x y : Pk} (h : Same x y) : (x.asleep || x.on || x.till != 0) = y.asleep := by
  obtain ⟨_, h2, _, h4⟩ := h
  rw [← h2]
  cases ha : x.asleep
  · obtain ⟨h5, h6⟩ := h4 ha
    simp [h5, h6]
  · rfl
/-- May it go on? -/
theorem Same.goes {x y : Pk} (h : Same x y) (now : Nat) : (!(x.asleep || x.on || x.till != 0) || x.permit || (x.on && decide (x.till ≤ (now : Int)))) = (!y.asleep || y.permit || (y.on && decide (y.till ≤ (now : Int)))) := by
  rw [h.sleeps]
  obtain ⟨h1, h2, h3, _⟩ := h
  rw [h1]
  cases ha : y.asleep
  · rfl
  · obtain ⟨h5, h6⟩ := h3 (by rw [h2, ha])
    rw [h5]
    cases ho : y.on
    · rfl
    · rw [h6 (by rw [h5, ho])]

/-- Reset, whatever it was. -/
theorem Same.reset (y : Pk) : Same Pk.nil { y with permit := false, asleep := false } := ⟨rfl, rfl, fun h => (by cases h), fun _ => ⟨rfl, rfl⟩⟩
theorem Same.wake {x y : Pk} (h : Same x y) : Same { x with permit := true } { y with permit := true } := ⟨rfl, h.2.1, h.2.2.1, h.2.2.2⟩
theorem Same.late {x y : Pk} (h : Same x y) (hp : x.permit = false) : Same Pk.nil { y with asleep := false } := by
  refine ⟨?_, rfl, fun h => (by cases h), fun _ => ⟨rfl, rfl⟩⟩
  show false = y.permit
  rw [← h.1, hp]
theorem Same.blocks {x y : Pk} (h : Same x y) (on : Bool) (till t0 : Int) (ht : on = true → t0 = till) : Same ⟨x.permit, true, on, t0⟩ { y with asleep := true, on := on, till := till } :=
  ⟨h.1, rfl, fun _ => ⟨rfl, ht⟩, fun h => (by cases h)⟩

/-- What holds ahead of each round. -/
structure LI (B : Blk) (b0 : Nat) (w0 : World) (k : Nat) (σ : St) (lv : Value) (xs : List Nat) (W : World) : Prop where
  m : M5 B σ W
  rd : Rd W σ.dv xs
  rl : Rd W lv xs
  fd : Far B σ.dv W
  fl : Far B lv W
  bel : Below b0 w0 W
  same : ∀ p, p < 128 → Same (σ.ps.pk p) (σ.O p)
  hn : σ.n = σ.ps.count
  hk : σ.kd = σ.ps.kind
  hw : σ.wh = σ.ps.who
  n0 : 0 ≤ σ.n
  n1 : σ.n ≤ k
  len : xs.length ≤ 20 + 2 * k
  x64 : ∀ x, x ∈ xs → x < 18446744073709551616
  now64 : σ.now < 18446744073709551616
  most64 : σ.most < 18446744073709551616
  ok : B.Ok
  hb : b0 ≤ B.c

theorem LI.below {B : Blk} {b0 : Nat} {w0 : World} {k : Nat} {σ : St} {lv : Value} {xs : List Nat} {W W' : World} (h : LI B b0 w0 k σ lv xs W) (hb : Below W.heap.size W W') : LI B b0 w0 k σ lv xs W' :=
  { h with
    m := ⟨h.m.c.of_block (hb.block _ h.m.c.lt), h.m.s.of_block (hb.block _ h.m.s.lt), h.m.o.of_block (hb.block _ h.m.o.lt), h.m.k.of_block (hb.block _ h.m.k.lt), h.m.l.of_block (hb.block _ h.m.l.lt)⟩
    rd := h.rd.below hb
    rl := h.rl.below hb
    fd := h.fd.size hb.size
    fl := h.fl.size hb.size
    bel := h.bel.trans (hb.mono (by have := h.m.c.lt; have := h.hb; omega)) }

/-- A round's end. -/
theorem LI.next {B : Blk} {b0 : Nat} {w0 wr W : World} {X pb ib M : Nat} {d pr : Int} {N : Nat} {P : Int} {k : Nat} {σ σ' : St} {lv lv' : Value} {xs xs' : List Nat}
    (h : LI B b0 w0 k σ lv xs wr) (r : RS B wr X pb ib M d pr N P σ' W)
    (rd : Rd W σ'.dv xs') (rl : Rd W lv' xs') (fd : Far B σ'.dv W) (fl : Far B lv' W) (same : ∀ p, p < 128 → Same (σ'.ps.pk p) (σ'.O p)) (hn : σ'.n = σ'.ps.count) (hk : σ'.kd = σ'.ps.kind) (hw : σ'.wh = σ'.ps.who)
    (n0 : 0 ≤ σ'.n) (n1 : σ'.n ≤ (k : Int) + 1) (len : xs'.length ≤ 20 + 2 * (k + 1)) (x64 : ∀ x, x ∈ xs' → x < 18446744073709551616) (now64 : σ'.now < 18446744073709551616) (most64 : σ'.most < 18446744073709551616) :
    LI B b0 w0 (k + 1) σ' lv' xs' W :=
  ⟨r.m, rd, rl, fd, fl, r.ch.bel h.bel h.ok h.hb r.lt, same, hn, hk, hw, n0, by omega, len, x64, now64, most64, h.ok, h.hb⟩

/-- The draws and what is left are untouched. -/
theorem LI.next0 {B : Blk} {b0 : Nat} {w0 wr W : World} {X pb ib M : Nat} {d pr : Int} {N : Nat} {P : Int} {k : Nat} {σ σ' : St} {lv : Value} {xs : List Nat}
    (h : LI B b0 w0 k σ lv xs wr) (r : RS B wr X pb ib M d pr N P σ' W) (hdv : σ'.dv = σ.dv) (same : ∀ p, p < 128 → Same (σ'.ps.pk p) (σ'.O p)) (hn : σ'.n = σ'.ps.count) (hk : σ'.kd = σ'.ps.kind) (hw : σ'.wh = σ'.ps.who)
    (n0 : 0 ≤ σ'.n) (n1 : σ'.n ≤ (k : Int) + 1) (now64 : σ'.now < 18446744073709551616) (most64 : σ'.most < 18446744073709551616) :
    LI B b0 w0 (k + 1) σ' lv xs W :=
  h.next r (by rw [hdv]; exact h.rd.ch h.fd r.ch) (h.rl.ch h.fl r.ch) (by rw [hdv]; exact h.fd.size r.ch.size) (h.fl.size r.ch.size) same hn hk hw n0 n1 (by have := h.len; omega) h.x64 now64 most64

end Go.Proofs.YtpnpjiaciolgiaaR
