/- A slice of numbers of 64 bits that may be read: cut, copied, cloned. -/
import Derived.Test.YtpnpjiaciolgiaaRHelp
import Derived.Laws.CopyOwn
import Derived.Deep.Upon
import Derived.BigQuiet
import Derived.Deep.QuietTactic
namespace Go.Proofs.YtpnpjiaciolgiaaR
open Go.RowKit

def nums (xs : List Nat) : List Value := xs.map fun (x : Nat) => .int .u64 (x : Int)
theorem nums_len (xs : List Nat) : (nums xs).length = xs.length := by simp [nums]
theorem nums_app (xs ys : List Nat) : nums (xs ++ ys) = nums xs ++ nums ys := by simp [nums]
theorem nums_one (xs : List Nat) : ∀ v ∈ nums xs, v.oneCell' = true := by
  intro v hv
  obtain ⟨x, _, rfl⟩ := List.mem_map.1 hv
  rfl

/-- The slice v may be read: its elements are xs. -/
def Rd (w : World) (v : Value) (xs : List Nat) : Prop :=
  ∃ (A : Option Addr) (c : Nat), v = .slice A xs.length c ∧ xs.length ≤ c ∧ c ≤ maxLen ∧
    (0 < xs.length → ∃ g off, A = some ⟨g, off, none⟩ ∧ g < w.heap.size ∧ ∀ j, j < xs.length → w.cell? ⟨g, off + j, none⟩ = (nums xs)[j]?)

section
variable {w w' : World} {v : Value} {xs : List Nat}

theorem Rd.nil (w : World) : Rd w (.slice none 0 0) [] := ⟨none, 0, rfl, Nat.le_refl _, Nat.zero_le _, fun h => absurd h (Nat.lt_irrefl _)⟩
theorem Rd.form (h : Rd w v xs) : ∃ A c, v = .slice A xs.length c ∧ xs.length ≤ c ∧ c ≤ maxLen := by
  obtain ⟨A, c, h1, h2, h3, _⟩ := h
  exact ⟨A, c, h1, h2, h3⟩

/-- It stays so while its block stays. -/
theorem Rd.kept (h : Rd w v xs) (hb : ∀ g, v.ownBlock = some g → g < w.heap.size → w'.heap[g]? = w.heap[g]?) (hs : w.heap.size ≤ w'.heap.size) : Rd w' v xs := by
  obtain ⟨A, c, rfl, h2, h3, h4⟩ := h
  refine ⟨A, c, rfl, h2, h3, fun h => ?_⟩
  obtain ⟨g, off, rfl, hg, hc⟩ := h4 h
  refine ⟨g, off, rfl, by omega, fun j hj => ?_⟩
  rw [World.cell?_of_block (hb g rfl hg)]
  exact hc j hj
theorem Rd.grown {row : Option Nat} (h : Rd w v xs) (hg : w.grownBy w' row) (hne : row = none ∨ v.ownBlock ≠ row) : Rd w' v xs :=
  h.kept (fun g h1 h2 => hg.block g h2 (by rcases hne with rfl | h <;> simp_all)) hg.size
theorem Rd.below (h : Rd w v xs) (hb : Below w.heap.size w w') : Rd w' v xs := h.kept (fun g _ hg => hb.block g hg) hb.size
theorem Rd.alloc (h : Rd w v xs) (o : Obj) : Rd (w.alloc o) v xs := h.grown (World.grownBy_alloc w o none) (.inl rfl)
theorem Rd.drew (h : Rd w v xs) : Rd w.drew v xs := h

/-- What is there to be copied. -/
theorem Rd.src {A : Option Addr} {k c : Nat} (h : Rd w (.slice A k c) xs) (hp : 0 < (nums xs).length) : ∃ ad, A = some ad ∧ ∀ j u, (nums xs)[j]? = some u → w.cell? (ad.add j) = some u := by
  obtain ⟨A', c', hv, _, _, h4⟩ := h
  injection hv with e1 _ _
  subst e1
  rw [nums_len] at hp
  obtain ⟨g, off, rfl, _, hc⟩ := h4 hp
  refine ⟨_, rfl, fun j u hu => ?_⟩
  have hj : j < xs.length := by
    have := (List.getElem?_eq_some_iff.1 hu).1
    rwa [nums_len] at this
  rw [Addr.add_lit, hc j hj]
  exact hu

/-- A slice of the call's own. -/
theorem Sl.rd {base n : Nat} (h : Sl w base 35 1 v n (nums xs)) : Rd w v xs := by
  have hl := h.len
  rw [nums_len, Nat.mul_one] at hl
  subst hl
  obtain ⟨A, c, rfl, h2, h3⟩ := h.form
  refine ⟨A, c, rfl, h2, h3, fun hp => ?_⟩
  obtain ⟨g, off, c', hv, _, _, _, hg, hc, _⟩ := h.at_ hp
  injection hv with e1 _ _
  exact ⟨g, off, e1, hg, fun j hj => hc j (by omega)⟩

/-- Cut at its end: 's[:k]'. -/
theorem Rd.take {A : Option Addr} {n c k : Nat} (h : Rd w (.slice A n c) xs) (hk : k ≤ n) : Rd w (.slice A k c) (xs.take k) := by
  obtain ⟨A', c', hv, h2, h3, h4⟩ := h
  injection hv with e1 e2 e3
  subst e1 e2 e3
  have hl : (xs.take k).length = k := by rw [List.length_take]; omega
  refine ⟨A, c, by rw [hl], by omega, h3, fun hp => ?_⟩
  obtain ⟨g, off, hA, hg, hc⟩ := h4 (by omega)
  refine ⟨g, off, hA, hg, fun j hj => ?_⟩
  rw [hc j (by omega)]
  simp only [nums, List.map_take, List.getElem?_take]
  rw [if_pos (by omega)]

/-- Cut at its head: 's[1:]'. -/
theorem Rd.tail {x : Nat} (h : Rd w v (x :: xs)) : ∃ g off c, v = .slice (some ⟨g, off, none⟩) (xs.length + 1) c ∧ xs.length + 1 ≤ c ∧ c ≤ maxLen ∧ w.cell? ⟨g, off, none⟩ = some (.int .u64 x) ∧
    ∀ A', (A' = some ⟨g, off, none⟩ ∧ c = 1 ∨ A' = some ⟨g, off + 1, none⟩) → Rd w (.slice A' xs.length (c - 1)) xs := by
  obtain ⟨A, c, rfl, h2, h3, h4⟩ := h
  simp only [List.length_cons] at h2 h4
  obtain ⟨g, off, rfl, hg, hc⟩ := h4 (by omega)
  refine ⟨g, off, c, rfl, h2, h3, by simpa [nums] using hc 0 (by omega), fun A' hA => ?_⟩
  refine ⟨A', c - 1, rfl, by omega, by omega, fun hp => ?_⟩
  have hA' : A' = some ⟨g, off + 1, none⟩ := by
    rcases hA with ⟨_, h⟩ | h
    · omega
    · exact h
  refine ⟨g, off + 1, hA', hg, fun j hj => ?_⟩
  have := hc (j + 1) (by omega)
  rw [Nat.add_assoc, Nat.add_comm 1 j, this]
  simp [nums]

end

section
variable {P : Program}

/-- 's[1:]' of a slice that may be read. -/
theorem wpList_tail_rd {w : World} {ops : Array Oper} {rest : List Oper} {o : Oper} {a : Act} {Q : Exit → Act → World → Prop} (hgd : o.guard = none) (s : Operand) (t : TypeId) (k : IntKind)
    (ho : o.op = .slice t s (some (.const (.int k 1))) none none) (e : TypeId) (i : TypeInfo) (ht : P.underlying t = some (.slice e)) (hi : P.info? e = some i) (hsize : i.size = 1)
    (v : Value) (x : Nat) (xs : List Nat) (hs : a.eval s = v) (hown : Rd w v (x :: xs))
    (h : ∀ A' c', Rd w (.slice A' xs.length c') xs → (Value.slice A' xs.length c').ownBlock = v.ownBlock → wpList P ops Q rest (a.put o.dst (.slice A' xs.length c')) w) : wpList P ops Q (o :: rest) a w := by
  obtain ⟨g, off, c, rfl, hnc, _, _, hcut⟩ := hown.tail
  refine wpList_run hgd ?_ (h (if c = 1 then some ⟨g, off, none⟩ else some ⟨g, off + 1, none⟩) (c - 1) (hcut _ ?_) ?_)
  · have h1 : a.eval (.const (.int k 1)) = .int k 1 := rfl
    have hle : (1 : Int) ≤ ((xs.length + 1 : Nat) : Int) := by omega
    unfold execOp
    simp [ho, hs, h1, Instr.sliceAt, Instr.slice, run_underlying ht, Instr.sliceBounds, Instr.sliceBound, asIntOf, sizeOf, typeInfo, hi, hsize, Addr.add_lit]
    intro h5
    omega
  · split
    · exact .inl ⟨rfl, by assumption⟩
    · exact .inr rfl
  · split <;> rfl

/-- 'all[n:]' of a full row, the address a letter. -/
theorem wpList_from {w : World} {ops : Array Oper} {rest : List Oper} {o : Oper} {a : Act} {Q : Exit → Act → World → Prop} (hgd : o.guard = none) (s lo : Operand) (t : TypeId) (k : IntKind)
    (ho : o.op = .slice t s (some lo) none none) (e : TypeId) (i : TypeInfo) (ht : P.underlying t = some (.slice e)) (hi : P.info? e = some i) (hsize : i.size = 1)
    (g n m : Nat) (hs : a.eval s = .slice (some ⟨g, 0, none⟩) (n + m) (n + m)) (hlo : a.eval lo = .int k n)
    (h : ∀ A', (0 < m → A' = some ⟨g, n, none⟩) → wpList P ops Q rest (a.put o.dst (.slice A' m m)) w) : wpList P ops Q (o :: rest) a w := by
  refine wpList_run hgd ?_ (h (if n + m = n then some ⟨g, 0, none⟩ else some ⟨g, n, none⟩) ?_)
  · have hle : (n : Int) ≤ ((n + m : Nat) : Int) := by omega
    have h0 : ¬ ((n : Int) + m < n) := by omega
    unfold execOp
    simp [ho, hs, hlo, Instr.sliceAt, Instr.slice, run_underlying ht, Instr.sliceBounds, Instr.sliceBound, asIntOf, sizeOf, typeInfo, hi, hsize, Addr.add_lit, h0]
  · intro hm
    rw [if_neg (by omega)]

/-- min of two numbers, its value given. -/
theorem wpList_min2 {ops : Array Oper} {Q : Exit → Act → World → Prop} {rest : List Oper} {o : Oper} {a : Act} {w : World} (x y : Operand) (ats : Array TypeId) (c l : Int) (N : Nat)
    (hg : o.guard = none) (ho : o.op = .call { callee := .builtin .min, args := #[x, y], argTypes := ats }) (hx : a.eval x = .int .i64 l) (hy : a.eval y = .int .i64 c) (hN : (N : Int) = if c < l then c else l)
    (hk : wpList P ops Q rest (a.put o.dst (.int .i64 N)) w) : wpList P ops Q (o :: rest) a w := by
  refine wpList_run hg ?_ hk
  unfold execOp
  simp only [ho, resolve, invoke, builtin, Sem.run_bind, Sem.run_pure, Result.andThen_ok, List.map_toArray, List.map_cons, List.map_nil, hx, hy, run_min_int2, ← hN]

end

theorem info35 : (Try.prog.info? 35).map (fun i => (i.zero, i.size, i.bytes)) = some (some (.int .u64 0), 1, 8) := by kernel_rfl

end Go.Proofs.YtpnpjiaciolgiaaR
