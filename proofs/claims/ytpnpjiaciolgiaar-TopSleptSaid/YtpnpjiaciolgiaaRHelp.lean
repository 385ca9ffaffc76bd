/- Helpers: a slice of the call's own that may begin anywhere in its row ('Sl'): appended to, cut at its head, read. -/
import Derived.Test.YtpnpjiaciolgiaaRRows
import Derived.WalkKit
import Derived.WalkSpells
import Derived.WalkLawsBesides
import Derived.Deep.OwnRows
import Derived.Lib.Hide
namespace Go.Proofs.YtpnpjiaciolgiaaR
open Go.RowKit

/-- One operation by its run. -/
theorem wpList_run {P : Program} {ops : Array Oper} {Q : Exit → Act → World → Prop} {rest : List Oper} {o : Oper} {a : Act} {w w' : World} {v : Value}
    (hg : o.guard = none) (h : (execOp a.eval o).run P w = .ok (.value v) w') (hk : wpList P ops Q rest (a.put o.dst v) w') : wpList P ops Q (o :: rest) a w :=
  wpList_plain hg fun K hK => by unfold Oper.wp; rw [h]; exact hK _ _ hk

/-- A store into block g. -/
theorem only_set {a w : World} {g : Nat} (h : a.grownBy w (some g)) (o : Nat) (u : Value) : a.grownBy (w.setCell ⟨g, o, none⟩ u) (some g) :=
  ⟨h.os, h.tape, h.output, by simpa [World.setCell] using h.size, fun i hi hne => (Below.heap_setCell w ⟨g, o, none⟩ u i (fun e => hne (by rw [e]))).trans (h.block i hi hne)⟩

/-- The slice v has n elements of type e ('size' cells each), whose cells are xs. It lies from base on; its row may hold more on both sides. -/
def Sl (w : World) (base : Nat) (e : TypeId) (size : Nat) (v : Value) (n : Nat) (xs : List Value) : Prop :=
  xs.length = n * size ∧ ∃ (A : Option Addr) (c : Nat), v = .slice A n c ∧ n ≤ c ∧ c ≤ maxLen ∧ (A = none → c = 0) ∧ (∀ a, A = some a → base ≤ a.block) ∧
    (0 < c → ∃ (g off : Nat) (cs : Array Value), A = some ⟨g, off, none⟩ ∧ base ≤ g ∧ w.heap[g]? = some (.cells cs e (0, 0)) ∧ off + c * size ≤ cs.size ∧ ∀ j, j < n * size → cs[off + j]? = xs[j]?)

section
variable {w w' : World} {base : Nat} {e : TypeId} {size n : Nat} {v : Value} {xs : List Value}

theorem Sl.nil (w : World) (base : Nat) (e : TypeId) (size : Nat) : Sl w base e size (.slice none 0 0) 0 [] :=
  ⟨by simp, none, 0, rfl, Nat.le_refl _, Nat.zero_le _, fun _ => rfl, fun _ h => (by cases h), fun h => absurd h (Nat.lt_irrefl _)⟩

theorem Sl.len (h : Sl w base e size v n xs) : xs.length = n * size := h.1

/-- Where an element that is there lies. -/
theorem Sl.at_ (h : Sl w base e size v n xs) (hn : 0 < n) : ∃ g off c, v = .slice (some ⟨g, off, none⟩) n c ∧ n ≤ c ∧ c ≤ maxLen ∧ base ≤ g ∧ g < w.heap.size ∧
    (∀ j, j < n * size → w.cell? ⟨g, off + j, none⟩ = xs[j]?) ∧ ∀ j, w.frozen? ⟨g, j, none⟩ = false := by
  obtain ⟨_, A, c, hv, hnc, hc, _, _, hp⟩ := h
  obtain ⟨g, off, cs, rfl, hb, hg, _, hcs⟩ := hp (by omega)
  refine ⟨g, off, c, hv, hnc, hc, hb, (Array.getElem?_eq_some_iff.1 hg).1, fun j hj => ?_, fun j => by simp [World.frozen?, hg]⟩
  rw [cell_of_row w g (off + j) cs e (0, 0) hg]
  exact hcs j hj

theorem Sl.form (h : Sl w base e size v n xs) : ∃ A c, v = .slice A n c ∧ n ≤ c ∧ c ≤ maxLen := by
  obtain ⟨_, A, c, hv, hnc, hc, _⟩ := h
  exact ⟨A, c, hv, hnc, hc⟩

/-- It stays so while other rows are written. -/
theorem Sl.kept {row : Option Nat} (h : Sl w base e size v n xs) (hg : w.grownBy w' row) (hne : row = none ∨ v.ownBlock ≠ row) : Sl w' base e size v n xs := by
  obtain ⟨hl, A, c, rfl, hnc, hc, h0, hB, hp⟩ := h
  refine ⟨hl, A, c, rfl, hnc, hc, h0, hB, fun h => ?_⟩
  obtain ⟨g, off, cs, rfl, hb, hgg, rest⟩ := hp h
  refine ⟨g, off, cs, rfl, hb, ?_, rest⟩
  rw [hg.block g (Array.getElem?_eq_some_iff.1 hgg).1 (by rcases hne with rfl | h <;> simp_all [Value.ownBlock])]
  exact hgg

theorem Sl.below (h : Sl w base e size v n xs) (hb : Below w.heap.size w w') : Sl w' base e size v n xs :=
  h.kept (row := none) ⟨hb.os, hb.tape, hb.output, hb.size, fun k hk _ => hb.block k hk⟩ (.inl rfl)

theorem Sl.alloc (h : Sl w base e size v n xs) (o : Obj) : Sl (w.alloc o) base e size v n xs := h.kept (World.grownBy_alloc w o none) (.inl rfl)
theorem Sl.drew (h : Sl w base e size v n xs) : Sl w.drew base e size v n xs := h

/-- Where it lies. -/
theorem Sl.own (h : Sl w base e size v n xs) {k : Nat} (hk : v.ownBlock = some k) : base ≤ k := by
  obtain ⟨_, A, c, rfl, _, _, _, hB, _⟩ := h
  cases A with
  | none => simp [Value.ownBlock] at hk
  | some a =>
    simp [Value.ownBlock] at hk
    subst hk
    exact hB a rfl
theorem Sl.ne (h : Sl w base e size v n xs) {k : Nat} (hk : k < base) : v.ownBlock ≠ some k := fun e => by
  have := h.own e
  omega

/-- Cut at its head. -/
theorem Sl.cut (h : Sl w base e size v n xs) {k : Nat} (hk : k ≤ n) : ∃ A c, v = .slice A n c ∧ n ≤ c ∧
    Sl w base e size (.slice (if c = k then A else A.map (·.add (k * size))) (n - k) (c - k)) (n - k) (xs.drop (k * size)) := by
  obtain ⟨hl, A, c, rfl, hnc, hc, h0, hB, hp⟩ := h
  refine ⟨A, c, rfl, hnc, by rw [List.length_drop, hl, Nat.sub_mul], _, _, rfl, by omega, by omega, ?_, ?_, fun hck => ?_⟩
  · split
    · intro _; omega
    · intro hA
      have := h0 (by cases A <;> simp_all)
      omega
  · intro a ha
    split at ha
    · exact hB a ha
    · cases A with
      | none => cases ha
      | some a' =>
        injection ha with ha
        subst ha
        unfold Addr.add
        split <;> exact hB a' rfl
  · obtain ⟨g, off, cs, rfl, hb, hg, hfit, hcs⟩ := hp (by omega)
    clear hp
    rw [if_neg (by omega)]
    have e1 : k + (c - k) = c := by omega
    have e2 : k + (n - k) = n := by omega
    have e3 : k * size + (c - k) * size = c * size := by rw [← Nat.add_mul, e1]
    have e4 : k * size + (n - k) * size = n * size := by rw [← Nat.add_mul, e2]
    refine ⟨g, off + k * size, cs, by simp [Addr.add_lit], hb, hg, by omega, fun j hj => ?_⟩
    · have h1 : k * size + j < n * size := by omega
      rw [List.getElem?_drop, ← hcs _ h1, Nat.add_assoc]

end

section
variable {P : Program} (w : World)

/-- append, room or not. -/
theorem run_append_sl (base : Nat) (t ty e : TypeId) (i : TypeInfo) (z : Value) (size bytes : Nat) (ht : P.underlying t = some (.slice e)) (hi : P.info? e = some i) (hz : i.zero = some z)
    (hsize : i.size = size) (hby : i.bytes = bytes) (hzs : z.cells.size = size) (hsz : 0 < size)
    (v : Value) (n : Nat) (xs : List Value) (hown : Sl w base e size v n xs)
    (ad : Addr) (m c : Nat) (news : List Value) (hm : 0 < m) (hl : news.length = m * size) (hnews : ∀ j u, news[j]? = some u → w.cell? (ad.add j) = some u) (h1 : ∀ u ∈ news, u.oneCell' = true)
    (h63 : n + m ≤ maxLen) (hbytes : (n + m) * bytes ≤ 140737488355328) (hbase : base ≤ w.heap.size) :
    ∃ v' w', (Builtin.append_ #[t, t] ty #[v, .slice (some ad) m c]).run P w = .ok v' w' ∧ Sl w' base e size v' (n + m) (xs ++ news) ∧ w.grownBy w' v.ownBlock ∧
      ∃ g, v'.ownBlock = some g ∧ (v.ownBlock = some g ∨ w.heap.size ≤ g) := by
  subst hsize
  subst hby
  obtain ⟨hlx, A, cap, rfl, hnc, hcm, h0, hB, hp⟩ := hown
  have hlen : (xs ++ news).length = (n + m) * i.size := by rw [List.length_append, hlx, hl, Nat.add_mul]
  by_cases hroom : n + m ≤ cap
  · obtain ⟨g, off, cs, rfl, hb, hg, hfit, hcs⟩ := hp (by omega)
    clear hp
    have hmul : (n + m) * i.size ≤ cap * i.size := Nat.mul_le_mul_right _ hroom
    rw [Nat.add_mul] at hmul
    have hf := run_firstCells_some (P := P) w i.size m ad m c news hl hnews
    have hst := run_storeCells_at P g (off + n * i.size) e news 0 cs w hg (by rw [hl]; omega) h1
    simp only [Nat.add_zero] at hst
    have hrun : (Builtin.append_ #[t, t] ty #[.slice (some ⟨g, off, none⟩) n cap, .slice (some ad) m c]).run P w =
        .ok (.slice (some ⟨g, off, none⟩) (n + m) cap) (w.setRow g (cs.toList.take (off + n * i.size) ++ news ++ cs.toList.drop (off + n * i.size + news.length)).toArray) := by
      simp [Builtin.append_, run_underlying ht, sizeOf, typeInfo, hi, Builtin.lenOf, hroom, hf, Addr.add_lit, hst]
    refine ⟨_, _, hrun, ⟨hlen, _, cap, rfl, hroom, hcm, fun h => by simp at h, hB, fun _ => ⟨g, off, _, rfl, hb, setRow_heap w g cs _ e _ hg, ?_, fun j hj => ?_⟩⟩,
      ⟨rfl, rfl, rfl, by simp, fun k _ hk => setRow_other w g k _ (fun e => hk (by simp [Value.ownBlock, e]))⟩, g, rfl, .inl rfl⟩
    · simp only [List.size_toArray, List.length_append, List.length_take, List.length_drop, Array.length_toList]
      omega
    · rw [Nat.add_mul] at hj
      have hsz' := hfit
      simp only [List.getElem?_toArray, List.append_assoc]
      by_cases hjn : j < n * i.size
      · rw [List.getElem?_append_left (by simp only [List.length_take, Array.length_toList]; omega), List.getElem?_take, if_pos (by omega), List.getElem?_append_left (by omega)]
        have := hcs j hjn
        rw [← this]
        simp
      · have hT : (cs.toList.take (off + n * i.size)).length = off + n * i.size := by rw [List.length_take, Array.length_toList]; omega
        rw [List.getElem?_append_right (l₁ := cs.toList.take (off + n * i.size)) (by rw [hT]; omega), hT, List.getElem?_append_left (l₁ := news) (by omega), List.getElem?_append_right (l₁ := xs) (by omega)]
        congr 1
        omega
  · have hsmall : n + m ≤ 9223372036854775807 := by simp only [maxLen] at h63; omega
    have hge := grownCap_ge w (n + m) cap e
    have hcm' : grownCap w (n + m) cap e ≤ maxLen := grownCap_le_maxLen w (n + m) cap e h63
    have key : ∀ b : Addr, A = some b → ∃ v' w', (Builtin.append_ #[t, t] ty #[.slice A n cap, .slice (some ad) m c]).run P w = .ok v' w' ∧ w'.ownsRow w.heap.size e i.size v' (n + m) (xs ++ news) ∧ w.grownBy w' none := by
      rintro b rfl
      refine run_append_arg_grows (P := P) w t ty e i z i.size i.bytes ht hi hz rfl rfl hzs hsz b n cap xs hlx (fun j u hj => ?_) ad m c news hl hnews (by omega) h63 hbytes
      obtain ⟨g, off, cs, hA, _, hg, _, hcs⟩ := hp (by
        rcases Nat.eq_zero_or_pos cap with h | h
        · have : n = 0 := by omega
          subst this
          have hx0 : xs = [] := List.eq_nil_of_length_eq_zero (by simpa using hlx)
          subst hx0
          simp at hj
        · exact h)
      injection hA with hA
      subst hA
      have hjl : j < n * i.size := by rw [← hlx]; exact (List.getElem?_eq_some_iff.1 hj).1
      rw [Addr.add_lit, cell_of_row w g (off + j) cs e (0, 0) hg, hcs j hjl]
      exact hj
    have hpos : 0 < n + m := by omega
    have fin : ∀ v' w', w'.ownsRow w.heap.size e i.size v' (n + m) (xs ++ news) → w.grownBy w' none → Sl w' base e i.size v' (n + m) (xs ++ news) ∧ w.grownBy w' (Value.ownBlock (.slice A n cap)) ∧
        ∃ g, v'.ownBlock = some g ∧ (Value.ownBlock (.slice A n cap) = some g ∨ w.heap.size ≤ g) := by
      intro v' w' ho hgr
      clear key hp
      rcases ho.2 with ⟨_, hz0⟩ | ⟨g, cap', cur, rfl, hb, hg, hnc', hcm'', hcur, htake⟩
      · omega
      · exact ⟨⟨ho.1, _, cap', rfl, hnc', hcm'', fun h => by simp at h, fun a ha => by injection ha with ha; subst ha; exact Nat.le_trans hbase hb, fun _ => ⟨g, 0, cur, rfl, by omega, hg, by omega, fun j hj => by
          rw [← htake, List.getElem?_take, if_pos hj]
          simp⟩⟩, ⟨hgr.os, hgr.tape, hgr.output, hgr.size, fun k hk _ => hgr.block k hk (by simp)⟩, g, rfl, .inr hb⟩
    cases A with
    | some b =>
      obtain ⟨v', w', hrun, h2, h3⟩ := key b rfl
      exact ⟨v', w', hrun, (fin v' w' h2 h3).1, (fin v' w' h2 h3).2.1, (fin v' w' h2 h3).2.2⟩
    | none =>
      have hc0 := h0 rfl
      subst hc0
      obtain rfl : n = 0 := by omega
      obtain rfl : xs = [] := List.eq_nil_of_length_eq_zero (by simpa using hlx)
      obtain ⟨v', w', hrun, r1, r2, _⟩ := run_append_own (P := P) w w.heap.size t ty e i z i.size i.bytes ht hi hz rfl rfl hzs hsz (.slice none 0 0) 0 [] (World.ownsRow_nil w _ e i.size) ad m c news hl hnews h1 h63 hbytes (Nat.le_refl _)
      exact ⟨v', w', hrun, (fin v' w' r1 r2).1, (fin v' w' r1 r2).2.1, (fin v' w' r1 r2).2.2⟩

end

/-- append as a law for the walk. -/
theorem wpList_append_sl {P : Program} (w : World) {ops : Array Oper} {rest : List Oper} {o : Oper} {a : Act} {Q : Exit → Act → World → Prop} (hgd : o.guard = none) (s x : Operand) (t : TypeId)
    (ho : o.op = .call { callee := .builtin .append, args := #[s, x], argTypes := #[t, t] })
    (base : Nat) (e : TypeId) (i : TypeInfo) (z : Value) (size bytes : Nat) (ht : P.underlying t = some (.slice e)) (hi : P.info? e = some i) (hz : i.zero = some z)
    (hsize : i.size = size) (hby : i.bytes = bytes) (hzs : z.cells.size = size) (hsz : 0 < size)
    (v : Value) (n : Nat) (xs : List Value) (hs : a.eval s = v) (hown : Sl w base e size v n xs)
    (ad : Addr) (m c : Nat) (news : List Value) (hx : a.eval x = .slice (some ad) m c) (hm : 0 < m) (hl : news.length = m * size) (hnews : ∀ j u, news[j]? = some u → w.cell? (ad.add j) = some u) (h1 : ∀ u ∈ news, u.oneCell' = true)
    (h63 : n + m ≤ maxLen) (hbytes : (n + m) * bytes ≤ 140737488355328) (hbase : base ≤ w.heap.size)
    (h : ∀ v' w', Sl w' base e size v' (n + m) (xs ++ news) → w.grownBy w' v.ownBlock → (∃ g, v'.ownBlock = some g ∧ (v.ownBlock = some g ∨ w.heap.size ≤ g)) → wpList P ops Q rest (a.put o.dst v') w') : wpList P ops Q (o :: rest) a w := by
  refine wpList_plain hgd fun K hK => ?_
  obtain ⟨v', w', hrun, h2, h3, h4⟩ := run_append_sl (P := P) w base t o.type e i z size bytes ht hi hz hsize hby hzs hsz v n xs hown ad m c news hm hl hnews h1 h63 hbytes hbase
  unfold Oper.wp execOp
  simp only [ho, resolve, invoke, builtin, Sem.run_bind, Sem.run_pure, Result.andThen_ok, List.map_toArray, List.map_cons, List.map_nil, hs, hx, hrun]
  exact hK _ _ (h v' w' h2 h3 h4)

/-- The cells of a block that was just made, in later worlds. -/
theorem new_cells (w : World) (cs : Array Value) (t : TypeId) : ∀ w7, Below (w.alloc (.cells cs t)).heap.size (w.alloc (.cells cs t)) w7 → ∀ j, w7.cell? ⟨w.heap.size, j, none⟩ = cs[j]? := by
  intro w7 hb j
  rw [hb.cell (by simp)]
  exact cell_of_row _ _ _ _ _ _ (heap_alloc_new w _)

/-- 's = s[1:]', the new slice a letter. -/
theorem wpList_tail {P : Program} {w : World} {ops : Array Oper} {rest : List Oper} {o : Oper} {a : Act} {Q : Exit → Act → World → Prop} (hgd : o.guard = none) (s : Operand) (t : TypeId) (k : IntKind)
    (ho : o.op = .slice t s (some (.const (.int k 1))) none none) (base : Nat) (e : TypeId) (i : TypeInfo) (size : Nat) (ht : P.underlying t = some (.slice e)) (hi : P.info? e = some i) (hsize : i.size = size)
    (v : Value) (n : Nat) (xs : List Value) (hs : a.eval s = v) (hown : Sl w base e size v n xs) (hn : 0 < n)
    (h : ∀ A' c', Sl w base e size (.slice A' (n - 1) c') (n - 1) (xs.drop (1 * size)) → wpList P ops Q rest (a.put o.dst (.slice A' (n - 1) c')) w) : wpList P ops Q (o :: rest) a w := by
  obtain ⟨A, c, rfl, hnc, hcut⟩ := hown.cut (k := 1) hn
  refine wpList_run hgd ?_ (h _ _ hcut)
  have h1 : a.eval (.const (.int k 1)) = .int k 1 := rfl
  have hle : (1 : Int) ≤ (n : Int) := by omega
  unfold execOp
  simp [ho, hs, h1, Instr.sliceAt, Instr.slice, run_underlying ht, Instr.sliceBounds, Instr.sliceBound, asIntOf, sizeOf, typeInfo, hi, hsize, hle]

/-- min(x, c), its value given. -/
theorem wpList_min {P : Program} {ops : Array Oper} {Q : Exit → Act → World → Prop} {rest : List Oper} {o : Oper} {a : Act} {w : World} (x : Operand) (ats : Array TypeId) (c l : Int) (N : Nat)
    (hg : o.guard = none) (ho : o.op = .call { callee := .builtin .min, args := #[x, .const (.int .i64 c)], argTypes := ats }) (hx : a.eval x = .int .i64 l) (hN : (N : Int) = if c < l then c else l)
    (hk : wpList P ops Q rest (a.put o.dst (.int .i64 N)) w) : wpList P ops Q (o :: rest) a w := by
  refine wpList_run hg ?_ hk
  have hc : a.eval (.const (.int .i64 c)) = .int .i64 c := rfl
  unfold execOp
  simp only [ho, resolve, invoke, builtin, Sem.run_bind, Sem.run_pure, Result.andThen_ok, List.map_toArray, List.map_cons, List.map_nil, hx, hc, run_min_int2, ← hN]

end Go.Proofs.YtpnpjiaciolgiaaR
