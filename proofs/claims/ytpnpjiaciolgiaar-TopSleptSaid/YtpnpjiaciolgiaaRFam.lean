/- A region that draws its order, whose callees may make memory: one walk, in every world of a family. -/
import Derived.Test.YtpnpjiaciolgiaaRFrame
import Derived.BigQuiet
import Derived.Deep.QuietTactic
import Derived.Deep.Quiet
namespace Go.Proofs.YtpnpjiaciolgiaaR
open Go.RowKit

theorem wp_region_fam {P : Program} {id : Nat} {Q : Exit → Act → World → Prop} {a : Act} {w : World} {l : List Oper} {ι : Type} (wf : ι → World) (n0 : ι) (h0 : wf n0 = w.drew) (hm : P.follows .mixedOrders = true) (hB : Region.lexB .any l.toArray = true)
    (h : wpQuiet P l.toArray (fun w' => ∃ n, w' = wf n) (fun a' => ∀ n, Q .normal a' (wf n)) l a) : (Code.region id l.toArray true).wp P Q a w := by
  refine wp_region_quiet (C := fun w' => ∃ n, w' = wf n) hm hB ⟨n0, h0.symm⟩ ?_
  have e : (fun a' => ∀ w', (∃ n, w' = wf n) → Q .normal a' w') = (fun a' => ∀ n, Q .normal a' (wf n)) := by
    funext a'
    simp
  rw [e]
  simpa using h

/-- The worlds behind W: what was there is as it was. -/
theorem family (W : World) : ∃ (ι : Type) (_ : Nonempty ι) (wf : ι → World) (n0 : ι), wf n0 = W.drew ∧ (∀ n, Below W.heap.size W (wf n)) ∧ ∀ n w', Below (wf n).heap.size (wf n) w' → ∃ m, w' = wf m :=
  ⟨{ w' : World // Below W.heap.size W w' }, ⟨⟨W, Below.refl _ _⟩⟩, fun n => n.1, ⟨W.drew, (Below.refl _ _).drew⟩, rfl, fun n => n.2, fun n w' hb => ⟨⟨w', n.2.trans (hb.mono n.2.size)⟩, rfl⟩⟩

theorem fam_call {P : Program} {f : FuncId} {args : Array Value} {ι : Type} {wf : ι → World} {v : Value} {n : ι} (hcl : ∀ n w', Below (wf n).heap.size (wf n) w' → ∃ m, w' = wf m)
    (h : Calls P f args (wf n) fun e w' => e = .returned v ∧ Below (wf n).heap.size (wf n) w') : Calls P f args (wf n) fun e w'' => e = .returned v ∧ ∃ m, w'' = wf m :=
  h.mono fun _ _ ⟨he, hb⟩ => ⟨he, hcl n _ hb⟩
theorem fam_same {P : Program} {f : FuncId} {args : Array Value} {ι : Type} {wf : ι → World} {v : Value} {n : ι}
    (h : Calls P f args (wf n) fun e w' => e = .returned v ∧ wf n = w') : Calls P f args (wf n) fun e w'' => e = .returned v ∧ ∃ m, w'' = wf m :=
  h.mono fun _ _ ⟨he, hw⟩ => ⟨he, n, hw.symm⟩

/-- Nothing is appended. -/
theorem wpList_append_zero {P : Program} {w : World} {ops : Array Oper} {rest : List Oper} {o : Oper} {a : Act} {Q : Exit → Act → World → Prop} (hgd : o.guard = none) (s x : Operand) (t : TypeId)
    (ho : o.op = .call { callee := .builtin .append, args := #[s, x], argTypes := #[t, t] }) (e : TypeId) (i : TypeInfo) (ht : P.underlying t = some (.slice e)) (hi : P.info? e = some i)
    (A : Option Addr) (n c : Nat) (hs : a.eval s = .slice A n c) (hle : n ≤ c) (ad : Addr) (c2 : Nat) (hx : a.eval x = .slice (some ad) 0 c2)
    (h : wpList P ops Q rest (a.put o.dst (.slice A n c)) w) : wpList P ops Q (o :: rest) a w := by
  refine wpList_run hgd ?_ h
  have hrun := run_append_nothing (P := P) w t t o.type e i ht hi A n c hle (.slice (some ad) 0 c2) (Src.ofSlice w ht ad 0 c2 [] (by simp) (fun j u hj => by simp at hj) (fun u hu => by simp at hu))
  unfold execOp
  simp only [ho, resolve, invoke, builtin, Sem.run_bind, Sem.run_pure, Result.andThen_ok, List.map_toArray, List.map_cons, List.map_nil, hs, hx, hrun]

end Go.Proofs.YtpnpjiaciolgiaaR
