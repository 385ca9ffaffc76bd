/- TopSlept's last argument, opened: three cells an element. -/
import Derived.Test.YtpnpjiaciolgiaaRSlept
import Derived.Deep.Slices
import Derived.Deep.Fields
import Derived.ChangeSame
import Derived.OpenShut
namespace Go.Proofs.YtpnpjiaciolgiaaR
open Go.ChangeShapes Go.WideShapes Go.Deep

theorem open_things {H : Type} {enc : TypeId × Value → H} {w : World} {base : Nat} {spare : Nat → Bool} {held : Bool} {fuel : Nat} {cs : List Value} {x : DataW H × List MemPlace} (h : DataW.trod enc Try.prog w base spare held fuel 36 cs = some x) :
    cs = [.slice none 0 0] ∨ ∃ (a : Addr) (len cap : Nat), cs = [.slice (some a) len cap] ∧ len ≤ cap ∧ cap ≤ maxLen ∧
      ∀ i, i < len → ∃ d p n : Int, w.cell? (a.add (i * 3)) = some (.int .u8 d) ∧ w.cell? (a.add (i * 3 + 1)) = some (.int .u8 p) ∧ w.cell? (a.add (i * 3 + 2)) = some (.int .u64 n) ∧
        (Lit.int .u8 d).wf = true ∧ (Lit.int .u8 p).wf = true ∧ (Lit.int .u64 n).wf = true := by
  rcases open_slice Try.underlying36 h with h0 | ⟨a, len, cap, m, n, D, Pl, hcs, hb, hl, hm, hmm, hx, hi⟩
  · exact .inl h0.1
  · refine .inr ⟨a, len, cap, hcs, hl, hm, fun i him => ?_⟩
    have him' : i < m := by rw [hmm]; split <;> omega
    obtain ⟨cs', hc, ht'⟩ := hi i him'
    rw [show Try.prog.cellsOf 49 = 3 from by kernel_rfl] at hc
    obtain ⟨ys, n', _, _, hlen, _, hf⟩ := DataW.trod_struct Try.underlying49 ht'
    obtain ⟨_, hcl, hat⟩ := World.cells?_some hc
    have k5 : Try.prog.cellsOf 5 = 1 := by kernel_rfl
    have k35 : Try.prog.cellsOf 35 = 1 := by kernel_rfl
    match cs', hcl, ys, hlen with
    | [u0, u1, u2], _, [y0, y1, y2], _ =>
      have g0 := hf 0 _ rfl
      have g1 := hf 1 _ rfl
      have g2 := hf 2 _ rfl
      have e0 := hat 0 (by decide)
      have e1 := hat 1 (by decide)
      have e2 := hat 2 (by decide)
      simp only [k5, k35, List.drop_zero, List.drop_succ_cons, List.take_succ_cons, List.take_zero, List.getElem?_cons_zero, List.getElem?_cons_succ] at g0 g1 g2 e0 e1 e2
      obtain ⟨d, h0, _, w0⟩ := DataW.trod_int Try.underlying5 g0
      obtain ⟨p, h1, _, w1⟩ := DataW.trod_int Try.underlying5 g1
      obtain ⟨n, h2, _, w2⟩ := DataW.trod_int Try.underlying35 g2
      injection h0 with h0 _
      injection h1 with h1 _
      injection h2 with h2 _
      subst h0 h1 h2
      rw [Go.Deep.add_add] at e0 e1 e2
      exact ⟨d, p, n, e0, e1, e2, w0, w1, w2⟩

/-- The same as the walk wants it. -/
theorem things_of {a : Addr} {len : Nat} {w : World} (h : ∀ i, i < len → ∃ d p n : Int, w.cell? (a.add (i * 3)) = some (.int .u8 d) ∧ w.cell? (a.add (i * 3 + 1)) = some (.int .u8 p) ∧ w.cell? (a.add (i * 3 + 2)) = some (.int .u64 n) ∧
    (Lit.int .u8 d).wf = true ∧ (Lit.int .u8 p).wf = true ∧ (Lit.int .u64 n).wf = true) : ∃ D Pr Nn, Things (some a) len D Pr Nn w := by
  have h' : ∀ i, ∃ t : Int × Int × Nat, i < len → (w.cell? (a.add (i * 3)) = some (.int .u8 t.1) ∧ w.cell? (a.add (i * 3 + 1)) = some (.int .u8 t.2.1) ∧ w.cell? (a.add (i * 3 + 2)) = some (.int .u64 (t.2.2 : Int))) ∧
      (0 ≤ t.1 ∧ t.1 < 256) ∧ (0 ≤ t.2.1 ∧ t.2.1 < 256) ∧ t.2.2 < 18446744073709551616 := by
    intro i
    by_cases hi : i < len
    · obtain ⟨d, p, n, h0, h1, h2, w0, w1, w2⟩ := h i hi
      simp [Lit.wf, IntKind.min, IntKind.max, IntKind.signed, IntKind.bits] at w0 w1 w2
      refine ⟨(d, p, n.toNat), fun _ => ⟨⟨h0, h1, ?_⟩, ?_, ?_, ?_⟩⟩
      · rw [h2]
        show _ = some (Value.int .u64 ((n.toNat : Nat) : Int))
        rw [Int.toNat_of_nonneg w2.1]
      · show 0 ≤ d ∧ d < 256
        omega
      · show 0 ≤ p ∧ p < 256
        omega
      · show n.toNat < _
        omega
    · exact ⟨(0, 0, 0), fun h => absurd h hi⟩
  obtain ⟨T, hT⟩ := Classical.axiomOfChoice h'
  refine ⟨fun i => (T i).1, fun i => (T i).2.1, fun i => (T i).2.2, fun hp => ?_, fun i hi => (hT i hi).2.1, fun i hi => (hT i hi).2.2.1, fun i hi => (hT i hi).2.2.2⟩
  have hd := (hT 0 hp).1.1
  obtain ⟨g, off, spot⟩ := a
  rw [Nat.zero_mul] at hd
  have hspot : spot = none := by simpa [Addr.add] using World.cell?_spot hd
  subst hspot
  refine ⟨g, off, rfl, World.block_lt_of_cell? w _ hd, fun i hi => ?_⟩
  have hs := (hT i hi).1
  simp only [Addr.add_lit] at hs
  exact ⟨hs.1, hs.2.1, hs.2.2⟩

end Go.Proofs.YtpnpjiaciolgiaaR
