/-
  PROVED HERE: 'Rows.TopSleptSaid': TopSlept returns true for all draws, every bound and every list of things, and leaves them as they were. No condition.
  The frame round the walk was written by the guide's proof-skeleton.mjs for this function.
-/
import Derived.Test.YtpnpjiaciolgiaaRThings
import Derived.WalkKit
import Derived.ProofKit
import Derived.OpenShut
import Derived.ShutString
import Derived.ChangeOld
import Derived.Below
namespace Go.Proofs.YtpnpjiaciolgiaaR.topSlept
open Go.ChangeShapes Go.WideShapes Go.ChangeAt Go.RowKit Go.Proofs.YtpnpjiaciolgiaaR
open Go.ChangeMaps (open_string shut_string)
set_option linter.unusedVariables false

theorem own : ownKnob Try.prog.godebug = none := by kernel_rfl
theorem laidOut : laidOutB Try.prog = true := by kernel_rfl

/-- WHAT THE WALK IS TOLD OF A SLICE OF INTEGERS THAT CAME IN: it is nil; or it leads to a row of 'cap' cells, the numbers 'zs' (the first 'len' are its elements, the rest its spare room), each fitting its kind. -/
def IsRow (k : IntKind) (w : World) (a : Option Addr) (len cap : Nat) (zs : List Int) : Prop :=
  (a = none ∧ len = 0 ∧ cap = 0 ∧ zs = []) ∨
  ∃ x, a = some x ∧ len ≤ cap ∧ cap ≤ maxLen ∧ zs.length = cap ∧ (∀ i, i < zs.length → w.cell? (x.add i) = some (.int k (zs.getD i 0))) ∧ ∀ n ∈ zs, (Lit.int k n).wf = true

/-- A row of numbers may be read. -/
theorem rd_of {w : World} {a : Option Addr} {len cap : Nat} {zs : List Int} (h : IsRow .u64 w a len cap zs) : ∃ ds : List Nat, Rd w (.slice a len cap) ds ∧ ds.length = len ∧ len ≤ cap ∧ cap ≤ maxLen ∧ ∀ x, x ∈ ds → x < 18446744073709551616 := by
  rcases h with ⟨rfl, rfl, rfl, _⟩ | ⟨x, rfl, hl, hm, hz, hc, hwf⟩
  · exact ⟨[], Rd.nil w, rfl, Nat.le_refl _, Nat.zero_le _, fun x hx => by cases hx⟩
  · have hlen : ((zs.take len).map Int.toNat).length = len := by simp; omega
    have hb : ∀ z, z ∈ zs → 0 ≤ z ∧ z < 18446744073709551616 := fun z hz' => by
      have := hwf z hz'
      simp [Lit.wf, IntKind.min, IntKind.max, IntKind.signed, IntKind.bits] at this
      omega
    refine ⟨(zs.take len).map Int.toNat, ⟨some x, cap, by rw [hlen], by omega, hm, fun hp => ?_⟩, hlen, hl, hm, fun y hy => ?_⟩
    · have h00 := hc 0 (by omega)
      obtain ⟨g, off, spot⟩ := x
      have hspot : spot = none := by simpa [Addr.add] using World.cell?_spot h00
      subst hspot
      refine ⟨g, off, rfl, World.block_lt_of_cell? w _ h00, fun j hj => ?_⟩
      have hj' : j < zs.length := by omega
      have h1 := hc j hj'
      rw [Addr.add_lit] at h1
      rw [h1]
      have h2 := hb zs[j] (List.getElem_mem hj')
      have hjl : j < len := by omega
      simp [nums, List.getElem?_take, hjl, List.getElem?_eq_getElem hj', List.getD_eq_getElem?_getD, Int.toNat_of_nonneg h2.1]
    · obtain ⟨z, hz', rfl⟩ := List.mem_map.1 hy
      have := hb z (List.mem_of_mem_take hz')
      omega

set_option maxRecDepth 100000 in
theorem lifted (os : Os) (started : os.Started) (H : Type) (enc : TypeId × Value → H) :
    ReturnsInHanded {} Try.checked os 4 .any (Rows.topSleptSpec.pre6 enc Try.prog Try.f4 Rows.topSleptRow.domain false) (Rows.topSleptSpec.post enc Try.prog Try.f4 false true false false) := by
  refine returnsInHanded_of_change (C := Try.checked) own started (by kernel_rfl) Try.func4
    (ChangeSpec.witness6 (enc := enc) (C := Try.checked) false ⟨#[], #[.slice none 0 0, .int .u64 0, .slice none 0 0], []⟩ 8 (by kernel_rfl) (by kernel_rfl) (by kernel_rfl) (by kernel_rfl)) ?_
  intro W base args ds gs before hval0 hW hcnd _
  have hval : ∀ (j : Nat) t v, Try.f4.params[j]? = some t → args[j]? = some v → Value.okWide Try.prog W .any base t v := hval0
  have hW' := hW
  obtain ⟨p, q, hA0, hV, rfl, hfz, hnd⟩ := hW
  have hA : DataW.TrodAll enc Try.prog W 0 (fun _ => true) true Try.f4.params.toList args.toList ds p := hA0
  rw [Try.params4] at hA hval
  obtain ⟨v0, vs0, d0, ds0, p0, q0, hargs, rfl, rfl, h0, r0⟩ := trodAll_cons hA
  obtain ⟨v1, vs1, d1, ds1, p1, q1, rfl, rfl, rfl, h1, r1⟩ := trodAll_cons r0
  obtain ⟨v2, vs2, d2, ds2, p2, q2, rfl, rfl, rfl, h2, r2⟩ := trodAll_cons r1
  obtain ⟨rfl, rfl, rfl⟩ := trodAll_nil r2
  obtain rfl : args = #[v0, v1, v2] := by cases args; simp_all
  obtain ⟨rfl, rfl⟩ := trodVars_none hV
  obtain ⟨a0, len0, cap0, rfl⟩ := okWide_slice Try.underlying34 (hval 0 34 v0 rfl rfl)
  obtain ⟨n1, rfl⟩ := okWide_int Try.underlying35 (hval 1 35 v1 rfl rfl)
  obtain ⟨a2, len2, cap2, rfl⟩ := okWide_slice Try.underlying36 (hval 2 36 v2 rfl rfl)
  have k0 := h0
  have k1 := h1
  have k2 := h2
  have lt0 : ∀ x ∈ p0, x.block < W.heap.size := by obtain ⟨m, hm⟩ := k0; exact DataW.trod_lt m _ _ _ hm
  have lt1 : ∀ x ∈ p1, x.block < W.heap.size := by obtain ⟨m, hm⟩ := k1; exact DataW.trod_lt m _ _ _ hm
  have lt2 : ∀ x ∈ p2, x.block < W.heap.size := by obtain ⟨m, hm⟩ := k2; exact DataW.trod_lt m _ _ _ hm
  obtain ⟨z0, w0⟩ : ∃ zs, IsRow .u64 W a0 len0 cap0 zs := by
    obtain ⟨fuel, hf⟩ := h0
    rcases open_ints Try.underlying34 Try.underlying35 (by kernel_rfl) hf with ⟨hcs, _⟩ | ⟨x, l, c, zs, hcs, _, hl, hm, hz, _, hcell, hwz⟩
    · simp [Value.cells] at hcs
      obtain ⟨rfl, rfl, rfl⟩ := hcs
      exact ⟨[], .inl ⟨rfl, rfl, rfl, rfl⟩⟩
    · simp [Value.cells] at hcs
      obtain ⟨rfl, rfl, rfl⟩ := hcs
      exact ⟨zs, .inr ⟨_, rfl, hl, hm, by simpa using hz, hcell, hwz⟩⟩
  obtain ⟨m1, rfl, hm1⟩ : ∃ m : Nat, n1 = m ∧ m < 18446744073709551616 := by
    obtain ⟨fuel, hf⟩ := h1
    obtain ⟨n, hn, _, hw⟩ := DataW.trod_int Try.underlying35 hf
    simp [Value.cells] at hn
    subst hn
    simp [Lit.wf, IntKind.min, IntKind.max, IntKind.signed, IntKind.bits] at hw
    exact ⟨n1.toNat, by omega, by omega⟩
  obtain ⟨D, Pr, Nn, hT, hl2, hm2⟩ : ∃ D Pr Nn, Things a2 len2 D Pr Nn W ∧ len2 ≤ cap2 ∧ cap2 ≤ maxLen := by
    obtain ⟨fuel, hf⟩ := h2
    rcases open_things hf with hcs | ⟨x, l, c, hcs, hl, hm, hc⟩
    · simp [Value.cells] at hcs
      obtain ⟨rfl, rfl, rfl⟩ := hcs
      exact ⟨fun _ => 0, fun _ => 0, fun _ => 0, ⟨fun h => absurd h (Nat.lt_irrefl _), fun i h => absurd h (Nat.not_lt_zero _), fun i h => absurd h (Nat.not_lt_zero _), fun i h => absurd h (Nat.not_lt_zero _)⟩, Nat.le_refl _, Nat.zero_le _⟩
    · simp [Value.cells] at hcs
      obtain ⟨rfl, rfl, rfl⟩ := hcs
      obtain ⟨D, Pr, Nn, hT⟩ := things_of hc
      exact ⟨D, Pr, Nn, hT, hl, hm⟩
  obtain ⟨ds', hrd, hdl, hc0, hc0', h64⟩ := rd_of w0
  clear hA0 hval0
  refine (slept_walk a0 a2 len0 cap0 len2 cap2 ds' m1 D Pr Nn W hrd hdl hc0 hc0' h64 hm1 hT hl2 hm2).mono fun e W' ⟨he, bel⟩ => ?_
  subst he
  have sh0 := Below.trod laidOut (by kernel_rfl) (of_decide_eq_true (by kernel_rfl)) k0 bel lt0
  have sh1 := Below.trod laidOut (by kernel_rfl) (of_decide_eq_true (by kernel_rfl)) k1 bel lt1
  have sh2 := Below.trod laidOut (by kernel_rfl) (of_decide_eq_true (by kernel_rfl)) k2 bel lt2
  exact ⟨_, rfl, _, _, _, [], _, [], hW', trodAll_mk1 (shut_bool Try.underlying4 _), (trodAll_cons_mk sh0 (trodAll_cons_mk sh1 (trodAll_cons_mk sh2 trodAll_mk0))), rfl, bel.frame _, fun h => by cases h⟩

theorem over : Rows.topSleptRow.holds Try.pinned (OpenSpec.ofChange Rows.topSleptSpec) :=
  OpenClaim.holds_of_wide 4 Try.f4 rfl rfl rfl rfl rfl rfl rfl ⟨rfl, rfl, rfl, rfl, rfl⟩ rfl rfl rfl rfl rfl (by kernel_rfl) Try.func4 (by kernel_rfl)
    (of_decide_eq_true (by kernel_rfl)) (by unfold Func.isWrapper; first | (rw [if_pos (by decide +kernel)]; kernel_rfl) | (rw [if_neg (by decide +kernel)]; exact ⟨rfl, rfl⟩))
    (fun os started H enc _ => lifted os started H enc)

/-- The statement. -/
theorem proved : Rows.TopSleptSaid := over
#print axioms proved
end Go.Proofs.YtpnpjiaciolgiaaR.topSlept
