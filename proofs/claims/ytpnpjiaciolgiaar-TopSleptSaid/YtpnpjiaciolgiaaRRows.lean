/-
  No cell of these rows narrows 'for every input' (looked for: loops, veiled, ifaces, maps, wideKeys, modest, calm, conditions, laid).
  DERIVED. THE GIVEN ROWS OF THIS SEAT. 2 by the template 'for every input the law returns true; each argument reads behind the call as it read before'; 0 by the template 'total and deterministic' (their statements: YtpnpjiaciolgiaaRTotals.lean).
  GIVEN WITH THE SEED: the statements are not yours to turn. If you find one false, say at which input.
  Laid BY PROGRAM, IN A SANDBOX (cutbox-rows.mjs): the forced cells as the released guide's own fill.sh prints them over the translation ff7a64f620cd752b… (all of the seat's roots in one cut). By AI agents, Wed Nov 11 2026. No macro, syntax, notation, axiom, sorry.
-/
import Derived.Test.YtpnpjiaciolgiaaRChecked
import GoSem.Claim
import GoSem.ClaimJoined
import GoSem.ClaimMapViews
import Derived.JoinedTies
import Derived.KernelRfl
namespace Go.Proofs.YtpnpjiaciolgiaaR
/- THE CELL 'sum', in the pinned program and in every row, IS THE sha256 OF THE DUMP (.gsa) THAT YtpnpjiaciolgiaaRProg.lean LOADS. Nothing in Lean hashes anything: it is a label: what it is worth is what the hold of that sum in a sandbox is worth. -/
noncomputable def Try.pinned : Pinned := { name := "ytpnpjiaciolgiaar", sum := "ff7a64f620cd752b8d44f62dffac92eea9a031110c12affe3a50619fdd072aee", checked := Try.checked }
namespace Rows
def none {H : Type} : Left H := { results := [], args := [] }

/-- 'laybytop.TopLinked': WHATEVER THE INPUT: true; the input reads as it did. -/
def topLinkedSpec : ChangeSpec := { name := "topLinked", fn := fun _ => fun
  | [d] => { results := [.lit (.bool true)], args := [d] }
  | _ => none }
def topLinkedRow : OpenClaim := { program := "ytpnpjiaciolgiaar", sum := "ff7a64f620cd752b8d44f62dffac92eea9a031110c12affe3a50619fdd072aee", func := "layby/laybytop.TopLinked", spec := "topLinked", apart := false }
def TopLinkedSaid : Prop := topLinkedRow.holds Try.pinned (OpenSpec.ofChange topLinkedSpec)

/-- ITS FALSE NEIGHBOUR: 'it returns false'. Refute it at one input. -/
def topLinkedWrong : ChangeSpec := { name := "topLinked", fn := fun _ => fun
  | [d] => { results := [.lit (.bool false)], args := [d] }
  | _ => none }
def TopLinkedWrongFalsely : Prop := topLinkedRow.holds Try.pinned (OpenSpec.ofChange topLinkedWrong)

/-- 'laybytop.TopSlept': WHATEVER THE INPUT: true; the input reads as it did. -/
def topSleptSpec : ChangeSpec := { name := "topSlept", fn := fun _ => fun
  | [d1, d2, d3] => { results := [.lit (.bool true)], args := [d1, d2, d3] }
  | _ => none }
def topSleptRow : OpenClaim := { program := "ytpnpjiaciolgiaar", sum := "ff7a64f620cd752b8d44f62dffac92eea9a031110c12affe3a50619fdd072aee", func := "layby/laybytop.TopSlept", spec := "topSlept", inPlace := ["math/bits.Add64"], unfollowed := true, recurses := true, apart := false }
def TopSleptSaid : Prop := topSleptRow.holds Try.pinned (OpenSpec.ofChange topSleptSpec)

/-- ITS FALSE NEIGHBOUR: 'it returns false'. Refute it at one input. -/
def topSleptWrong : ChangeSpec := { name := "topSlept", fn := fun _ => fun
  | [d1, d2, d3] => { results := [.lit (.bool false)], args := [d1, d2, d3] }
  | _ => none }
def TopSleptWrongFalsely : Prop := topSleptRow.holds Try.pinned (OpenSpec.ofChange topSleptWrong)

/- THE SECOND FORM. 'bulk': how many values and letters a reading holds, each counted each time it is reached (what is shared counts as often as it is met; a slice's spare places count too). A statement '..UptoSaid' is the law's where the arguments, and the package variables that the reading takes, are together of bulk at most 1048576: NARROWER than '..Said'. Prove '..Said' where nothing that the law and all that it calls make is longer than what came in: it says more and counts as full. Else prove '..UptoSaid'. A law counts once. -/
mutual
def uptoBulk {H : Type} : DataW H → Nat
  | .lit (.string bytes) => bytes.length + 1
  | .lit _ => 1
  | .nil => 1
  | .ptr d => uptoBulk d + 1
  | .slice elems spare => uptoBulkAll elems + uptoBulkAll spare + 1
  | .agg parts => uptoBulkAll parts + 1
  | .iface _ d => uptoBulk d + 1
  | .map entries => uptoBulkEntries entries + 1
  | .held _ => 1
def uptoBulkAll {H : Type} : List (DataW H) → Nat
  | [] => 0
  | d :: r => uptoBulk d + uptoBulkAll r
def uptoBulkEntries {H : Type} : List (Lit × DataW H) → Nat
  | [] => 0
  | x :: r => uptoBulkEntry x + uptoBulkEntries r
def uptoBulkEntry {H : Type} : Lit × DataW H → Nat
  | (.string bytes, d) => bytes.length + uptoBulk d + 1
  | (_, d) => uptoBulk d + 1
 end
def uptoSmall : (H : Type) → List (DataW H) → Bool := fun _ ds => decide (uptoBulkAll ds ≤ 1048576)
def OpenSpec.upto (s : _root_.Go.ChangeSpec) : _root_.Go.OpenSpec := { _root_.Go.OpenSpec.ofChange s with cond := some uptoSmall }

/-- 'laybytop.TopLinked', WHERE WHAT IT READS IS OF BULK AT MOST 1048576: true; the input reads as it did. -/
def topLinkedUptoRow : OpenClaim := { program := "ytpnpjiaciolgiaar", sum := "ff7a64f620cd752b8d44f62dffac92eea9a031110c12affe3a50619fdd072aee", func := "layby/laybytop.TopLinked", spec := "topLinked", apart := false, narrowed := true }
def TopLinkedUptoSaid : Prop := topLinkedUptoRow.holds Try.pinned (OpenSpec.upto topLinkedSpec)

/-- 'laybytop.TopSlept', WHERE WHAT IT READS IS OF BULK AT MOST 1048576: true; the input reads as it did. -/
def topSleptUptoRow : OpenClaim := { program := "ytpnpjiaciolgiaar", sum := "ff7a64f620cd752b8d44f62dffac92eea9a031110c12affe3a50619fdd072aee", func := "layby/laybytop.TopSlept", spec := "topSlept", inPlace := ["math/bits.Add64"], unfollowed := true, recurses := true, apart := false, narrowed := true }
def TopSleptUptoSaid : Prop := topSleptUptoRow.holds Try.pinned (OpenSpec.upto topSleptSpec)

end Rows
end Go.Proofs.YtpnpjiaciolgiaaR
