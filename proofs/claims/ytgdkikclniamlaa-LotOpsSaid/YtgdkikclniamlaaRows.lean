/-
  No cell of these rows narrows 'for every input' (looked for: loops, veiled, ifaces, maps, wideKeys, modest, calm, conditions, laid).
  DERIVED. THE GIVEN ROWS OF THIS SEAT. 3 by the template 'for every input the law returns true; each argument reads behind the call as it read before'; 0 by the template 'total and deterministic' (their statements: YtgdkikclniamlaaTotals.lean).
  GIVEN WITH THE SEED: the statements are not yours to turn. If you find one false, say at which input.
  Laid BY PROGRAM, IN A SANDBOX (cutbox-rows.mjs): the forced cells as the released guide's own fill.sh prints them over the translation 20da70f43bd42efd… (all of the seat's roots in one cut). By AI agents, Wed Nov 11 2026. No macro, syntax, notation, axiom, sorry.
-/
import Derived.Test.YtgdkikclniamlaaChecked
import GoSem.Claim
import GoSem.ClaimJoined
import GoSem.ClaimMapViews
import Derived.JoinedTies
import Derived.KernelRfl
namespace Go.Proofs.Ytgdkikclniamlaa
/- THE CELL 'sum', in the pinned program and in every row, IS THE sha256 OF THE DUMP (.gsa) THAT YtgdkikclniamlaaProg.lean LOADS. Nothing in Lean hashes anything: it is a label: what it is worth is what the hold of that sum in a sandbox is worth. -/
noncomputable def Try.pinned : Pinned := { name := "ytgdkikclniamlaa", sum := "20da70f43bd42efde737618196ba70b5056c88fbab90c8cf3c4880860a8eaa25", checked := Try.checked }
namespace Rows
def none {H : Type} : Left H := { results := [], args := [] }

/-- 'incunablelaw42.LotMixes': WHATEVER THE INPUT: true; the input reads as it did. -/
def lotMixesSpec : ChangeSpec := { name := "lotMixes", fn := fun _ => fun
  | [d1, d2] => { results := [.lit (.bool true)], args := [d1, d2] }
  | _ => none }
def lotMixesRow : OpenClaim := { program := "ytgdkikclniamlaa", sum := "20da70f43bd42efde737618196ba70b5056c88fbab90c8cf3c4880860a8eaa25", func := "incunable/incunablelaw42.LotMixes", spec := "lotMixes", apart := false }
def LotMixesSaid : Prop := lotMixesRow.holds Try.pinned (OpenSpec.ofChange lotMixesSpec)

/-- ITS FALSE NEIGHBOUR: 'it returns false'. Refute it at one input. -/
def lotMixesWrong : ChangeSpec := { name := "lotMixes", fn := fun _ => fun
  | [d1, d2] => { results := [.lit (.bool false)], args := [d1, d2] }
  | _ => none }
def LotMixesWrongFalsely : Prop := lotMixesRow.holds Try.pinned (OpenSpec.ofChange lotMixesWrong)

/-- 'incunablelaw42.LotParts': WHATEVER THE INPUT: true; the input reads as it did. -/
def lotPartsSpec : ChangeSpec := { name := "lotParts", fn := fun _ => fun
  | [d1, d2, d3] => { results := [.lit (.bool true)], args := [d1, d2, d3] }
  | _ => none }
def lotPartsRow : OpenClaim := { program := "ytgdkikclniamlaa", sum := "20da70f43bd42efde737618196ba70b5056c88fbab90c8cf3c4880860a8eaa25", func := "incunable/incunablelaw42.LotParts", spec := "lotParts", unfollowed := true, recurses := true, apart := false }
def LotPartsSaid : Prop := lotPartsRow.holds Try.pinned (OpenSpec.ofChange lotPartsSpec)

/-- ITS FALSE NEIGHBOUR: 'it returns false'. Refute it at one input. -/
def lotPartsWrong : ChangeSpec := { name := "lotParts", fn := fun _ => fun
  | [d1, d2, d3] => { results := [.lit (.bool false)], args := [d1, d2, d3] }
  | _ => none }
def LotPartsWrongFalsely : Prop := lotPartsRow.holds Try.pinned (OpenSpec.ofChange lotPartsWrong)

/-- 'incunablelaw42.LotOps': WHATEVER THE INPUT: true; the input reads as it did. -/
def lotOpsSpec : ChangeSpec := { name := "lotOps", fn := fun _ => fun
  | [d1, d2] => { results := [.lit (.bool true)], args := [d1, d2] }
  | _ => none }
def lotOpsRow : OpenClaim := { program := "ytgdkikclniamlaa", sum := "20da70f43bd42efde737618196ba70b5056c88fbab90c8cf3c4880860a8eaa25", func := "incunable/incunablelaw42.LotOps", spec := "lotOps", unfollowed := true, recurses := true, apart := false }
def LotOpsSaid : Prop := lotOpsRow.holds Try.pinned (OpenSpec.ofChange lotOpsSpec)

/-- ITS FALSE NEIGHBOUR: 'it returns false'. Refute it at one input. -/
def lotOpsWrong : ChangeSpec := { name := "lotOps", fn := fun _ => fun
  | [d1, d2] => { results := [.lit (.bool false)], args := [d1, d2] }
  | _ => none }
def LotOpsWrongFalsely : Prop := lotOpsRow.holds Try.pinned (OpenSpec.ofChange lotOpsWrong)

/- THE SECOND FORM. 'bulk': how many values and letters a reading holds, each counted each time it is reached (what is shared counts as often as it is met; a slice's spare places count too). A statement '..UptoSaid' is the law's where the arguments, and the package variables that the reading takes, are together of bulk at most 1048576: NARROWER than '..Said'. Prove '..Said' where nothing that the law and all that it calls make is longer than what came in: it says more and counts as full. Else prove '..UptoSaid'. A law counts once. -/
mutual
def uptoBulk {H : Type} : DataW H → Nat
  | .lit (.string bytes) => bytes.length + 1
  | .lit _ => 1
  | .nil => 1
  | .ptr d => uptoBulk d + 1
  | .slice elems spare => uptoBulkAll elems + uptoBulkAll spare + 1
  | .agg parts => uptoBulkAll parts + 1
  | .iface _ d => uptoBulk d + 1
  | .map entries => uptoBulkEntries entries + 1
  | .held _ => 1
def uptoBulkAll {H : Type} : List (DataW H) → Nat
  | [] => 0
  | d :: r => uptoBulk d + uptoBulkAll r
def uptoBulkEntries {H : Type} : List (Lit × DataW H) → Nat
  | [] => 0
  | x :: r => uptoBulkEntry x + uptoBulkEntries r
def uptoBulkEntry {H : Type} : Lit × DataW H → Nat
  | (.string bytes, d) => bytes.length + uptoBulk d + 1
  | (_, d) => uptoBulk d + 1
 end
def uptoSmall : (H : Type) → List (DataW H) → Bool := fun _ ds => decide (uptoBulkAll ds ≤ 1048576)
def OpenSpec.upto (s : _root_.Go.ChangeSpec) : _root_.Go.OpenSpec := { _root_.Go.OpenSpec.ofChange s with cond := some uptoSmall }

/-- 'incunablelaw42.LotMixes', WHERE WHAT IT READS IS OF BULK AT MOST 1048576: true; the input reads as it did. -/
def lotMixesUptoRow : OpenClaim := { program := "ytgdkikclniamlaa", sum := "20da70f43bd42efde737618196ba70b5056c88fbab90c8cf3c4880860a8eaa25", func := "incunable/incunablelaw42.LotMixes", spec := "lotMixes", apart := false, narrowed := true }
def LotMixesUptoSaid : Prop := lotMixesUptoRow.holds Try.pinned (OpenSpec.upto lotMixesSpec)

/-- 'incunablelaw42.LotParts', WHERE WHAT IT READS IS OF BULK AT MOST 1048576: true; the input reads as it did. -/
def lotPartsUptoRow : OpenClaim := { program := "ytgdkikclniamlaa", sum := "20da70f43bd42efde737618196ba70b5056c88fbab90c8cf3c4880860a8eaa25", func := "incunable/incunablelaw42.LotParts", spec := "lotParts", unfollowed := true, recurses := true, apart := false, narrowed := true }
def LotPartsUptoSaid : Prop := lotPartsUptoRow.holds Try.pinned (OpenSpec.upto lotPartsSpec)

/-- 'incunablelaw42.LotOps', WHERE WHAT IT READS IS OF BULK AT MOST 1048576: true; the input reads as it did. -/
def lotOpsUptoRow : OpenClaim := { program := "ytgdkikclniamlaa", sum := "20da70f43bd42efde737618196ba70b5056c88fbab90c8cf3c4880860a8eaa25", func := "incunable/incunablelaw42.LotOps", spec := "lotOps", unfollowed := true, recurses := true, apart := false, narrowed := true }
def LotOpsUptoSaid : Prop := lotOpsUptoRow.holds Try.pinned (OpenSpec.upto lotOpsSpec)

end Rows
end Go.Proofs.Ytgdkikclniamlaa
