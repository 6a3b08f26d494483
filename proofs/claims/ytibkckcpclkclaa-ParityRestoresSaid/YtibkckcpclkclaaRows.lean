/-
  No cell of these rows narrows 'for every input' (looked for: loops, veiled, ifaces, maps, wideKeys, modest, calm, conditions, laid).
  DERIVED. THE GIVEN ROWS OF THIS SEAT. 4 by the template 'for every input the law returns true; each argument reads behind the call as it read before'; 0 by the template 'total and deterministic' (their statements: YtibkckcpclkclaaTotals.lean).
  GIVEN WITH THE SEED: the statements are not yours to turn. If you find one false, say at which input.
  Laid BY PROGRAM, IN A SANDBOX (cutbox-rows.mjs): the forced cells as the released guide's own fill.sh prints them over the translation bef3806bba87eb31… (all of the seat's roots in one cut). By AI agents, Wed Nov 11 2026. No macro, syntax, notation, axiom, sorry.
-/
import Derived.Test.YtibkckcpclkclaaChecked
import GoSem.Claim
import GoSem.ClaimJoined
import GoSem.ClaimMapViews
import Derived.JoinedTies
import Derived.KernelRfl
namespace Go.Proofs.Ytibkckcpclkclaa
/- THE CELL 'sum', in the pinned program and in every row, IS THE sha256 OF THE DUMP (.gsa) THAT YtibkckcpclkclaaProg.lean LOADS. Nothing in Lean hashes anything: it is a label: what it is worth is what the hold of that sum in a sandbox is worth. -/
noncomputable def Try.pinned : Pinned := { name := "ytibkckcpclkclaa", sum := "bef3806bba87eb31b1c10b540c3d75705d8031a30ad27140cd21c7156b5b03b7", checked := Try.checked }
namespace Rows
def none {H : Type} : Left H := { results := [], args := [] }

/-- 'incunablelaw45.ParityField': WHATEVER THE INPUT: true; the input reads as it did. -/
def parityFieldSpec : ChangeSpec := { name := "parityField", fn := fun _ => fun
  | [d1, d2, d3] => { results := [.lit (.bool true)], args := [d1, d2, d3] }
  | _ => none }
def parityFieldRow : OpenClaim := { program := "ytibkckcpclkclaa", sum := "bef3806bba87eb31b1c10b540c3d75705d8031a30ad27140cd21c7156b5b03b7", func := "incunable/incunablelaw45.ParityField", spec := "parityField", unfollowed := true, recurses := true, apart := false }
def ParityFieldSaid : Prop := parityFieldRow.holds Try.pinned (OpenSpec.ofChange parityFieldSpec)

/-- ITS FALSE NEIGHBOUR: 'it returns false'. Refute it at one input. -/
def parityFieldWrong : ChangeSpec := { name := "parityField", fn := fun _ => fun
  | [d1, d2, d3] => { results := [.lit (.bool false)], args := [d1, d2, d3] }
  | _ => none }
def ParityFieldWrongFalsely : Prop := parityFieldRow.holds Try.pinned (OpenSpec.ofChange parityFieldWrong)

/-- 'incunablelaw45.ParityMakes': WHATEVER THE INPUT: true; the input reads as it did. -/
def parityMakesSpec : ChangeSpec := { name := "parityMakes", fn := fun _ => fun
  | [d] => { results := [.lit (.bool true)], args := [d] }
  | _ => none }
def parityMakesRow : OpenClaim := { program := "ytibkckcpclkclaa", sum := "bef3806bba87eb31b1c10b540c3d75705d8031a30ad27140cd21c7156b5b03b7", func := "incunable/incunablelaw45.ParityMakes", spec := "parityMakes", apart := false }
def ParityMakesSaid : Prop := parityMakesRow.holds Try.pinned (OpenSpec.ofChange parityMakesSpec)

/-- ITS FALSE NEIGHBOUR: 'it returns false'. Refute it at one input. -/
def parityMakesWrong : ChangeSpec := { name := "parityMakes", fn := fun _ => fun
  | [d] => { results := [.lit (.bool false)], args := [d] }
  | _ => none }
def ParityMakesWrongFalsely : Prop := parityMakesRow.holds Try.pinned (OpenSpec.ofChange parityMakesWrong)

/-- 'incunablelaw45.ParityRestores': WHATEVER THE INPUT: true; the input reads as it did. -/
def parityRestoresSpec : ChangeSpec := { name := "parityRestores", fn := fun _ => fun
  | [d1, d2, d3] => { results := [.lit (.bool true)], args := [d1, d2, d3] }
  | _ => none }
def parityRestoresRow : OpenClaim := { program := "ytibkckcpclkclaa", sum := "bef3806bba87eb31b1c10b540c3d75705d8031a30ad27140cd21c7156b5b03b7", func := "incunable/incunablelaw45.ParityRestores", spec := "parityRestores", unfollowed := true, recurses := true, apart := false }
def ParityRestoresSaid : Prop := parityRestoresRow.holds Try.pinned (OpenSpec.ofChange parityRestoresSpec)

/-- ITS FALSE NEIGHBOUR: 'it returns false'. Refute it at one input. -/
def parityRestoresWrong : ChangeSpec := { name := "parityRestores", fn := fun _ => fun
  | [d1, d2, d3] => { results := [.lit (.bool false)], args := [d1, d2, d3] }
  | _ => none }
def ParityRestoresWrongFalsely : Prop := parityRestoresRow.holds Try.pinned (OpenSpec.ofChange parityRestoresWrong)

/-- 'incunablelaw45.ParityRefuses': WHATEVER THE INPUT: true; the input reads as it did. -/
def parityRefusesSpec : ChangeSpec := { name := "parityRefuses", fn := fun _ => fun
  | [d1, d2, d3] => { results := [.lit (.bool true)], args := [d1, d2, d3] }
  | _ => none }
def parityRefusesRow : OpenClaim := { program := "ytibkckcpclkclaa", sum := "bef3806bba87eb31b1c10b540c3d75705d8031a30ad27140cd21c7156b5b03b7", func := "incunable/incunablelaw45.ParityRefuses", spec := "parityRefuses", apart := false }
def ParityRefusesSaid : Prop := parityRefusesRow.holds Try.pinned (OpenSpec.ofChange parityRefusesSpec)

/-- ITS FALSE NEIGHBOUR: 'it returns false'. Refute it at one input. -/
def parityRefusesWrong : ChangeSpec := { name := "parityRefuses", fn := fun _ => fun
  | [d1, d2, d3] => { results := [.lit (.bool false)], args := [d1, d2, d3] }
  | _ => none }
def ParityRefusesWrongFalsely : Prop := parityRefusesRow.holds Try.pinned (OpenSpec.ofChange parityRefusesWrong)

/- THE SECOND FORM. 'bulk': how many values and letters a reading holds, each counted each time it is reached (what is shared counts as often as it is met; a slice's spare places count too). A statement '..UptoSaid' is the law's where the arguments, and the package variables that the reading takes, are together of bulk at most 1048576: NARROWER than '..Said'. Prove '..Said' where nothing that the law and all that it calls make is longer than what came in: it says more and counts as full. Else prove '..UptoSaid'. A law counts once. -/
mutual
def uptoBulk {H : Type} : DataW H → Nat
  | .lit (.string bytes) => bytes.length + 1
  | .lit _ => 1
  | .nil => 1
  | .ptr d => uptoBulk d + 1
  | .slice elems spare => uptoBulkAll elems + uptoBulkAll spare + 1
  | .agg parts => uptoBulkAll parts + 1
  | .iface _ d => uptoBulk d + 1
  | .map entries => uptoBulkEntries entries + 1
  | .held _ => 1
def uptoBulkAll {H : Type} : List (DataW H) → Nat
  | [] => 0
  | d :: r => uptoBulk d + uptoBulkAll r
def uptoBulkEntries {H : Type} : List (Lit × DataW H) → Nat
  | [] => 0
  | x :: r => uptoBulkEntry x + uptoBulkEntries r
def uptoBulkEntry {H : Type} : Lit × DataW H → Nat
  | (.string bytes, d) => bytes.length + uptoBulk d + 1
  | (_, d) => uptoBulk d + 1
 end
def uptoSmall : (H : Type) → List (DataW H) → Bool := fun _ ds => decide (uptoBulkAll ds ≤ 1048576)
def OpenSpec.upto (s : _root_.Go.ChangeSpec) : _root_.Go.OpenSpec := { _root_.Go.OpenSpec.ofChange s with cond := some uptoSmall }

/-- 'incunablelaw45.ParityField', WHERE WHAT IT READS IS OF BULK AT MOST 1048576: true; the input reads as it did. -/
def parityFieldUptoRow : OpenClaim := { program := "ytibkckcpclkclaa", sum := "bef3806bba87eb31b1c10b540c3d75705d8031a30ad27140cd21c7156b5b03b7", func := "incunable/incunablelaw45.ParityField", spec := "parityField", unfollowed := true, recurses := true, apart := false, narrowed := true }
def ParityFieldUptoSaid : Prop := parityFieldUptoRow.holds Try.pinned (OpenSpec.upto parityFieldSpec)

/-- 'incunablelaw45.ParityMakes', WHERE WHAT IT READS IS OF BULK AT MOST 1048576: true; the input reads as it did. -/
def parityMakesUptoRow : OpenClaim := { program := "ytibkckcpclkclaa", sum := "bef3806bba87eb31b1c10b540c3d75705d8031a30ad27140cd21c7156b5b03b7", func := "incunable/incunablelaw45.ParityMakes", spec := "parityMakes", apart := false, narrowed := true }
def ParityMakesUptoSaid : Prop := parityMakesUptoRow.holds Try.pinned (OpenSpec.upto parityMakesSpec)

/-- 'incunablelaw45.ParityRestores', WHERE WHAT IT READS IS OF BULK AT MOST 1048576: true; the input reads as it did. -/
def parityRestoresUptoRow : OpenClaim := { program := "ytibkckcpclkclaa", sum := "bef3806bba87eb31b1c10b540c3d75705d8031a30ad27140cd21c7156b5b03b7", func := "incunable/incunablelaw45.ParityRestores", spec := "parityRestores", unfollowed := true, recurses := true, apart := false, narrowed := true }
def ParityRestoresUptoSaid : Prop := parityRestoresUptoRow.holds Try.pinned (OpenSpec.upto parityRestoresSpec)

/-- 'incunablelaw45.ParityRefuses', WHERE WHAT IT READS IS OF BULK AT MOST 1048576: true; the input reads as it did. -/
def parityRefusesUptoRow : OpenClaim := { program := "ytibkckcpclkclaa", sum := "bef3806bba87eb31b1c10b540c3d75705d8031a30ad27140cd21c7156b5b03b7", func := "incunable/incunablelaw45.ParityRefuses", spec := "parityRefuses", apart := false, narrowed := true }
def ParityRefusesUptoSaid : Prop := parityRefusesUptoRow.holds Try.pinned (OpenSpec.upto parityRefusesSpec)

end Rows
end Go.Proofs.Ytibkckcpclkclaa
