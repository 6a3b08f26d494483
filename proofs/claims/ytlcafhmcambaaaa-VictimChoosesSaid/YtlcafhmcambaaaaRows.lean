/-
  No cell of these rows narrows 'for every input' (looked for: loops, veiled, ifaces, maps, wideKeys, modest, calm, conditions, laid).
  DERIVED. THE GIVEN ROWS OF THIS SEAT. 3 by the template 'for every input the law returns true; each argument reads behind the call as it read before'; 0 by the template 'total and deterministic' (their statements: YtlcafhmcambaaaaTotals.lean).
  GIVEN WITH THE SEED: the statements are not yours to turn. If you find one false, say at which input.
  Laid BY PROGRAM, IN A SANDBOX (cutbox-rows.mjs): the forced cells as the released guide's own fill.sh prints them over the translation fa70fe2d295aa869… (all of the seat's roots in one cut). By AI agents, Wed Nov 11 2026. No macro, syntax, notation, axiom, sorry.
-/
import Derived.Test.YtlcafhmcambaaaaChecked
import GoSem.Claim
import GoSem.ClaimJoined
import GoSem.ClaimMapViews
import Derived.JoinedTies
import Derived.KernelRfl
namespace Go.Proofs.Ytlcafhmcambaaaa
/- THE CELL 'sum', in the pinned program and in every row, IS THE sha256 OF THE DUMP (.gsa) THAT YtlcafhmcambaaaaProg.lean LOADS. Nothing in Lean hashes anything: it is a label: what it is worth is what the hold of that sum in a sandbox is worth. -/
noncomputable def Try.pinned : Pinned := { name := "ytlcafhmcambaaaa", sum := "fa70fe2d295aa869f6c04b211326815fab829827a23c02a41bdcbcf7cd132e77", checked := Try.checked }
namespace Rows
def none {H : Type} : Left H := { results := [], args := [] }

/-- 'incunablelaw28.VictimChooses': WHATEVER THE INPUT: true; the input reads as it did. -/
def victimChoosesSpec : ChangeSpec := { name := "victimChooses", fn := fun _ => fun
  | [d1, d2, d3] => { results := [.lit (.bool true)], args := [d1, d2, d3] }
  | _ => none }
def victimChoosesRow : OpenClaim := { program := "ytlcafhmcambaaaa", sum := "fa70fe2d295aa869f6c04b211326815fab829827a23c02a41bdcbcf7cd132e77", func := "incunable/incunablelaw28.VictimChooses", spec := "victimChooses", unfollowed := true, recurses := true, apart := false }
def VictimChoosesSaid : Prop := victimChoosesRow.holds Try.pinned (OpenSpec.ofChange victimChoosesSpec)

/-- ITS FALSE NEIGHBOUR: 'it returns false'. Refute it at one input. -/
def victimChoosesWrong : ChangeSpec := { name := "victimChooses", fn := fun _ => fun
  | [d1, d2, d3] => { results := [.lit (.bool false)], args := [d1, d2, d3] }
  | _ => none }
def VictimChoosesWrongFalsely : Prop := victimChoosesRow.holds Try.pinned (OpenSpec.ofChange victimChoosesWrong)

/-- 'incunablelaw28.VictimAny': WHATEVER THE INPUT: true; the input reads as it did. -/
def victimAnySpec : ChangeSpec := { name := "victimAny", fn := fun _ => fun
  | [d1, d2] => { results := [.lit (.bool true)], args := [d1, d2] }
  | _ => none }
def victimAnyRow : OpenClaim := { program := "ytlcafhmcambaaaa", sum := "fa70fe2d295aa869f6c04b211326815fab829827a23c02a41bdcbcf7cd132e77", func := "incunable/incunablelaw28.VictimAny", spec := "victimAny", unfollowed := true, recurses := true, apart := false }
def VictimAnySaid : Prop := victimAnyRow.holds Try.pinned (OpenSpec.ofChange victimAnySpec)

/-- ITS FALSE NEIGHBOUR: 'it returns false'. Refute it at one input. -/
def victimAnyWrong : ChangeSpec := { name := "victimAny", fn := fun _ => fun
  | [d1, d2] => { results := [.lit (.bool false)], args := [d1, d2] }
  | _ => none }
def VictimAnyWrongFalsely : Prop := victimAnyRow.holds Try.pinned (OpenSpec.ofChange victimAnyWrong)

/-- 'incunablelaw28.VictimEnds': WHATEVER THE INPUT: true; the input reads as it did. -/
def victimEndsSpec : ChangeSpec := { name := "victimEnds", fn := fun _ => fun
  | [d1, d2, d3] => { results := [.lit (.bool true)], args := [d1, d2, d3] }
  | _ => none }
def victimEndsRow : OpenClaim := { program := "ytlcafhmcambaaaa", sum := "fa70fe2d295aa869f6c04b211326815fab829827a23c02a41bdcbcf7cd132e77", func := "incunable/incunablelaw28.VictimEnds", spec := "victimEnds", unfollowed := true, recurses := true, apart := false }
def VictimEndsSaid : Prop := victimEndsRow.holds Try.pinned (OpenSpec.ofChange victimEndsSpec)

/-- ITS FALSE NEIGHBOUR: 'it returns false'. Refute it at one input. -/
def victimEndsWrong : ChangeSpec := { name := "victimEnds", fn := fun _ => fun
  | [d1, d2, d3] => { results := [.lit (.bool false)], args := [d1, d2, d3] }
  | _ => none }
def VictimEndsWrongFalsely : Prop := victimEndsRow.holds Try.pinned (OpenSpec.ofChange victimEndsWrong)

/- THE SECOND FORM. 'bulk': how many values and letters a reading holds, each counted each time it is reached (what is shared counts as often as it is met; a slice's spare places count too). A statement '..UptoSaid' is the law's where the arguments, and the package variables that the reading takes, are together of bulk at most 1048576: NARROWER than '..Said'. Prove '..Said' where nothing that the law and all that it calls make is longer than what came in: it says more and counts as full. Else prove '..UptoSaid'. A law counts once. -/
mutual
def uptoBulk {H : Type} : DataW H → Nat
  | .lit (.string bytes) => bytes.length + 1
  | .lit _ => 1
  | .nil => 1
  | .ptr d => uptoBulk d + 1
  | .slice elems spare => uptoBulkAll elems + uptoBulkAll spare + 1
  | .agg parts => uptoBulkAll parts + 1
  | .iface _ d => uptoBulk d + 1
  | .map entries => uptoBulkEntries entries + 1
  | .held _ => 1
def uptoBulkAll {H : Type} : List (DataW H) → Nat
  | [] => 0
  | d :: r => uptoBulk d + uptoBulkAll r
def uptoBulkEntries {H : Type} : List (Lit × DataW H) → Nat
  | [] => 0
  | x :: r => uptoBulkEntry x + uptoBulkEntries r
def uptoBulkEntry {H : Type} : Lit × DataW H → Nat
  | (.string bytes, d) => bytes.length + uptoBulk d + 1
  | (_, d) => uptoBulk d + 1
 end
def uptoSmall : (H : Type) → List (DataW H) → Bool := fun _ ds => decide (uptoBulkAll ds ≤ 1048576)
def OpenSpec.upto (s : _root_.Go.ChangeSpec) : _root_.Go.OpenSpec := { _root_.Go.OpenSpec.ofChange s with cond := some uptoSmall }

/-- 'incunablelaw28.VictimChooses', WHERE WHAT IT READS IS OF BULK AT MOST 1048576: true; the input reads as it did. -/
def victimChoosesUptoRow : OpenClaim := { program := "ytlcafhmcambaaaa", sum := "fa70fe2d295aa869f6c04b211326815fab829827a23c02a41bdcbcf7cd132e77", func := "incunable/incunablelaw28.VictimChooses", spec := "victimChooses", unfollowed := true, recurses := true, apart := false, narrowed := true }
def VictimChoosesUptoSaid : Prop := victimChoosesUptoRow.holds Try.pinned (OpenSpec.upto victimChoosesSpec)

/-- 'incunablelaw28.VictimAny', WHERE WHAT IT READS IS OF BULK AT MOST 1048576: true; the input reads as it did. -/
def victimAnyUptoRow : OpenClaim := { program := "ytlcafhmcambaaaa", sum := "fa70fe2d295aa869f6c04b211326815fab829827a23c02a41bdcbcf7cd132e77", func := "incunable/incunablelaw28.VictimAny", spec := "victimAny", unfollowed := true, recurses := true, apart := false, narrowed := true }
def VictimAnyUptoSaid : Prop := victimAnyUptoRow.holds Try.pinned (OpenSpec.upto victimAnySpec)

/-- 'incunablelaw28.VictimEnds', WHERE WHAT IT READS IS OF BULK AT MOST 1048576: true; the input reads as it did. -/
def victimEndsUptoRow : OpenClaim := { program := "ytlcafhmcambaaaa", sum := "fa70fe2d295aa869f6c04b211326815fab829827a23c02a41bdcbcf7cd132e77", func := "incunable/incunablelaw28.VictimEnds", spec := "victimEnds", unfollowed := true, recurses := true, apart := false, narrowed := true }
def VictimEndsUptoSaid : Prop := victimEndsUptoRow.holds Try.pinned (OpenSpec.upto victimEndsSpec)

end Rows
end Go.Proofs.Ytlcafhmcambaaaa
