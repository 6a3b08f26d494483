/-
  No cell of these rows narrows 'for every input' (looked for: loops, veiled, ifaces, maps, wideKeys, modest, calm, conditions, laid).
  DERIVED. THE GIVEN ROWS OF THIS SEAT. 3 by the template 'for every input the law returns true; each argument reads behind the call as it read before'; 0 by the template 'total and deterministic' (their statements: YtjcmpfiklmpoaaaTotals.lean).
  GIVEN WITH THE SEED: the statements are not yours to turn. If you find one false, say at which input.
  Laid BY PROGRAM, IN A SANDBOX (cutbox-rows.mjs): the forced cells as the released guide's own fill.sh prints them over the translation 7e4cbf3f37f57501… (all of the seat's roots in one cut). By AI agents, Wed Nov 11 2026. No macro, syntax, notation, axiom, sorry.
-/
import Derived.Test.YtjcmpfiklmpoaaaChecked
import GoSem.Claim
import GoSem.ClaimJoined
import GoSem.ClaimMapViews
import Derived.JoinedTies
import Derived.KernelRfl
namespace Go.Proofs.Ytjcmpfiklmpoaaa
/- THE CELL 'sum', in the pinned program and in every row, IS THE sha256 OF THE DUMP (.gsa) THAT YtjcmpfiklmpoaaaProg.lean LOADS. Nothing in Lean hashes anything: it is a label: what it is worth is what the hold of that sum in a sandbox is worth. -/
noncomputable def Try.pinned : Pinned := { name := "ytjcmpfiklmpoaaa", sum := "7e4cbf3f37f5750141a82aab437a99c5d87ff878b6a1271d1d0fcc1f79b513d5", checked := Try.checked }
namespace Rows
def none {H : Type} : Left H := { results := [], args := [] }

/-- 'incunablelaw27.L2pPlays': WHATEVER THE INPUT: true; the input reads as it did. -/
def l2pPlaysSpec : ChangeSpec := { name := "l2pPlays", fn := fun _ => fun
  | [d1, d2] => { results := [.lit (.bool true)], args := [d1, d2] }
  | _ => none }
def l2pPlaysRow : OpenClaim := { program := "ytjcmpfiklmpoaaa", sum := "7e4cbf3f37f5750141a82aab437a99c5d87ff878b6a1271d1d0fcc1f79b513d5", func := "incunable/incunablelaw27.L2pPlays", spec := "l2pPlays", apart := false }
def L2pPlaysSaid : Prop := l2pPlaysRow.holds Try.pinned (OpenSpec.ofChange l2pPlaysSpec)

/-- ITS FALSE NEIGHBOUR: 'it returns false'. Refute it at one input. -/
def l2pPlaysWrong : ChangeSpec := { name := "l2pPlays", fn := fun _ => fun
  | [d1, d2] => { results := [.lit (.bool false)], args := [d1, d2] }
  | _ => none }
def L2pPlaysWrongFalsely : Prop := l2pPlaysRow.holds Try.pinned (OpenSpec.ofChange l2pPlaysWrong)

/-- 'incunablelaw27.L2pFits': WHATEVER THE INPUT: true; the input reads as it did. -/
def l2pFitsSpec : ChangeSpec := { name := "l2pFits", fn := fun _ => fun
  | [d] => { results := [.lit (.bool true)], args := [d] }
  | _ => none }
def l2pFitsRow : OpenClaim := { program := "ytjcmpfiklmpoaaa", sum := "7e4cbf3f37f5750141a82aab437a99c5d87ff878b6a1271d1d0fcc1f79b513d5", func := "incunable/incunablelaw27.L2pFits", spec := "l2pFits", apart := false }
def L2pFitsSaid : Prop := l2pFitsRow.holds Try.pinned (OpenSpec.ofChange l2pFitsSpec)

/-- ITS FALSE NEIGHBOUR: 'it returns false'. Refute it at one input. -/
def l2pFitsWrong : ChangeSpec := { name := "l2pFits", fn := fun _ => fun
  | [d] => { results := [.lit (.bool false)], args := [d] }
  | _ => none }
def L2pFitsWrongFalsely : Prop := l2pFitsRow.holds Try.pinned (OpenSpec.ofChange l2pFitsWrong)

/-- 'incunablelaw27.L2pMoves': WHATEVER THE INPUT: true; the input reads as it did. -/
def l2pMovesSpec : ChangeSpec := { name := "l2pMoves", fn := fun _ => fun
  | [d1, d2] => { results := [.lit (.bool true)], args := [d1, d2] }
  | _ => none }
def l2pMovesRow : OpenClaim := { program := "ytjcmpfiklmpoaaa", sum := "7e4cbf3f37f5750141a82aab437a99c5d87ff878b6a1271d1d0fcc1f79b513d5", func := "incunable/incunablelaw27.L2pMoves", spec := "l2pMoves", apart := false }
def L2pMovesSaid : Prop := l2pMovesRow.holds Try.pinned (OpenSpec.ofChange l2pMovesSpec)

/-- ITS FALSE NEIGHBOUR: 'it returns false'. Refute it at one input. -/
def l2pMovesWrong : ChangeSpec := { name := "l2pMoves", fn := fun _ => fun
  | [d1, d2] => { results := [.lit (.bool false)], args := [d1, d2] }
  | _ => none }
def L2pMovesWrongFalsely : Prop := l2pMovesRow.holds Try.pinned (OpenSpec.ofChange l2pMovesWrong)

/- THE SECOND FORM. 'bulk': how many values and letters a reading holds, each counted each time it is reached (what is shared counts as often as it is met; a slice's spare places count too). A statement '..UptoSaid' is the law's where the arguments, and the package variables that the reading takes, are together of bulk at most 1048576: NARROWER than '..Said'. Prove '..Said' where nothing that the law and all that it calls make is longer than what came in: it says more and counts as full. Else prove '..UptoSaid'. A law counts once. -/
mutual
def uptoBulk {H : Type} : DataW H → Nat
  | .lit (.string bytes) => bytes.length + 1
  | .lit _ => 1
  | .nil => 1
  | .ptr d => uptoBulk d + 1
  | .slice elems spare => uptoBulkAll elems + uptoBulkAll spare + 1
  | .agg parts => uptoBulkAll parts + 1
  | .iface _ d => uptoBulk d + 1
  | .map entries => uptoBulkEntries entries + 1
  | .held _ => 1
def uptoBulkAll {H : Type} : List (DataW H) → Nat
  | [] => 0
  | d :: r => uptoBulk d + uptoBulkAll r
def uptoBulkEntries {H : Type} : List (Lit × DataW H) → Nat
  | [] => 0
  | x :: r => uptoBulkEntry x + uptoBulkEntries r
def uptoBulkEntry {H : Type} : Lit × DataW H → Nat
  | (.string bytes, d) => bytes.length + uptoBulk d + 1
  | (_, d) => uptoBulk d + 1
 end
def uptoSmall : (H : Type) → List (DataW H) → Bool := fun _ ds => decide (uptoBulkAll ds ≤ 1048576)
def OpenSpec.upto (s : _root_.Go.ChangeSpec) : _root_.Go.OpenSpec := { _root_.Go.OpenSpec.ofChange s with cond := some uptoSmall }

/-- 'incunablelaw27.L2pPlays', WHERE WHAT IT READS IS OF BULK AT MOST 1048576: true; the input reads as it did. -/
def l2pPlaysUptoRow : OpenClaim := { program := "ytjcmpfiklmpoaaa", sum := "7e4cbf3f37f5750141a82aab437a99c5d87ff878b6a1271d1d0fcc1f79b513d5", func := "incunable/incunablelaw27.L2pPlays", spec := "l2pPlays", apart := false, narrowed := true }
def L2pPlaysUptoSaid : Prop := l2pPlaysUptoRow.holds Try.pinned (OpenSpec.upto l2pPlaysSpec)

/-- 'incunablelaw27.L2pFits', WHERE WHAT IT READS IS OF BULK AT MOST 1048576: true; the input reads as it did. -/
def l2pFitsUptoRow : OpenClaim := { program := "ytjcmpfiklmpoaaa", sum := "7e4cbf3f37f5750141a82aab437a99c5d87ff878b6a1271d1d0fcc1f79b513d5", func := "incunable/incunablelaw27.L2pFits", spec := "l2pFits", apart := false, narrowed := true }
def L2pFitsUptoSaid : Prop := l2pFitsUptoRow.holds Try.pinned (OpenSpec.upto l2pFitsSpec)

/-- 'incunablelaw27.L2pMoves', WHERE WHAT IT READS IS OF BULK AT MOST 1048576: true; the input reads as it did. -/
def l2pMovesUptoRow : OpenClaim := { program := "ytjcmpfiklmpoaaa", sum := "7e4cbf3f37f5750141a82aab437a99c5d87ff878b6a1271d1d0fcc1f79b513d5", func := "incunable/incunablelaw27.L2pMoves", spec := "l2pMoves", apart := false, narrowed := true }
def L2pMovesUptoSaid : Prop := l2pMovesUptoRow.holds Try.pinned (OpenSpec.upto l2pMovesSpec)

end Rows
end Go.Proofs.Ytjcmpfiklmpoaaa
