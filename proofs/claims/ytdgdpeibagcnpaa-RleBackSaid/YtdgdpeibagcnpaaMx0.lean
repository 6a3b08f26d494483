-- Written by a program of this session (wip/patch_print.py over the kit's print); Lean checks it.
import Derived.Test.YtdgdpeibagcnpaaProg
import Derived.Below
import Derived.Deep.Draws
import Derived.Deep.AppendLies
import Derived.Maps.AppendAt
import Derived.OwnWalk
import Derived.Laws.BytesArg
import Derived.Laws.MakeOwn
import Derived.Laws.OwnMore
import Derived.Deep.OwnRows
import Derived.Tactics
import Derived.Lib.ConvBytes
import Derived.Laws.Slices
import Derived.WalkKit
import Derived.KernelRfl
import Derived.RowKit3
import Derived.Deep.LoopGhost
import Derived.Deep.QuietTactic
import Derived.BigQuiet
import Derived.WideLaws
import Derived.Deep.DeepCutAuto
import Derived.Deep.CutBlock
import Derived.Deep.RegionHeld3
import Derived.Laws.Rows
import Derived.Lib.AppendStr
import Derived.ArgAppend
import Derived.Laws.IdiomCopy
import Derived.OrdersHeld
import Derived.Laws.BitsLemmas
import Derived.RowKit
import Derived.Lib.SliceRun
import Derived.Test.YtdgdpeibagcnpaaRf
import Derived.Test.YtdgdpeibagcnpaaRb
import Derived.Shelf.Abstract
import Derived.Shelf.RegionOpen
import Derived.OwnWalkIn
import Derived.TacticsInMore
import Derived.LoopNIn
import Derived.LoopIn
import Derived.Laws.CopyOwn
import Derived.Lib.MakeNoZero
import Derived.Test.YtdgdpeibagcnpaaWWords
import Derived.Test.YtdgdpeibagcnpaaWLast
import Derived.Test.YtdgdpeibagcnpaaWTab
import Derived.Test.YtdgdpeibagcnpaaWFour
import Derived.Test.YtdgdpeibagcnpaaWQPut
import Derived.Test.YtdgdpeibagcnpaaWApart
import Derived.Test.YtdgdpeibagcnpaaWArr
import Derived.Test.YtdgdpeibagcnpaaWZeros
import Derived.Test.YtdgdpeibagcnpaaWFoot
import Derived.Test.YtdgdpeibagcnpaaWKept
import Derived.Test.YtdgdpeibagcnpaaWShare
import Derived.Test.YtdgdpeibagcnpaaWN
import Derived.Test.YtdgdpeibagcnpaaWFootNe
import Derived.Test.YtdgdpeibagcnpaaWAt
import Derived.Test.YtdgdpeibagcnpaaWEqStruct
import Derived.Test.YtdgdpeibagcnpaaWRepsOne
import Derived.Test.YtdgdpeibagcnpaaWInv
import Derived.Test.YtdgdpeibagcnpaaWInvWords
import Derived.Test.YtdgdpeibagcnpaaWGuard
import Derived.Test.YtdgdpeibagcnpaaWNEv
import Derived.Test.YtdgdpeibagcnpaaWMore
namespace Go.Proofs.Ytdgdpeibagcnpaa.M
open Go.RowKit Go.Proofs.YtdgdpeibagcnpaaW.PrintWords Go.Proofs.YtdgdpeibagcnpaaW.PrintLast Go.Proofs.YtdgdpeibagcnpaaW.PrintMore
attribute [local go_sem] max2_int min2_int max_two min_two max_three min_three max_four min_four   -- for this text's walks alone
set_option linter.unusedVariables false
set_option linter.unusedSimpArgs false



def errW : Option Int → Value
  | none => .nilIface
  | some c => .iface 0 (.int .i64 c)
theorem errW_none : errW none = .nilIface := rfl
theorem errW_some (c : Int) : errW (some c) = .iface 0 (.int .i64 c) := rfl

theorem info5 : (Try.prog.info? 5).map (fun i => (i.zero, i.size, i.bytes)) = some (some (.int .u8 0), 1, 1) := by kernel_rfl
-- the values' own types

end Go.Proofs.Ytdgdpeibagcnpaa.M
