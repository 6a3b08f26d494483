-- Written by a program of this session (wip/patch_print.py over the kit's print); Lean checks it.
import Derived.Test.YtgdkikclniamlaaProg
import Derived.Below
import Derived.Deep.Draws
import Derived.Deep.AppendLies
import Derived.Maps.AppendAt
import Derived.OwnWalk
import Derived.Laws.BytesArg
import Derived.Laws.MakeOwn
import Derived.Laws.OwnMore
import Derived.Deep.OwnRows
import Derived.Tactics
import Derived.Lib.ConvBytes
import Derived.Laws.Slices
import Derived.WalkKit
import Derived.KernelRfl
import Derived.RowKit3
import Derived.Deep.LoopGhost
import Derived.Deep.QuietTactic
import Derived.BigQuiet
import Derived.WideLaws
import Derived.Deep.DeepCutAuto
import Derived.Deep.CutBlock
import Derived.Deep.RegionHeld3
import Derived.Laws.Rows
import Derived.Lib.AppendStr
import Derived.ArgAppend
import Derived.Laws.IdiomCopy
import Derived.OrdersHeld
import Derived.Laws.BitsLemmas
import Derived.RowKit
import Derived.Lib.SliceRun
import Derived.Test.YtgdkikclniamlaaWWords
import Derived.Test.YtgdkikclniamlaaWLast
import Derived.Test.YtgdkikclniamlaaWTab
import Derived.Test.YtgdkikclniamlaaWFour
import Derived.Test.YtgdkikclniamlaaWQPut
import Derived.Test.YtgdkikclniamlaaWApart
import Derived.Test.YtgdkikclniamlaaWArr
import Derived.Test.YtgdkikclniamlaaWZeros
import Derived.Test.YtgdkikclniamlaaWFoot
import Derived.Test.YtgdkikclniamlaaWKept
import Derived.Test.YtgdkikclniamlaaWShare
import Derived.Test.YtgdkikclniamlaaWN
import Derived.Test.YtgdkikclniamlaaWFootNe
import Derived.Test.YtgdkikclniamlaaWAt
import Derived.Test.YtgdkikclniamlaaWEqStruct
import Derived.Test.YtgdkikclniamlaaWRepsOne
import Derived.Test.YtgdkikclniamlaaWInv
import Derived.Test.YtgdkikclniamlaaWInvWords
import Derived.Test.YtgdkikclniamlaaWGuard
import Derived.Test.YtgdkikclniamlaaWNEv
import Derived.Test.YtgdkikclniamlaaWMore
namespace Go.Proofs.Ytgdkikclniamlaa.M
open Go.RowKit Go.Proofs.YtgdkikclniamlaaW.PrintWords Go.Proofs.YtgdkikclniamlaaW.PrintLast Go.Proofs.YtgdkikclniamlaaW.PrintMore
attribute [local go_sem] max2_int min2_int max_two min_two max_three min_three max_four min_four   -- for this text's walks alone
set_option linter.unusedVariables false
set_option linter.unusedSimpArgs false



def errW : Option Int → Value
  | none => .nilIface
  | some c => .iface 0 (.int .i64 c)
theorem errW_none : errW none = .nilIface := rfl
theorem errW_some (c : Int) : errW (some c) = .iface 0 (.int .i64 c) := rfl

theorem info3 : (Try.prog.info? 3).map (fun i => (i.zero, i.size, i.bytes)) = some (some (.int .i64 0), 1, 8) := by kernel_rfl
theorem info4 : (Try.prog.info? 4).map (fun i => (i.zero, i.size, i.bytes)) = some (some (.bool false), 1, 1) := by kernel_rfl
-- the values' own types

end Go.Proofs.Ytgdkikclniamlaa.M
