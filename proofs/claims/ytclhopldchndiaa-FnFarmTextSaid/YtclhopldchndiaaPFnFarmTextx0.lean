-- written by a program of this session (tools/hprint.py, a turned copy of the kit print) out of the translation; Lean checks it
import Derived.Test.YtclhopldchndiaaProg
import Derived.Below
import Derived.Deep.Draws
import Derived.Deep.AppendLies
import Derived.Maps.AppendAt
import Derived.OwnWalk
import Derived.Laws.BytesArg
import Derived.Laws.MakeOwn
import Derived.Laws.OwnMore
import Derived.Deep.OwnRows
import Derived.Tactics
import Derived.Lib.ConvBytes
import Derived.Laws.Slices
import Derived.WalkKit
import Derived.KernelRfl
import Derived.RowKit3
import Derived.Deep.LoopGhost
import Derived.Deep.QuietTactic
import Derived.BigQuiet
import Derived.WideLaws
import Derived.Deep.DeepCutAuto
import Derived.Deep.CutBlock
import Derived.Deep.RegionHeld3
import Derived.Laws.Rows
import Derived.Lib.AppendStr
import Derived.ArgAppend
import Derived.Laws.IdiomCopy
import Derived.OrdersHeld
import Derived.Laws.BitsLemmas
import Derived.RowKit
import Derived.Test.YtclhopldchndiaaHSpoil
import Derived.Test.YtclhopldchndiaaWWords
import Derived.Test.YtclhopldchndiaaWLast
import Derived.Test.YtclhopldchndiaaWTab
import Derived.Test.YtclhopldchndiaaWFour
import Derived.Test.YtclhopldchndiaaWQPut
import Derived.Test.YtclhopldchndiaaWApart
import Derived.Test.YtclhopldchndiaaWArr
import Derived.Test.YtclhopldchndiaaWZeros
import Derived.Test.YtclhopldchndiaaWFoot
import Derived.Test.YtclhopldchndiaaWKept
import Derived.Test.YtclhopldchndiaaWShare
import Derived.Test.YtclhopldchndiaaWN
import Derived.Test.YtclhopldchndiaaWFootNe
import Derived.Test.YtclhopldchndiaaWAt
import Derived.Test.YtclhopldchndiaaWEqStruct
import Derived.Test.YtclhopldchndiaaWRepsOne
import Derived.Test.YtclhopldchndiaaWInv
import Derived.Test.YtclhopldchndiaaWInvWords
import Derived.Test.YtclhopldchndiaaWGuard
import Derived.Test.YtclhopldchndiaaWNEv
import Derived.Test.YtclhopldchndiaaWMore
namespace Go.Proofs.Ytclhopldchndiaa.PFnFarmText
open Go.RowKit Go.Proofs.YtclhopldchndiaaW.PrintWords Go.Proofs.YtclhopldchndiaaW.PrintLast Go.Proofs.YtclhopldchndiaaW.PrintMore
attribute [local go_sem] max2_int min2_int max_two min_two max_three min_three max_four min_four   -- for this text's walks alone
set_option linter.unusedVariables false
set_option linter.unusedSimpArgs false



def errW : Option Int → Value
  | none => .nilIface
  | some c => .iface 0 (.int .i64 c)
theorem errW_none : errW none = .nilIface := rfl
theorem errW_some (c : Int) : errW (some c) = .iface 0 (.int .i64 c) := rfl

theorem info3 : (Try.prog.info? 3).map (fun i => (i.zero, i.size, i.bytes)) = some (some (.int .i64 0), 1, 8) := by kernel_rfl
theorem info5 : (Try.prog.info? 5).map (fun i => (i.zero, i.size, i.bytes)) = some (some (.int .u8 0), 1, 1) := by kernel_rfl
-- the values' own types

end Go.Proofs.Ytclhopldchndiaa.PFnFarmText
