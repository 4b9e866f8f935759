-- written by a program of this session (tools/hprint.py, a turned copy of the kit print) out of the translation; Lean checks it
import Derived.Test.YtgioeghaopoabaaProg
import Derived.Below
import Derived.Deep.Draws
import Derived.Deep.AppendLies
import Derived.Maps.AppendAt
import Derived.OwnWalk
import Derived.Laws.BytesArg
import Derived.Laws.MakeOwn
import Derived.Laws.OwnMore
import Derived.Deep.OwnRows
import Derived.Tactics
import Derived.Lib.ConvBytes
import Derived.Laws.Slices
import Derived.WalkKit
import Derived.KernelRfl
import Derived.RowKit3
import Derived.Deep.LoopGhost
import Derived.Deep.QuietTactic
import Derived.BigQuiet
import Derived.WideLaws
import Derived.Deep.DeepCutAuto
import Derived.Deep.CutBlock
import Derived.Deep.RegionHeld3
import Derived.Laws.Rows
import Derived.Lib.AppendStr
import Derived.ArgAppend
import Derived.Laws.IdiomCopy
import Derived.OrdersHeld
import Derived.Laws.BitsLemmas
import Derived.RowKit
import Derived.Test.YtgioeghaopoabaaHCrc
import Derived.Test.YtgioeghaopoabaaHMade
import Derived.Test.YtgioeghaopoabaaWWords
import Derived.Test.YtgioeghaopoabaaWLast
import Derived.Test.YtgioeghaopoabaaWTab
import Derived.Test.YtgioeghaopoabaaWFour
import Derived.Test.YtgioeghaopoabaaWQPut
import Derived.Test.YtgioeghaopoabaaWApart
import Derived.Test.YtgioeghaopoabaaWArr
import Derived.Test.YtgioeghaopoabaaWZeros
import Derived.Test.YtgioeghaopoabaaWFoot
import Derived.Test.YtgioeghaopoabaaWKept
import Derived.Test.YtgioeghaopoabaaWShare
import Derived.Test.YtgioeghaopoabaaWN
import Derived.Test.YtgioeghaopoabaaWFootNe
import Derived.Test.YtgioeghaopoabaaWAt
import Derived.Test.YtgioeghaopoabaaWEqStruct
import Derived.Test.YtgioeghaopoabaaWRepsOne
import Derived.Test.YtgioeghaopoabaaWInv
import Derived.Test.YtgioeghaopoabaaWInvWords
import Derived.Test.YtgioeghaopoabaaWGuard
import Derived.Test.YtgioeghaopoabaaWNEv
import Derived.Test.YtgioeghaopoabaaWMore
namespace Go.Proofs.Ytgioeghaopoabaa.PFnCrc16
open Go.RowKit Go.Proofs.YtgioeghaopoabaaW.PrintWords Go.Proofs.YtgioeghaopoabaaW.PrintLast Go.Proofs.YtgioeghaopoabaaW.PrintMore
attribute [local go_sem] max2_int min2_int max_two min_two max_three min_three max_four min_four   -- for this text's walks alone
set_option linter.unusedVariables false
set_option linter.unusedSimpArgs false



def errW : Option Int → Value
  | none => .nilIface
  | some c => .iface 0 (.int .i64 c)
theorem errW_none : errW none = .nilIface := rfl
theorem errW_some (c : Int) : errW (some c) = .iface 0 (.int .i64 c) := rfl

theorem info3 : (Try.prog.info? 3).map (fun i => (i.zero, i.size, i.bytes)) = some (some (.int .i64 0), 1, 8) := by kernel_rfl
theorem info5 : (Try.prog.info? 5).map (fun i => (i.zero, i.size, i.bytes)) = some (some (.int .u8 0), 1, 1) := by kernel_rfl
-- the values' own types

end Go.Proofs.Ytgioeghaopoabaa.PFnCrc16
