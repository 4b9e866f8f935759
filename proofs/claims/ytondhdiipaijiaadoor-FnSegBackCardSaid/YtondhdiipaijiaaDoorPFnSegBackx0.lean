-- written by a program of this session (tools/hprint.py, a turned copy of the kit print) out of the translation; Lean checks it
import Derived.Test.YtondhdiipaijiaaDoorProg
import Derived.Below
import Derived.Deep.Draws
import Derived.Deep.AppendLies
import Derived.Maps.AppendAt
import Derived.OwnWalk
import Derived.Laws.BytesArg
import Derived.Laws.MakeOwn
import Derived.Laws.OwnMore
import Derived.Deep.OwnRows
import Derived.Tactics
import Derived.Lib.ConvBytes
import Derived.Laws.Slices
import Derived.WalkKit
import Derived.KernelRfl
import Derived.RowKit3
import Derived.Deep.LoopGhost
import Derived.Deep.QuietTactic
import Derived.BigQuiet
import Derived.WideLaws
import Derived.Deep.DeepCutAuto
import Derived.Deep.CutBlock
import Derived.Deep.RegionHeld3
import Derived.Laws.Rows
import Derived.Lib.AppendStr
import Derived.ArgAppend
import Derived.Laws.IdiomCopy
import Derived.OrdersHeld
import Derived.Laws.BitsLemmas
import Derived.RowKit
import Derived.Test.YtondhdiipaijiaaDoorHSegCut2
import Derived.Test.YtondhdiipaijiaaDoorHSeg
import Derived.Test.YtondhdiipaijiaaDoorWWords
import Derived.Test.YtondhdiipaijiaaDoorWLast
import Derived.Test.YtondhdiipaijiaaDoorWTab
import Derived.Test.YtondhdiipaijiaaDoorWFour
import Derived.Test.YtondhdiipaijiaaDoorWQPut
import Derived.Test.YtondhdiipaijiaaDoorWApart
import Derived.Test.YtondhdiipaijiaaDoorWArr
import Derived.Test.YtondhdiipaijiaaDoorWZeros
import Derived.Test.YtondhdiipaijiaaDoorWFoot
import Derived.Test.YtondhdiipaijiaaDoorWKept
import Derived.Test.YtondhdiipaijiaaDoorWShare
import Derived.Test.YtondhdiipaijiaaDoorWN
import Derived.Test.YtondhdiipaijiaaDoorWFootNe
import Derived.Test.YtondhdiipaijiaaDoorWAt
import Derived.Test.YtondhdiipaijiaaDoorWEqStruct
import Derived.Test.YtondhdiipaijiaaDoorWRepsOne
import Derived.Test.YtondhdiipaijiaaDoorWInv
import Derived.Test.YtondhdiipaijiaaDoorWInvWords
import Derived.Test.YtondhdiipaijiaaDoorWGuard
import Derived.Test.YtondhdiipaijiaaDoorWNEv
import Derived.Test.YtondhdiipaijiaaDoorWMore
namespace Go.Proofs.YtondhdiipaijiaaDoor.PFnSegBack
open Go.RowKit Go.Proofs.YtondhdiipaijiaaDoorW.PrintWords Go.Proofs.YtondhdiipaijiaaDoorW.PrintLast Go.Proofs.YtondhdiipaijiaaDoorW.PrintMore
attribute [local go_sem] max2_int min2_int max_two min_two max_three min_three max_four min_four   -- for this text's walks alone
set_option linter.unusedVariables false
set_option linter.unusedSimpArgs false



def errW : Option Int → Value
  | none => .nilIface
  | some c => .iface 0 (.int .i64 c)
theorem errW_none : errW none = .nilIface := rfl
theorem errW_some (c : Int) : errW (some c) = .iface 0 (.int .i64 c) := rfl

theorem info3 : (Tryd.prog.info? 3).map (fun i => (i.zero, i.size, i.bytes)) = some (some (.int .i64 0), 1, 8) := by kernel_rfl
theorem info5 : (Tryd.prog.info? 5).map (fun i => (i.zero, i.size, i.bytes)) = some (some (.int .u8 0), 1, 1) := by kernel_rfl
theorem info9 : (Tryd.prog.info? 9).map (fun i => (i.zero, i.size, i.bytes)) = some (some (.string ⟨#[]⟩), 1, 16) := by kernel_rfl
-- the values' own types

end Go.Proofs.YtondhdiipaijiaaDoor.PFnSegBack
