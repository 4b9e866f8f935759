-- written by a program of this session (tools/hprint.py, a turned copy of the kit print) out of the translation; Lean checks it
import Derived.Test.YtiknnbjfpdeieaaProg
import Derived.Below
import Derived.Deep.Draws
import Derived.Deep.AppendLies
import Derived.Maps.AppendAt
import Derived.OwnWalk
import Derived.Laws.BytesArg
import Derived.Laws.MakeOwn
import Derived.Laws.OwnMore
import Derived.Deep.OwnRows
import Derived.Tactics
import Derived.Lib.ConvBytes
import Derived.Laws.Slices
import Derived.WalkKit
import Derived.KernelRfl
import Derived.RowKit3
import Derived.Deep.LoopGhost
import Derived.Deep.QuietTactic
import Derived.BigQuiet
import Derived.WideLaws
import Derived.Deep.DeepCutAuto
import Derived.Deep.CutBlock
import Derived.Deep.RegionHeld3
import Derived.Laws.Rows
import Derived.Lib.AppendStr
import Derived.ArgAppend
import Derived.Laws.IdiomCopy
import Derived.OrdersHeld
import Derived.Laws.BitsLemmas
import Derived.RowKit
import Derived.Test.YtiknnbjfpdeieaaHGet2
import Derived.Test.YtiknnbjfpdeieaaHCltu
import Derived.Test.YtiknnbjfpdeieaaHSpoil
import Derived.Test.YtiknnbjfpdeieaaWWords
import Derived.Test.YtiknnbjfpdeieaaWLast
import Derived.Test.YtiknnbjfpdeieaaWTab
import Derived.Test.YtiknnbjfpdeieaaWFour
import Derived.Test.YtiknnbjfpdeieaaWQPut
import Derived.Test.YtiknnbjfpdeieaaWApart
import Derived.Test.YtiknnbjfpdeieaaWArr
import Derived.Test.YtiknnbjfpdeieaaWZeros
import Derived.Test.YtiknnbjfpdeieaaWFoot
import Derived.Test.YtiknnbjfpdeieaaWKept
import Derived.Test.YtiknnbjfpdeieaaWShare
import Derived.Test.YtiknnbjfpdeieaaWN
import Derived.Test.YtiknnbjfpdeieaaWFootNe
import Derived.Test.YtiknnbjfpdeieaaWAt
import Derived.Test.YtiknnbjfpdeieaaWEqStruct
import Derived.Test.YtiknnbjfpdeieaaWRepsOne
import Derived.Test.YtiknnbjfpdeieaaWInv
import Derived.Test.YtiknnbjfpdeieaaWInvWords
import Derived.Test.YtiknnbjfpdeieaaWGuard
import Derived.Test.YtiknnbjfpdeieaaWNEv
import Derived.Test.YtiknnbjfpdeieaaWMore
namespace Go.Proofs.Ytiknnbjfpdeieaa.PFnCltuSpoil
open Go.RowKit Go.Proofs.YtiknnbjfpdeieaaW.PrintWords Go.Proofs.YtiknnbjfpdeieaaW.PrintLast Go.Proofs.YtiknnbjfpdeieaaW.PrintMore
attribute [local go_sem] max2_int min2_int max_two min_two max_three min_three max_four min_four   -- for this text's walks alone
set_option linter.unusedVariables false
set_option linter.unusedSimpArgs false



def errW : Option Int → Value
  | none => .nilIface
  | some c => .iface 0 (.int .i64 c)
theorem errW_none : errW none = .nilIface := rfl
theorem errW_some (c : Int) : errW (some c) = .iface 0 (.int .i64 c) := rfl

theorem info3 : (Try.prog.info? 3).map (fun i => (i.zero, i.size, i.bytes)) = some (some (.int .i64 0), 1, 8) := by kernel_rfl
theorem info5 : (Try.prog.info? 5).map (fun i => (i.zero, i.size, i.bytes)) = some (some (.int .u8 0), 1, 1) := by kernel_rfl
theorem info9 : (Try.prog.info? 9).map (fun i => (i.zero, i.size, i.bytes)) = some (some (.string ⟨#[]⟩), 1, 16) := by kernel_rfl
-- the values' own types

end Go.Proofs.Ytiknnbjfpdeieaa.PFnCltuSpoil
