-- written by a program of this session (tools/hprint.py, a turned copy of the kit print) out of the translation; Lean checks it
import Derived.Test.YtondhdiipaijiaaProg
import Derived.Below
import Derived.Deep.Draws
import Derived.Deep.AppendLies
import Derived.Maps.AppendAt
import Derived.OwnWalk
import Derived.Laws.BytesArg
import Derived.Laws.MakeOwn
import Derived.Laws.OwnMore
import Derived.Deep.OwnRows
import Derived.Tactics
import Derived.Lib.ConvBytes
import Derived.Laws.Slices
import Derived.WalkKit
import Derived.KernelRfl
import Derived.RowKit3
import Derived.Deep.LoopGhost
import Derived.Deep.QuietTactic
import Derived.BigQuiet
import Derived.WideLaws
import Derived.Deep.DeepCutAuto
import Derived.Deep.CutBlock
import Derived.Deep.RegionHeld3
import Derived.Laws.Rows
import Derived.Lib.AppendStr
import Derived.ArgAppend
import Derived.Laws.IdiomCopy
import Derived.OrdersHeld
import Derived.Laws.BitsLemmas
import Derived.RowKit
import Derived.Test.YtondhdiipaijiaaHSegCut2
import Derived.Test.YtondhdiipaijiaaWWords
import Derived.Test.YtondhdiipaijiaaWLast
import Derived.Test.YtondhdiipaijiaaWTab
import Derived.Test.YtondhdiipaijiaaWFour
import Derived.Test.YtondhdiipaijiaaWQPut
import Derived.Test.YtondhdiipaijiaaWApart
import Derived.Test.YtondhdiipaijiaaWArr
import Derived.Test.YtondhdiipaijiaaWZeros
import Derived.Test.YtondhdiipaijiaaWFoot
import Derived.Test.YtondhdiipaijiaaWKept
import Derived.Test.YtondhdiipaijiaaWShare
import Derived.Test.YtondhdiipaijiaaWN
import Derived.Test.YtondhdiipaijiaaWFootNe
import Derived.Test.YtondhdiipaijiaaWAt
import Derived.Test.YtondhdiipaijiaaWEqStruct
import Derived.Test.YtondhdiipaijiaaWRepsOne
import Derived.Test.YtondhdiipaijiaaWInv
import Derived.Test.YtondhdiipaijiaaWInvWords
import Derived.Test.YtondhdiipaijiaaWGuard
import Derived.Test.YtondhdiipaijiaaWNEv
import Derived.Test.YtondhdiipaijiaaWMore
namespace Go.Proofs.Ytondhdiipaijiaa.PFnExactSegCut
open Go.RowKit Go.Proofs.YtondhdiipaijiaaW.PrintWords Go.Proofs.YtondhdiipaijiaaW.PrintLast Go.Proofs.YtondhdiipaijiaaW.PrintMore
attribute [local go_sem] max2_int min2_int max_two min_two max_three min_three max_four min_four   -- for this text's walks alone
set_option linter.unusedVariables false
set_option linter.unusedSimpArgs false



def errW : Option Int → Value
  | none => .nilIface
  | some c => .iface 0 (.int .i64 c)
theorem errW_none : errW none = .nilIface := rfl
theorem errW_some (c : Int) : errW (some c) = .iface 0 (.int .i64 c) := rfl

theorem info5 : (Try.prog.info? 5).map (fun i => (i.zero, i.size, i.bytes)) = some (some (.int .u8 0), 1, 1) := by kernel_rfl
theorem info9 : (Try.prog.info? 9).map (fun i => (i.zero, i.size, i.bytes)) = some (some (.string ⟨#[]⟩), 1, 16) := by kernel_rfl
-- the values' own types

end Go.Proofs.Ytondhdiipaijiaa.PFnExactSegCut
