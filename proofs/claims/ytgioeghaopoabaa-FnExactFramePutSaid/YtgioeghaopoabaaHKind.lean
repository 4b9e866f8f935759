/- The kinds of frames: what frameKindOf hands back and what frameBits makes of it. No conditions. -/
import Derived.Test.YtgioeghaopoabaaProg
import Derived.Below
import Derived.Deep.Draws
import Derived.Deep.AppendLies
import Derived.Maps.AppendAt
import Derived.OwnWalk
import Derived.Laws.BytesArg
import Derived.Laws.MakeOwn
import Derived.Laws.OwnMore
import Derived.Deep.OwnRows
import Derived.Tactics
import Derived.Lib.ConvBytes
import Derived.Laws.Slices
import Derived.WalkKit
import Derived.KernelRfl
import Derived.RowKit3
import Derived.Deep.LoopGhost
import Derived.Deep.QuietTactic
import Derived.BigQuiet
import Derived.WideLaws
import Derived.Deep.DeepCutAuto
import Derived.Deep.CutBlock
import Derived.Deep.RegionHeld3
import Derived.Laws.Rows
import Derived.Lib.AppendStr
import Derived.ArgAppend
import Derived.Laws.IdiomCopy
import Derived.OrdersHeld
import Derived.Laws.BitsLemmas
import Derived.RowKit
import Derived.Test.YtgioeghaopoabaaWWords
import Derived.Test.YtgioeghaopoabaaWLast
import Derived.Test.YtgioeghaopoabaaWTab
import Derived.Test.YtgioeghaopoabaaWFour
import Derived.Test.YtgioeghaopoabaaWQPut
import Derived.Test.YtgioeghaopoabaaWApart
import Derived.Test.YtgioeghaopoabaaWArr
import Derived.Test.YtgioeghaopoabaaWZeros
import Derived.Test.YtgioeghaopoabaaWFoot
import Derived.Test.YtgioeghaopoabaaWKept
import Derived.Test.YtgioeghaopoabaaWShare
import Derived.Test.YtgioeghaopoabaaWN
import Derived.Test.YtgioeghaopoabaaWFootNe
import Derived.Test.YtgioeghaopoabaaWAt
import Derived.Test.YtgioeghaopoabaaWEqStruct
import Derived.Test.YtgioeghaopoabaaWRepsOne
import Derived.Test.YtgioeghaopoabaaWInv
import Derived.Test.YtgioeghaopoabaaWInvWords
import Derived.Test.YtgioeghaopoabaaWGuard
import Derived.Test.YtgioeghaopoabaaWNEv
import Derived.Test.YtgioeghaopoabaaWMore
import Derived.Laws.ResultCell
namespace Go.Proofs.Ytgioeghaopoabaa.HKind
open Go Go.RowKit Go.Proofs.YtgioeghaopoabaaW.PrintWords Go.Proofs.YtgioeghaopoabaaW.PrintLast Go.Proofs.YtgioeghaopoabaaW.PrintMore
set_option linter.unusedVariables false
set_option linter.unusedSimpArgs false
/-- A kind as a value, by its bits. -/
def kindW (n : Int) : Value := if n = 12288 then .iface 88 (.agg #[]) else if n = 8192 then .iface 89 (.agg #[]) else .iface 90 (.agg #[])
/-- A kind's bits. -/
def bitsOf (n : Int) : Int := if n = 12288 then 12288 else if n = 8192 then 8192 else 0
def kindOf (past govern : Bool) : Int := if govern = true then 12288 else if past = true then 8192 else 0
theorem run_assert_is (P : Program) (t xT : TypeId) (v : Value) (w : World) (h : P.underlying t = some (.struct #[])) : (Instr.typeAssert (.iface t v) xT t true).run P w = .ok (.tuple #[v, .bool true]) w := by
  simp [Instr.typeAssert, run_underlying h, go_sem, Result.andThen]
theorem run_assert_not (P : Program) (t u xT : TypeId) (v : Value) (w : World) (i : TypeInfo) (h : P.underlying t = some (.struct #[])) (hi : P.info? t = some i) (hz : i.zero = some (.agg #[])) (hn : u ≠ t) : (Instr.typeAssert (.iface u v) xT t true).run P w = .ok (.tuple #[.agg #[], .bool false]) w := by
  simp [Instr.typeAssert, run_underlying h, go_sem, Result.andThen, hn, zeroValue, typeInfo, hi, hz]
theorem is_88 (v : Value) (xT : TypeId) (w : World) : (Instr.typeAssert (.iface 88 v) xT 88 true).run Try.prog w = .ok (.tuple #[v, .bool true]) w := run_assert_is _ _ _ _ _ (by kernel_rfl)
theorem is_89 (v : Value) (xT : TypeId) (w : World) : (Instr.typeAssert (.iface 89 v) xT 89 true).run Try.prog w = .ok (.tuple #[v, .bool true]) w := run_assert_is _ _ _ _ _ (by kernel_rfl)
theorem not_of {t : TypeId} (h : Try.prog.underlying t = some (.struct #[])) (hz : (Try.prog.info? t).bind (·.zero) = some (.agg #[])) (u xT : TypeId) (hn : u ≠ t) (v : Value) (w : World) : (Instr.typeAssert (.iface u v) xT t true).run Try.prog w = .ok (.tuple #[.agg #[], .bool false]) w := by
  obtain ⟨i, hi, hz'⟩ := Option.bind_eq_some_iff.1 hz
  exact run_assert_not _ _ _ _ _ _ i h hi hz' hn
theorem not_88_89 (v : Value) (xT : TypeId) (w : World) : (Instr.typeAssert (.iface 89 v) xT 88 true).run Try.prog w = .ok (.tuple #[.agg #[], .bool false]) w := not_of (by kernel_rfl) (by kernel_rfl) _ _ (by decide) _ _
theorem not_88_90 (v : Value) (xT : TypeId) (w : World) : (Instr.typeAssert (.iface 90 v) xT 88 true).run Try.prog w = .ok (.tuple #[.agg #[], .bool false]) w := not_of (by kernel_rfl) (by kernel_rfl) _ _ (by decide) _ _
theorem not_89_90 (v : Value) (xT : TypeId) (w : World) : (Instr.typeAssert (.iface 90 v) xT 89 true).run Try.prog w = .ok (.tuple #[.agg #[], .bool false]) w := not_of (by kernel_rfl) (by kernel_rfl) _ _ (by decide) _ _
theorem bits_gov (w : World) : Calls Try.prog 45 #[.iface 88 (.agg #[])] w fun e w' => e = .returned (.int .i64 12288) ∧ Below w.heap.size w w' := by
  go_enter Try.func45, Try.ntmps45
  go_wp2
  rw [is_88]
  go_wp2
  go_ret
  exact ⟨rfl, Below.refl _ _⟩
theorem bits_pass (w : World) : Calls Try.prog 45 #[.iface 89 (.agg #[])] w fun e w' => e = .returned (.int .i64 8192) ∧ Below w.heap.size w w' := by
  go_enter Try.func45, Try.ntmps45
  go_wp2
  rw [not_88_89]
  go_wp2
  rw [is_89]
  go_wp2
  go_ret
  exact ⟨rfl, Below.refl _ _⟩
theorem bits_ord (w : World) : Calls Try.prog 45 #[.iface 90 (.agg #[])] w fun e w' => e = .returned (.int .i64 0) ∧ Below w.heap.size w w' := by
  go_enter Try.func45, Try.ntmps45
  go_wp2
  rw [not_88_90]
  go_wp2
  rw [not_89_90]
  go_wp2
  go_ret
  exact ⟨rfl, Below.refl _ _⟩
theorem bits_any (n : Int) (w : World) : Calls Try.prog 45 #[kindW n] w fun e w' => e = .returned (.int .i64 (bitsOf n)) ∧ Below w.heap.size w w' := by
  unfold kindW bitsOf
  by_cases h : n = 12288
  · rw [if_pos h, if_pos h]
    exact bits_gov w
  rw [if_neg h, if_neg h]
  by_cases h : n = 8192
  · rw [if_pos h, if_pos h]
    exact bits_pass w
  rw [if_neg h, if_neg h]
  exact bits_ord w
theorem kind_any (past govern : Bool) (craft via seq : Int) (s : ByteArray) (w : World) : Calls Try.prog 46 #[.agg #[.bool past, .bool govern, .int .i64 craft, .int .i64 via, .int .i64 seq, .string s]] w fun e w' => e = .returned (kindW (kindOf past govern)) ∧ Below w.heap.size w w' := by
  have hu := Try.underlying48
  cases govern
  · cases past
    · go_enter Try.func46, Try.ntmps46
      go_wp2
      go_ret
      exact ⟨rfl, (Below.refl _ _).alloc (Nat.le_refl _) _⟩
    · go_enter Try.func46, Try.ntmps46
      go_wp2
      go_ret
      exact ⟨rfl, (Below.refl _ _).alloc (Nat.le_refl _) _⟩
  · cases past
    · go_enter Try.func46, Try.ntmps46
      go_wp2
      go_ret
      exact ⟨rfl, (Below.refl _ _).alloc (Nat.le_refl _) _⟩
    · go_enter Try.func46, Try.ntmps46
      go_wp2
      go_ret
      exact ⟨rfl, (Below.refl _ _).alloc (Nat.le_refl _) _⟩
end Go.Proofs.Ytgioeghaopoabaa.HKind
