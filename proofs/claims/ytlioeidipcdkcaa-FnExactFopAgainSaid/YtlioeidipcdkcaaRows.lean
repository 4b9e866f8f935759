/-
  No cell of these rows narrows 'for every input' (looked for: loops, veiled, ifaces, maps, wideKeys, modest, calm, conditions, laid).
  DERIVED. THE GIVEN ROWS OF THIS SEAT. 12 by the template 'for every input the law returns true; each argument reads behind the call as it read before'; 0 by the template 'total and deterministic' (their statements: YtlioeidipcdkcaaTotals.lean).
  GIVEN WITH THE SEED: the statements are not yours to turn. If you find one false, say at which input.
  Laid BY PROGRAM, IN A SANDBOX (cutbox-rows.mjs): the forced cells as the released guide's own fill.sh prints them over the translation c1a656b566611651… (all of the seat's roots in one cut). By AI agents, Wed Nov 11 2026. No macro, syntax, notation, axiom, sorry.
-/
import Derived.Test.YtlioeidipcdkcaaChecked
import GoSem.Claim
import GoSem.ClaimJoined
import GoSem.ClaimMapViews
import Derived.JoinedTies
import Derived.KernelRfl
namespace Go.Proofs.Ytlioeidipcdkcaa
/- THE CELL 'sum', in the pinned program and in every row, IS THE sha256 OF THE DUMP (.gsa) THAT YtlioeidipcdkcaaProg.lean LOADS. Nothing in Lean hashes anything: it is a label: what it is worth is what the hold of that sum in a sandbox is worth. -/
noncomputable def Try.pinned : Pinned := { name := "ytlioeidipcdkcaa", sum := "c1a656b566611651d99b8e0a70956e8f7bd24ee6bdf57b267a60c8da33c09305", checked := Try.checked }
namespace Rows
def none {H : Type} : Left H := { results := [], args := [] }

/-- 'laws.FnExactConstants': WHATEVER THE INPUT: true; the input reads as it did. -/
def fnExactConstantsSpec : ChangeSpec := { name := "fnExactConstants", fn := fun _ => fun
  | [] => { results := [.lit (.bool true)], args := [] }
  | _ => none }
def fnExactConstantsRow : OpenClaim := { program := "ytlioeidipcdkcaa", sum := "c1a656b566611651d99b8e0a70956e8f7bd24ee6bdf57b267a60c8da33c09305", func := "loop.example/skyway/laws.FnExactConstants", spec := "fnExactConstants", apart := false }
def FnExactConstantsSaid : Prop := fnExactConstantsRow.holds Try.pinned (OpenSpec.ofChange fnExactConstantsSpec)

/-- ITS FALSE NEIGHBOUR: 'it returns false'. Refute it at one input. -/
def fnExactConstantsWrong : ChangeSpec := { name := "fnExactConstants", fn := fun _ => fun
  | [] => { results := [.lit (.bool false)], args := [] }
  | _ => none }
def FnExactConstantsWrongFalsely : Prop := fnExactConstantsRow.holds Try.pinned (OpenSpec.ofChange fnExactConstantsWrong)

/-- 'laws.FnExactFarmOk': WHATEVER THE INPUT: true; the input reads as it did. -/
def fnExactFarmOkSpec : ChangeSpec := { name := "fnExactFarmOk", fn := fun _ => fun
  | [d] => { results := [.lit (.bool true)], args := [d] }
  | _ => none }
def fnExactFarmOkRow : OpenClaim := { program := "ytlioeidipcdkcaa", sum := "c1a656b566611651d99b8e0a70956e8f7bd24ee6bdf57b267a60c8da33c09305", func := "loop.example/skyway/laws.FnExactFarmOk", spec := "fnExactFarmOk", apart := false }
def FnExactFarmOkSaid : Prop := fnExactFarmOkRow.holds Try.pinned (OpenSpec.ofChange fnExactFarmOkSpec)

/-- ITS FALSE NEIGHBOUR: 'it returns false'. Refute it at one input. -/
def fnExactFarmOkWrong : ChangeSpec := { name := "fnExactFarmOk", fn := fun _ => fun
  | [d] => { results := [.lit (.bool false)], args := [d] }
  | _ => none }
def FnExactFarmOkWrongFalsely : Prop := fnExactFarmOkRow.holds Try.pinned (OpenSpec.ofChange fnExactFarmOkWrong)

/-- 'laws.FnExactJoinOk': WHATEVER THE INPUT: true; the input reads as it did. -/
def fnExactJoinOkSpec : ChangeSpec := { name := "fnExactJoinOk", fn := fun _ => fun
  | [d] => { results := [.lit (.bool true)], args := [d] }
  | _ => none }
def fnExactJoinOkRow : OpenClaim := { program := "ytlioeidipcdkcaa", sum := "c1a656b566611651d99b8e0a70956e8f7bd24ee6bdf57b267a60c8da33c09305", func := "loop.example/skyway/laws.FnExactJoinOk", spec := "fnExactJoinOk", apart := false }
def FnExactJoinOkSaid : Prop := fnExactJoinOkRow.holds Try.pinned (OpenSpec.ofChange fnExactJoinOkSpec)

/-- ITS FALSE NEIGHBOUR: 'it returns false'. Refute it at one input. -/
def fnExactJoinOkWrong : ChangeSpec := { name := "fnExactJoinOk", fn := fun _ => fun
  | [d] => { results := [.lit (.bool false)], args := [d] }
  | _ => none }
def FnExactJoinOkWrongFalsely : Prop := fnExactJoinOkRow.holds Try.pinned (OpenSpec.ofChange fnExactJoinOkWrong)

/-- 'laws.FnExactNumGet': WHATEVER THE INPUT: true; the input reads as it did. -/
def fnExactNumGetSpec : ChangeSpec := { name := "fnExactNumGet", fn := fun _ => fun
  | [d1, d2, d3] => { results := [.lit (.bool true)], args := [d1, d2, d3] }
  | _ => none }
def fnExactNumGetRow : OpenClaim := { program := "ytlioeidipcdkcaa", sum := "c1a656b566611651d99b8e0a70956e8f7bd24ee6bdf57b267a60c8da33c09305", func := "loop.example/skyway/laws.FnExactNumGet", spec := "fnExactNumGet", apart := false }
def FnExactNumGetSaid : Prop := fnExactNumGetRow.holds Try.pinned (OpenSpec.ofChange fnExactNumGetSpec)

/-- ITS FALSE NEIGHBOUR: 'it returns false'. Refute it at one input. -/
def fnExactNumGetWrong : ChangeSpec := { name := "fnExactNumGet", fn := fun _ => fun
  | [d1, d2, d3] => { results := [.lit (.bool false)], args := [d1, d2, d3] }
  | _ => none }
def FnExactNumGetWrongFalsely : Prop := fnExactNumGetRow.holds Try.pinned (OpenSpec.ofChange fnExactNumGetWrong)

/-- 'laws.FnExactFrameOk': WHATEVER THE INPUT: true; the input reads as it did. -/
def fnExactFrameOkSpec : ChangeSpec := { name := "fnExactFrameOk", fn := fun _ => fun
  | [d] => { results := [.lit (.bool true)], args := [d] }
  | _ => none }
def fnExactFrameOkRow : OpenClaim := { program := "ytlioeidipcdkcaa", sum := "c1a656b566611651d99b8e0a70956e8f7bd24ee6bdf57b267a60c8da33c09305", func := "loop.example/skyway/laws.FnExactFrameOk", spec := "fnExactFrameOk", apart := false }
def FnExactFrameOkSaid : Prop := fnExactFrameOkRow.holds Try.pinned (OpenSpec.ofChange fnExactFrameOkSpec)

/-- ITS FALSE NEIGHBOUR: 'it returns false'. Refute it at one input. -/
def fnExactFrameOkWrong : ChangeSpec := { name := "fnExactFrameOk", fn := fun _ => fun
  | [d] => { results := [.lit (.bool false)], args := [d] }
  | _ => none }
def FnExactFrameOkWrongFalsely : Prop := fnExactFrameOkRow.holds Try.pinned (OpenSpec.ofChange fnExactFrameOkWrong)

/-- 'laws.FnExactFopAgain': WHATEVER THE INPUT: true; the input reads as it did. -/
def fnExactFopAgainSpec : ChangeSpec := { name := "fnExactFopAgain", fn := fun _ => fun
  | [d] => { results := [.lit (.bool true)], args := [d] }
  | _ => none }
def fnExactFopAgainRow : OpenClaim := { program := "ytlioeidipcdkcaa", sum := "c1a656b566611651d99b8e0a70956e8f7bd24ee6bdf57b267a60c8da33c09305", func := "loop.example/skyway/laws.FnExactFopAgain", spec := "fnExactFopAgain", apart := false }
def FnExactFopAgainSaid : Prop := fnExactFopAgainRow.holds Try.pinned (OpenSpec.ofChange fnExactFopAgainSpec)

/-- ITS FALSE NEIGHBOUR: 'it returns false'. Refute it at one input. -/
def fnExactFopAgainWrong : ChangeSpec := { name := "fnExactFopAgain", fn := fun _ => fun
  | [d] => { results := [.lit (.bool false)], args := [d] }
  | _ => none }
def FnExactFopAgainWrongFalsely : Prop := fnExactFopAgainRow.holds Try.pinned (OpenSpec.ofChange fnExactFopAgainWrong)

/-- 'laws.FnExactNumPut': WHATEVER THE INPUT: true; the input reads as it did. -/
def fnExactNumPutSpec : ChangeSpec := { name := "fnExactNumPut", fn := fun _ => fun
  | [d1, d2] => { results := [.lit (.bool true)], args := [d1, d2] }
  | _ => none }
def fnExactNumPutRow : OpenClaim := { program := "ytlioeidipcdkcaa", sum := "c1a656b566611651d99b8e0a70956e8f7bd24ee6bdf57b267a60c8da33c09305", func := "loop.example/skyway/laws.FnExactNumPut", spec := "fnExactNumPut", apart := false }
def FnExactNumPutSaid : Prop := fnExactNumPutRow.holds Try.pinned (OpenSpec.ofChange fnExactNumPutSpec)

/-- ITS FALSE NEIGHBOUR: 'it returns false'. Refute it at one input. -/
def fnExactNumPutWrong : ChangeSpec := { name := "fnExactNumPut", fn := fun _ => fun
  | [d1, d2] => { results := [.lit (.bool false)], args := [d1, d2] }
  | _ => none }
def FnExactNumPutWrongFalsely : Prop := fnExactNumPutRow.holds Try.pinned (OpenSpec.ofChange fnExactNumPutWrong)

/-- 'laws.FnExactBch': WHATEVER THE INPUT: true; the input reads as it did. -/
def fnExactBchSpec : ChangeSpec := { name := "fnExactBch", fn := fun _ => fun
  | [d] => { results := [.lit (.bool true)], args := [d] }
  | _ => none }
def fnExactBchRow : OpenClaim := { program := "ytlioeidipcdkcaa", sum := "c1a656b566611651d99b8e0a70956e8f7bd24ee6bdf57b267a60c8da33c09305", func := "loop.example/skyway/laws.FnExactBch", spec := "fnExactBch", apart := false }
def FnExactBchSaid : Prop := fnExactBchRow.holds Try.pinned (OpenSpec.ofChange fnExactBchSpec)

/-- ITS FALSE NEIGHBOUR: 'it returns false'. Refute it at one input. -/
def fnExactBchWrong : ChangeSpec := { name := "fnExactBch", fn := fun _ => fun
  | [d] => { results := [.lit (.bool false)], args := [d] }
  | _ => none }
def FnExactBchWrongFalsely : Prop := fnExactBchRow.holds Try.pinned (OpenSpec.ofChange fnExactBchWrong)

/-- 'laws.FnExactCrc16': WHATEVER THE INPUT: true; the input reads as it did. -/
def fnExactCrc16Spec : ChangeSpec := { name := "fnExactCrc16", fn := fun _ => fun
  | [d] => { results := [.lit (.bool true)], args := [d] }
  | _ => none }
def fnExactCrc16Row : OpenClaim := { program := "ytlioeidipcdkcaa", sum := "c1a656b566611651d99b8e0a70956e8f7bd24ee6bdf57b267a60c8da33c09305", func := "loop.example/skyway/laws.FnExactCrc16", spec := "fnExactCrc16", apart := false }
def FnExactCrc16Said : Prop := fnExactCrc16Row.holds Try.pinned (OpenSpec.ofChange fnExactCrc16Spec)

/-- ITS FALSE NEIGHBOUR: 'it returns false'. Refute it at one input. -/
def fnExactCrc16Wrong : ChangeSpec := { name := "fnExactCrc16", fn := fun _ => fun
  | [d] => { results := [.lit (.bool false)], args := [d] }
  | _ => none }
def FnExactCrc16WrongFalsely : Prop := fnExactCrc16Row.holds Try.pinned (OpenSpec.ofChange fnExactCrc16Wrong)

/-- 'laws.FnExactFarmRoom': WHATEVER THE INPUT: true; the input reads as it did. -/
def fnExactFarmRoomSpec : ChangeSpec := { name := "fnExactFarmRoom", fn := fun _ => fun
  | [d] => { results := [.lit (.bool true)], args := [d] }
  | _ => none }
def fnExactFarmRoomRow : OpenClaim := { program := "ytlioeidipcdkcaa", sum := "c1a656b566611651d99b8e0a70956e8f7bd24ee6bdf57b267a60c8da33c09305", func := "loop.example/skyway/laws.FnExactFarmRoom", spec := "fnExactFarmRoom", apart := false }
def FnExactFarmRoomSaid : Prop := fnExactFarmRoomRow.holds Try.pinned (OpenSpec.ofChange fnExactFarmRoomSpec)

/-- ITS FALSE NEIGHBOUR: 'it returns false'. Refute it at one input. -/
def fnExactFarmRoomWrong : ChangeSpec := { name := "fnExactFarmRoom", fn := fun _ => fun
  | [d] => { results := [.lit (.bool false)], args := [d] }
  | _ => none }
def FnExactFarmRoomWrongFalsely : Prop := fnExactFarmRoomRow.holds Try.pinned (OpenSpec.ofChange fnExactFarmRoomWrong)

/-- 'laws.FnExactFarmOpen': WHATEVER THE INPUT: true; the input reads as it did. -/
def fnExactFarmOpenSpec : ChangeSpec := { name := "fnExactFarmOpen", fn := fun _ => fun
  | [d1, d2] => { results := [.lit (.bool true)], args := [d1, d2] }
  | _ => none }
def fnExactFarmOpenRow : OpenClaim := { program := "ytlioeidipcdkcaa", sum := "c1a656b566611651d99b8e0a70956e8f7bd24ee6bdf57b267a60c8da33c09305", func := "loop.example/skyway/laws.FnExactFarmOpen", spec := "fnExactFarmOpen", apart := false }
def FnExactFarmOpenSaid : Prop := fnExactFarmOpenRow.holds Try.pinned (OpenSpec.ofChange fnExactFarmOpenSpec)

/-- ITS FALSE NEIGHBOUR: 'it returns false'. Refute it at one input. -/
def fnExactFarmOpenWrong : ChangeSpec := { name := "fnExactFarmOpen", fn := fun _ => fun
  | [d1, d2] => { results := [.lit (.bool false)], args := [d1, d2] }
  | _ => none }
def FnExactFarmOpenWrongFalsely : Prop := fnExactFarmOpenRow.holds Try.pinned (OpenSpec.ofChange fnExactFarmOpenWrong)

/-- 'laws.FnCltuBack': WHATEVER THE INPUT: true; the input reads as it did. -/
def fnCltuBackSpec : ChangeSpec := { name := "fnCltuBack", fn := fun _ => fun
  | [d] => { results := [.lit (.bool true)], args := [d] }
  | _ => none }
def fnCltuBackRow : OpenClaim := { program := "ytlioeidipcdkcaa", sum := "c1a656b566611651d99b8e0a70956e8f7bd24ee6bdf57b267a60c8da33c09305", func := "loop.example/skyway/laws.FnCltuBack", spec := "fnCltuBack", inPlace := ["internal/abi.NoEscape", "internal/bytealg.MakeNoZero"], unfollowed := true, recurses := true, apart := false }
def FnCltuBackSaid : Prop := fnCltuBackRow.holds Try.pinned (OpenSpec.ofChange fnCltuBackSpec)

/-- ITS FALSE NEIGHBOUR: 'it returns false'. Refute it at one input. -/
def fnCltuBackWrong : ChangeSpec := { name := "fnCltuBack", fn := fun _ => fun
  | [d] => { results := [.lit (.bool false)], args := [d] }
  | _ => none }
def FnCltuBackWrongFalsely : Prop := fnCltuBackRow.holds Try.pinned (OpenSpec.ofChange fnCltuBackWrong)

/- THE SECOND FORM. 'bulk': how many values and letters a reading holds, each counted each time it is reached (what is shared counts as often as it is met; a slice's spare places count too). A statement '..UptoSaid' is the law's where the arguments, and the package variables that the reading takes, are together of bulk at most 1048576: NARROWER than '..Said'. Prove '..Said' where nothing that the law and all that it calls make is longer than what came in: it says more and counts as full. Else prove '..UptoSaid'. A law counts once. -/
mutual
def uptoBulk {H : Type} : DataW H → Nat
  | .lit (.string bytes) => bytes.length + 1
  | .lit _ => 1
  | .nil => 1
  | .ptr d => uptoBulk d + 1
  | .slice elems spare => uptoBulkAll elems + uptoBulkAll spare + 1
  | .agg parts => uptoBulkAll parts + 1
  | .iface _ d => uptoBulk d + 1
  | .map entries => uptoBulkEntries entries + 1
  | .held _ => 1
def uptoBulkAll {H : Type} : List (DataW H) → Nat
  | [] => 0
  | d :: r => uptoBulk d + uptoBulkAll r
def uptoBulkEntries {H : Type} : List (Lit × DataW H) → Nat
  | [] => 0
  | x :: r => uptoBulkEntry x + uptoBulkEntries r
def uptoBulkEntry {H : Type} : Lit × DataW H → Nat
  | (.string bytes, d) => bytes.length + uptoBulk d + 1
  | (_, d) => uptoBulk d + 1
 end
def uptoSmall : (H : Type) → List (DataW H) → Bool := fun _ ds => decide (uptoBulkAll ds ≤ 1048576)
def OpenSpec.upto (s : _root_.Go.ChangeSpec) : _root_.Go.OpenSpec := { _root_.Go.OpenSpec.ofChange s with cond := some uptoSmall }

/-- 'laws.FnExactConstants', WHERE WHAT IT READS IS OF BULK AT MOST 1048576: true; the input reads as it did. -/
def fnExactConstantsUptoRow : OpenClaim := { program := "ytlioeidipcdkcaa", sum := "c1a656b566611651d99b8e0a70956e8f7bd24ee6bdf57b267a60c8da33c09305", func := "loop.example/skyway/laws.FnExactConstants", spec := "fnExactConstants", apart := false, narrowed := true }
def FnExactConstantsUptoSaid : Prop := fnExactConstantsUptoRow.holds Try.pinned (OpenSpec.upto fnExactConstantsSpec)

/-- 'laws.FnExactFarmOk', WHERE WHAT IT READS IS OF BULK AT MOST 1048576: true; the input reads as it did. -/
def fnExactFarmOkUptoRow : OpenClaim := { program := "ytlioeidipcdkcaa", sum := "c1a656b566611651d99b8e0a70956e8f7bd24ee6bdf57b267a60c8da33c09305", func := "loop.example/skyway/laws.FnExactFarmOk", spec := "fnExactFarmOk", apart := false, narrowed := true }
def FnExactFarmOkUptoSaid : Prop := fnExactFarmOkUptoRow.holds Try.pinned (OpenSpec.upto fnExactFarmOkSpec)

/-- 'laws.FnExactJoinOk', WHERE WHAT IT READS IS OF BULK AT MOST 1048576: true; the input reads as it did. -/
def fnExactJoinOkUptoRow : OpenClaim := { program := "ytlioeidipcdkcaa", sum := "c1a656b566611651d99b8e0a70956e8f7bd24ee6bdf57b267a60c8da33c09305", func := "loop.example/skyway/laws.FnExactJoinOk", spec := "fnExactJoinOk", apart := false, narrowed := true }
def FnExactJoinOkUptoSaid : Prop := fnExactJoinOkUptoRow.holds Try.pinned (OpenSpec.upto fnExactJoinOkSpec)

/-- 'laws.FnExactNumGet', WHERE WHAT IT READS IS OF BULK AT MOST 1048576: true; the input reads as it did. -/
def fnExactNumGetUptoRow : OpenClaim := { program := "ytlioeidipcdkcaa", sum := "c1a656b566611651d99b8e0a70956e8f7bd24ee6bdf57b267a60c8da33c09305", func := "loop.example/skyway/laws.FnExactNumGet", spec := "fnExactNumGet", apart := false, narrowed := true }
def FnExactNumGetUptoSaid : Prop := fnExactNumGetUptoRow.holds Try.pinned (OpenSpec.upto fnExactNumGetSpec)

/-- 'laws.FnExactFrameOk', WHERE WHAT IT READS IS OF BULK AT MOST 1048576: true; the input reads as it did. -/
def fnExactFrameOkUptoRow : OpenClaim := { program := "ytlioeidipcdkcaa", sum := "c1a656b566611651d99b8e0a70956e8f7bd24ee6bdf57b267a60c8da33c09305", func := "loop.example/skyway/laws.FnExactFrameOk", spec := "fnExactFrameOk", apart := false, narrowed := true }
def FnExactFrameOkUptoSaid : Prop := fnExactFrameOkUptoRow.holds Try.pinned (OpenSpec.upto fnExactFrameOkSpec)

/-- 'laws.FnExactFopAgain', WHERE WHAT IT READS IS OF BULK AT MOST 1048576: true; the input reads as it did. -/
def fnExactFopAgainUptoRow : OpenClaim := { program := "ytlioeidipcdkcaa", sum := "c1a656b566611651d99b8e0a70956e8f7bd24ee6bdf57b267a60c8da33c09305", func := "loop.example/skyway/laws.FnExactFopAgain", spec := "fnExactFopAgain", apart := false, narrowed := true }
def FnExactFopAgainUptoSaid : Prop := fnExactFopAgainUptoRow.holds Try.pinned (OpenSpec.upto fnExactFopAgainSpec)

/-- 'laws.FnExactNumPut', WHERE WHAT IT READS IS OF BULK AT MOST 1048576: true; the input reads as it did. -/
def fnExactNumPutUptoRow : OpenClaim := { program := "ytlioeidipcdkcaa", sum := "c1a656b566611651d99b8e0a70956e8f7bd24ee6bdf57b267a60c8da33c09305", func := "loop.example/skyway/laws.FnExactNumPut", spec := "fnExactNumPut", apart := false, narrowed := true }
def FnExactNumPutUptoSaid : Prop := fnExactNumPutUptoRow.holds Try.pinned (OpenSpec.upto fnExactNumPutSpec)

/-- 'laws.FnExactBch', WHERE WHAT IT READS IS OF BULK AT MOST 1048576: true; the input reads as it did. -/
def fnExactBchUptoRow : OpenClaim := { program := "ytlioeidipcdkcaa", sum := "c1a656b566611651d99b8e0a70956e8f7bd24ee6bdf57b267a60c8da33c09305", func := "loop.example/skyway/laws.FnExactBch", spec := "fnExactBch", apart := false, narrowed := true }
def FnExactBchUptoSaid : Prop := fnExactBchUptoRow.holds Try.pinned (OpenSpec.upto fnExactBchSpec)

/-- 'laws.FnExactCrc16', WHERE WHAT IT READS IS OF BULK AT MOST 1048576: true; the input reads as it did. -/
def fnExactCrc16UptoRow : OpenClaim := { program := "ytlioeidipcdkcaa", sum := "c1a656b566611651d99b8e0a70956e8f7bd24ee6bdf57b267a60c8da33c09305", func := "loop.example/skyway/laws.FnExactCrc16", spec := "fnExactCrc16", apart := false, narrowed := true }
def FnExactCrc16UptoSaid : Prop := fnExactCrc16UptoRow.holds Try.pinned (OpenSpec.upto fnExactCrc16Spec)

/-- 'laws.FnExactFarmRoom', WHERE WHAT IT READS IS OF BULK AT MOST 1048576: true; the input reads as it did. -/
def fnExactFarmRoomUptoRow : OpenClaim := { program := "ytlioeidipcdkcaa", sum := "c1a656b566611651d99b8e0a70956e8f7bd24ee6bdf57b267a60c8da33c09305", func := "loop.example/skyway/laws.FnExactFarmRoom", spec := "fnExactFarmRoom", apart := false, narrowed := true }
def FnExactFarmRoomUptoSaid : Prop := fnExactFarmRoomUptoRow.holds Try.pinned (OpenSpec.upto fnExactFarmRoomSpec)

/-- 'laws.FnExactFarmOpen', WHERE WHAT IT READS IS OF BULK AT MOST 1048576: true; the input reads as it did. -/
def fnExactFarmOpenUptoRow : OpenClaim := { program := "ytlioeidipcdkcaa", sum := "c1a656b566611651d99b8e0a70956e8f7bd24ee6bdf57b267a60c8da33c09305", func := "loop.example/skyway/laws.FnExactFarmOpen", spec := "fnExactFarmOpen", apart := false, narrowed := true }
def FnExactFarmOpenUptoSaid : Prop := fnExactFarmOpenUptoRow.holds Try.pinned (OpenSpec.upto fnExactFarmOpenSpec)

/-- 'laws.FnCltuBack', WHERE WHAT IT READS IS OF BULK AT MOST 1048576: true; the input reads as it did. -/
def fnCltuBackUptoRow : OpenClaim := { program := "ytlioeidipcdkcaa", sum := "c1a656b566611651d99b8e0a70956e8f7bd24ee6bdf57b267a60c8da33c09305", func := "loop.example/skyway/laws.FnCltuBack", spec := "fnCltuBack", inPlace := ["internal/abi.NoEscape", "internal/bytealg.MakeNoZero"], unfollowed := true, recurses := true, apart := false, narrowed := true }
def FnCltuBackUptoSaid : Prop := fnCltuBackUptoRow.holds Try.pinned (OpenSpec.upto fnCltuBackSpec)

end Rows
end Go.Proofs.Ytlioeidipcdkcaa
