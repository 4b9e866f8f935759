/-
  No cell of these rows narrows 'for every input' (looked for: loops, veiled, ifaces, maps, wideKeys, modest, calm, conditions, laid).
  DERIVED. THE GIVEN ROWS OF THIS SEAT. 11 by the template 'for every input the law returns true; each argument reads behind the call as it read before'; 0 by the template 'total and deterministic' (their statements: YtclhopldchndiaaTotals.lean).
  GIVEN WITH THE SEED: the statements are not yours to turn. If you find one false, say at which input.
  Laid BY PROGRAM, IN A SANDBOX (cutbox-rows.mjs): the forced cells as the released guide's own fill.sh prints them over the translation 76729a1685f7c561… (all of the seat's roots in one cut). By AI agents, Wed Nov 11 2026. No macro, syntax, notation, axiom, sorry.
-/
import Derived.Test.YtclhopldchndiaaChecked
import GoSem.Claim
import GoSem.ClaimJoined
import GoSem.ClaimMapViews
import Derived.JoinedTies
import Derived.KernelRfl
namespace Go.Proofs.Ytclhopldchndiaa
/- THE CELL 'sum', in the pinned program and in every row, IS THE sha256 OF THE DUMP (.gsa) THAT YtclhopldchndiaaProg.lean LOADS. Nothing in Lean hashes anything: it is a label: what it is worth is what the hold of that sum in a sandbox is worth. -/
noncomputable def Try.pinned : Pinned := { name := "ytclhopldchndiaa", sum := "76729a1685f7c5618a6f63785cf7e42d6648631cf56c78184d677fa046da3d53", checked := Try.checked }
namespace Rows
def none {H : Type} : Left H := { results := [], args := [] }

/-- 'laws.FnExactFarmPut': WHATEVER THE INPUT: true; the input reads as it did. -/
def fnExactFarmPutSpec : ChangeSpec := { name := "fnExactFarmPut", fn := fun _ => fun
  | [d] => { results := [.lit (.bool true)], args := [d] }
  | _ => none }
def fnExactFarmPutRow : OpenClaim := { program := "ytclhopldchndiaa", sum := "76729a1685f7c5618a6f63785cf7e42d6648631cf56c78184d677fa046da3d53", func := "loop.example/skyway/laws.FnExactFarmPut", spec := "fnExactFarmPut", apart := false }
def FnExactFarmPutSaid : Prop := fnExactFarmPutRow.holds Try.pinned (OpenSpec.ofChange fnExactFarmPutSpec)

/-- ITS FALSE NEIGHBOUR: 'it returns false'. Refute it at one input. -/
def fnExactFarmPutWrong : ChangeSpec := { name := "fnExactFarmPut", fn := fun _ => fun
  | [d] => { results := [.lit (.bool false)], args := [d] }
  | _ => none }
def FnExactFarmPutWrongFalsely : Prop := fnExactFarmPutRow.holds Try.pinned (OpenSpec.ofChange fnExactFarmPutWrong)

/-- 'laws.FnBch': WHATEVER THE INPUT: true; the input reads as it did. -/
def fnBchSpec : ChangeSpec := { name := "fnBch", fn := fun _ => fun
  | [d1, d2] => { results := [.lit (.bool true)], args := [d1, d2] }
  | _ => none }
def fnBchRow : OpenClaim := { program := "ytclhopldchndiaa", sum := "76729a1685f7c5618a6f63785cf7e42d6648631cf56c78184d677fa046da3d53", func := "loop.example/skyway/laws.FnBch", spec := "fnBch", apart := false }
def FnBchSaid : Prop := fnBchRow.holds Try.pinned (OpenSpec.ofChange fnBchSpec)

/-- ITS FALSE NEIGHBOUR: 'it returns false'. Refute it at one input. -/
def fnBchWrong : ChangeSpec := { name := "fnBch", fn := fun _ => fun
  | [d1, d2] => { results := [.lit (.bool false)], args := [d1, d2] }
  | _ => none }
def FnBchWrongFalsely : Prop := fnBchRow.holds Try.pinned (OpenSpec.ofChange fnBchWrong)

/-- 'laws.FnExactFarmSet': WHATEVER THE INPUT: true; the input reads as it did. -/
def fnExactFarmSetSpec : ChangeSpec := { name := "fnExactFarmSet", fn := fun _ => fun
  | [d1, d2, d3] => { results := [.lit (.bool true)], args := [d1, d2, d3] }
  | _ => none }
def fnExactFarmSetRow : OpenClaim := { program := "ytclhopldchndiaa", sum := "76729a1685f7c5618a6f63785cf7e42d6648631cf56c78184d677fa046da3d53", func := "loop.example/skyway/laws.FnExactFarmSet", spec := "fnExactFarmSet", apart := false }
def FnExactFarmSetSaid : Prop := fnExactFarmSetRow.holds Try.pinned (OpenSpec.ofChange fnExactFarmSetSpec)

/-- ITS FALSE NEIGHBOUR: 'it returns false'. Refute it at one input. -/
def fnExactFarmSetWrong : ChangeSpec := { name := "fnExactFarmSet", fn := fun _ => fun
  | [d1, d2, d3] => { results := [.lit (.bool false)], args := [d1, d2, d3] }
  | _ => none }
def FnExactFarmSetWrongFalsely : Prop := fnExactFarmSetRow.holds Try.pinned (OpenSpec.ofChange fnExactFarmSetWrong)

/-- 'laws.FnExactRulesOk': WHATEVER THE INPUT: true; the input reads as it did. -/
def fnExactRulesOkSpec : ChangeSpec := { name := "fnExactRulesOk", fn := fun _ => fun
  | [d] => { results := [.lit (.bool true)], args := [d] }
  | _ => none }
def fnExactRulesOkRow : OpenClaim := { program := "ytclhopldchndiaa", sum := "76729a1685f7c5618a6f63785cf7e42d6648631cf56c78184d677fa046da3d53", func := "loop.example/skyway/laws.FnExactRulesOk", spec := "fnExactRulesOk", apart := false }
def FnExactRulesOkSaid : Prop := fnExactRulesOkRow.holds Try.pinned (OpenSpec.ofChange fnExactRulesOkSpec)

/-- ITS FALSE NEIGHBOUR: 'it returns false'. Refute it at one input. -/
def fnExactRulesOkWrong : ChangeSpec := { name := "fnExactRulesOk", fn := fun _ => fun
  | [d] => { results := [.lit (.bool false)], args := [d] }
  | _ => none }
def FnExactRulesOkWrongFalsely : Prop := fnExactRulesOkRow.holds Try.pinned (OpenSpec.ofChange fnExactRulesOkWrong)

/-- 'laws.FnExactFopOk': WHATEVER THE INPUT: true; the input reads as it did. -/
def fnExactFopOkSpec : ChangeSpec := { name := "fnExactFopOk", fn := fun _ => fun
  | [d] => { results := [.lit (.bool true)], args := [d] }
  | _ => none }
def fnExactFopOkRow : OpenClaim := { program := "ytclhopldchndiaa", sum := "76729a1685f7c5618a6f63785cf7e42d6648631cf56c78184d677fa046da3d53", func := "loop.example/skyway/laws.FnExactFopOk", spec := "fnExactFopOk", apart := false }
def FnExactFopOkSaid : Prop := fnExactFopOkRow.holds Try.pinned (OpenSpec.ofChange fnExactFopOkSpec)

/-- ITS FALSE NEIGHBOUR: 'it returns false'. Refute it at one input. -/
def fnExactFopOkWrong : ChangeSpec := { name := "fnExactFopOk", fn := fun _ => fun
  | [d] => { results := [.lit (.bool false)], args := [d] }
  | _ => none }
def FnExactFopOkWrongFalsely : Prop := fnExactFopOkRow.holds Try.pinned (OpenSpec.ofChange fnExactFopOkWrong)

/-- 'laws.FnNum': WHATEVER THE INPUT: true; the input reads as it did. -/
def fnNumSpec : ChangeSpec := { name := "fnNum", fn := fun _ => fun
  | [d1, d2] => { results := [.lit (.bool true)], args := [d1, d2] }
  | _ => none }
def fnNumRow : OpenClaim := { program := "ytclhopldchndiaa", sum := "76729a1685f7c5618a6f63785cf7e42d6648631cf56c78184d677fa046da3d53", func := "loop.example/skyway/laws.FnNum", spec := "fnNum", apart := false }
def FnNumSaid : Prop := fnNumRow.holds Try.pinned (OpenSpec.ofChange fnNumSpec)

/-- ITS FALSE NEIGHBOUR: 'it returns false'. Refute it at one input. -/
def fnNumWrong : ChangeSpec := { name := "fnNum", fn := fun _ => fun
  | [d1, d2] => { results := [.lit (.bool false)], args := [d1, d2] }
  | _ => none }
def FnNumWrongFalsely : Prop := fnNumRow.holds Try.pinned (OpenSpec.ofChange fnNumWrong)

/-- 'laws.FnExactFarmGet': WHATEVER THE INPUT: true; the input reads as it did. -/
def fnExactFarmGetSpec : ChangeSpec := { name := "fnExactFarmGet", fn := fun _ => fun
  | [d] => { results := [.lit (.bool true)], args := [d] }
  | _ => none }
def fnExactFarmGetRow : OpenClaim := { program := "ytclhopldchndiaa", sum := "76729a1685f7c5618a6f63785cf7e42d6648631cf56c78184d677fa046da3d53", func := "loop.example/skyway/laws.FnExactFarmGet", spec := "fnExactFarmGet", apart := false }
def FnExactFarmGetSaid : Prop := fnExactFarmGetRow.holds Try.pinned (OpenSpec.ofChange fnExactFarmGetSpec)

/-- ITS FALSE NEIGHBOUR: 'it returns false'. Refute it at one input. -/
def fnExactFarmGetWrong : ChangeSpec := { name := "fnExactFarmGet", fn := fun _ => fun
  | [d] => { results := [.lit (.bool false)], args := [d] }
  | _ => none }
def FnExactFarmGetWrongFalsely : Prop := fnExactFarmGetRow.holds Try.pinned (OpenSpec.ofChange fnExactFarmGetWrong)

/-- 'laws.FnExactPlanOk': WHATEVER THE INPUT: true; the input reads as it did. -/
def fnExactPlanOkSpec : ChangeSpec := { name := "fnExactPlanOk", fn := fun _ => fun
  | [d] => { results := [.lit (.bool true)], args := [d] }
  | _ => none }
def fnExactPlanOkRow : OpenClaim := { program := "ytclhopldchndiaa", sum := "76729a1685f7c5618a6f63785cf7e42d6648631cf56c78184d677fa046da3d53", func := "loop.example/skyway/laws.FnExactPlanOk", spec := "fnExactPlanOk", apart := false }
def FnExactPlanOkSaid : Prop := fnExactPlanOkRow.holds Try.pinned (OpenSpec.ofChange fnExactPlanOkSpec)

/-- ITS FALSE NEIGHBOUR: 'it returns false'. Refute it at one input. -/
def fnExactPlanOkWrong : ChangeSpec := { name := "fnExactPlanOk", fn := fun _ => fun
  | [d] => { results := [.lit (.bool false)], args := [d] }
  | _ => none }
def FnExactPlanOkWrongFalsely : Prop := fnExactPlanOkRow.holds Try.pinned (OpenSpec.ofChange fnExactPlanOkWrong)

/-- 'laws.FnExactFopFirst': WHATEVER THE INPUT: true; the input reads as it did. -/
def fnExactFopFirstSpec : ChangeSpec := { name := "fnExactFopFirst", fn := fun _ => fun
  | [d] => { results := [.lit (.bool true)], args := [d] }
  | _ => none }
def fnExactFopFirstRow : OpenClaim := { program := "ytclhopldchndiaa", sum := "76729a1685f7c5618a6f63785cf7e42d6648631cf56c78184d677fa046da3d53", func := "loop.example/skyway/laws.FnExactFopFirst", spec := "fnExactFopFirst", apart := false }
def FnExactFopFirstSaid : Prop := fnExactFopFirstRow.holds Try.pinned (OpenSpec.ofChange fnExactFopFirstSpec)

/-- ITS FALSE NEIGHBOUR: 'it returns false'. Refute it at one input. -/
def fnExactFopFirstWrong : ChangeSpec := { name := "fnExactFopFirst", fn := fun _ => fun
  | [d] => { results := [.lit (.bool false)], args := [d] }
  | _ => none }
def FnExactFopFirstWrongFalsely : Prop := fnExactFopFirstRow.holds Try.pinned (OpenSpec.ofChange fnExactFopFirstWrong)

/-- 'laws.FnFarmText': WHATEVER THE INPUT: true; the input reads as it did. -/
def fnFarmTextSpec : ChangeSpec := { name := "fnFarmText", fn := fun _ => fun
  | [d1, d2] => { results := [.lit (.bool true)], args := [d1, d2] }
  | _ => none }
def fnFarmTextRow : OpenClaim := { program := "ytclhopldchndiaa", sum := "76729a1685f7c5618a6f63785cf7e42d6648631cf56c78184d677fa046da3d53", func := "loop.example/skyway/laws.FnFarmText", spec := "fnFarmText", apart := false }
def FnFarmTextSaid : Prop := fnFarmTextRow.holds Try.pinned (OpenSpec.ofChange fnFarmTextSpec)

/-- ITS FALSE NEIGHBOUR: 'it returns false'. Refute it at one input. -/
def fnFarmTextWrong : ChangeSpec := { name := "fnFarmText", fn := fun _ => fun
  | [d1, d2] => { results := [.lit (.bool false)], args := [d1, d2] }
  | _ => none }
def FnFarmTextWrongFalsely : Prop := fnFarmTextRow.holds Try.pinned (OpenSpec.ofChange fnFarmTextWrong)

/-- 'laws.FnFopAgain': WHATEVER THE INPUT: true; the input reads as it did. -/
def fnFopAgainSpec : ChangeSpec := { name := "fnFopAgain", fn := fun _ => fun
  | [d] => { results := [.lit (.bool true)], args := [d] }
  | _ => none }
def fnFopAgainRow : OpenClaim := { program := "ytclhopldchndiaa", sum := "76729a1685f7c5618a6f63785cf7e42d6648631cf56c78184d677fa046da3d53", func := "loop.example/skyway/laws.FnFopAgain", spec := "fnFopAgain", apart := false }
def FnFopAgainSaid : Prop := fnFopAgainRow.holds Try.pinned (OpenSpec.ofChange fnFopAgainSpec)

/-- ITS FALSE NEIGHBOUR: 'it returns false'. Refute it at one input. -/
def fnFopAgainWrong : ChangeSpec := { name := "fnFopAgain", fn := fun _ => fun
  | [d] => { results := [.lit (.bool false)], args := [d] }
  | _ => none }
def FnFopAgainWrongFalsely : Prop := fnFopAgainRow.holds Try.pinned (OpenSpec.ofChange fnFopAgainWrong)

/- THE SECOND FORM. 'bulk': how many values and letters a reading holds, each counted each time it is reached (what is shared counts as often as it is met; a slice's spare places count too). A statement '..UptoSaid' is the law's where the arguments, and the package variables that the reading takes, are together of bulk at most 1048576: NARROWER than '..Said'. Prove '..Said' where nothing that the law and all that it calls make is longer than what came in: it says more and counts as full. Else prove '..UptoSaid'. A law counts once. -/
mutual
def uptoBulk {H : Type} : DataW H → Nat
  | .lit (.string bytes) => bytes.length + 1
  | .lit _ => 1
  | .nil => 1
  | .ptr d => uptoBulk d + 1
  | .slice elems spare => uptoBulkAll elems + uptoBulkAll spare + 1
  | .agg parts => uptoBulkAll parts + 1
  | .iface _ d => uptoBulk d + 1
  | .map entries => uptoBulkEntries entries + 1
  | .held _ => 1
def uptoBulkAll {H : Type} : List (DataW H) → Nat
  | [] => 0
  | d :: r => uptoBulk d + uptoBulkAll r
def uptoBulkEntries {H : Type} : List (Lit × DataW H) → Nat
  | [] => 0
  | x :: r => uptoBulkEntry x + uptoBulkEntries r
def uptoBulkEntry {H : Type} : Lit × DataW H → Nat
  | (.string bytes, d) => bytes.length + uptoBulk d + 1
  | (_, d) => uptoBulk d + 1
 end
def uptoSmall : (H : Type) → List (DataW H) → Bool := fun _ ds => decide (uptoBulkAll ds ≤ 1048576)
def OpenSpec.upto (s : _root_.Go.ChangeSpec) : _root_.Go.OpenSpec := { _root_.Go.OpenSpec.ofChange s with cond := some uptoSmall }

/-- 'laws.FnExactFarmPut', WHERE WHAT IT READS IS OF BULK AT MOST 1048576: true; the input reads as it did. -/
def fnExactFarmPutUptoRow : OpenClaim := { program := "ytclhopldchndiaa", sum := "76729a1685f7c5618a6f63785cf7e42d6648631cf56c78184d677fa046da3d53", func := "loop.example/skyway/laws.FnExactFarmPut", spec := "fnExactFarmPut", apart := false, narrowed := true }
def FnExactFarmPutUptoSaid : Prop := fnExactFarmPutUptoRow.holds Try.pinned (OpenSpec.upto fnExactFarmPutSpec)

/-- 'laws.FnBch', WHERE WHAT IT READS IS OF BULK AT MOST 1048576: true; the input reads as it did. -/
def fnBchUptoRow : OpenClaim := { program := "ytclhopldchndiaa", sum := "76729a1685f7c5618a6f63785cf7e42d6648631cf56c78184d677fa046da3d53", func := "loop.example/skyway/laws.FnBch", spec := "fnBch", apart := false, narrowed := true }
def FnBchUptoSaid : Prop := fnBchUptoRow.holds Try.pinned (OpenSpec.upto fnBchSpec)

/-- 'laws.FnExactFarmSet', WHERE WHAT IT READS IS OF BULK AT MOST 1048576: true; the input reads as it did. -/
def fnExactFarmSetUptoRow : OpenClaim := { program := "ytclhopldchndiaa", sum := "76729a1685f7c5618a6f63785cf7e42d6648631cf56c78184d677fa046da3d53", func := "loop.example/skyway/laws.FnExactFarmSet", spec := "fnExactFarmSet", apart := false, narrowed := true }
def FnExactFarmSetUptoSaid : Prop := fnExactFarmSetUptoRow.holds Try.pinned (OpenSpec.upto fnExactFarmSetSpec)

/-- 'laws.FnExactRulesOk', WHERE WHAT IT READS IS OF BULK AT MOST 1048576: true; the input reads as it did. -/
def fnExactRulesOkUptoRow : OpenClaim := { program := "ytclhopldchndiaa", sum := "76729a1685f7c5618a6f63785cf7e42d6648631cf56c78184d677fa046da3d53", func := "loop.example/skyway/laws.FnExactRulesOk", spec := "fnExactRulesOk", apart := false, narrowed := true }
def FnExactRulesOkUptoSaid : Prop := fnExactRulesOkUptoRow.holds Try.pinned (OpenSpec.upto fnExactRulesOkSpec)

/-- 'laws.FnExactFopOk', WHERE WHAT IT READS IS OF BULK AT MOST 1048576: true; the input reads as it did. -/
def fnExactFopOkUptoRow : OpenClaim := { program := "ytclhopldchndiaa", sum := "76729a1685f7c5618a6f63785cf7e42d6648631cf56c78184d677fa046da3d53", func := "loop.example/skyway/laws.FnExactFopOk", spec := "fnExactFopOk", apart := false, narrowed := true }
def FnExactFopOkUptoSaid : Prop := fnExactFopOkUptoRow.holds Try.pinned (OpenSpec.upto fnExactFopOkSpec)

/-- 'laws.FnNum', WHERE WHAT IT READS IS OF BULK AT MOST 1048576: true; the input reads as it did. -/
def fnNumUptoRow : OpenClaim := { program := "ytclhopldchndiaa", sum := "76729a1685f7c5618a6f63785cf7e42d6648631cf56c78184d677fa046da3d53", func := "loop.example/skyway/laws.FnNum", spec := "fnNum", apart := false, narrowed := true }
def FnNumUptoSaid : Prop := fnNumUptoRow.holds Try.pinned (OpenSpec.upto fnNumSpec)

/-- 'laws.FnExactFarmGet', WHERE WHAT IT READS IS OF BULK AT MOST 1048576: true; the input reads as it did. -/
def fnExactFarmGetUptoRow : OpenClaim := { program := "ytclhopldchndiaa", sum := "76729a1685f7c5618a6f63785cf7e42d6648631cf56c78184d677fa046da3d53", func := "loop.example/skyway/laws.FnExactFarmGet", spec := "fnExactFarmGet", apart := false, narrowed := true }
def FnExactFarmGetUptoSaid : Prop := fnExactFarmGetUptoRow.holds Try.pinned (OpenSpec.upto fnExactFarmGetSpec)

/-- 'laws.FnExactPlanOk', WHERE WHAT IT READS IS OF BULK AT MOST 1048576: true; the input reads as it did. -/
def fnExactPlanOkUptoRow : OpenClaim := { program := "ytclhopldchndiaa", sum := "76729a1685f7c5618a6f63785cf7e42d6648631cf56c78184d677fa046da3d53", func := "loop.example/skyway/laws.FnExactPlanOk", spec := "fnExactPlanOk", apart := false, narrowed := true }
def FnExactPlanOkUptoSaid : Prop := fnExactPlanOkUptoRow.holds Try.pinned (OpenSpec.upto fnExactPlanOkSpec)

/-- 'laws.FnExactFopFirst', WHERE WHAT IT READS IS OF BULK AT MOST 1048576: true; the input reads as it did. -/
def fnExactFopFirstUptoRow : OpenClaim := { program := "ytclhopldchndiaa", sum := "76729a1685f7c5618a6f63785cf7e42d6648631cf56c78184d677fa046da3d53", func := "loop.example/skyway/laws.FnExactFopFirst", spec := "fnExactFopFirst", apart := false, narrowed := true }
def FnExactFopFirstUptoSaid : Prop := fnExactFopFirstUptoRow.holds Try.pinned (OpenSpec.upto fnExactFopFirstSpec)

/-- 'laws.FnFarmText', WHERE WHAT IT READS IS OF BULK AT MOST 1048576: true; the input reads as it did. -/
def fnFarmTextUptoRow : OpenClaim := { program := "ytclhopldchndiaa", sum := "76729a1685f7c5618a6f63785cf7e42d6648631cf56c78184d677fa046da3d53", func := "loop.example/skyway/laws.FnFarmText", spec := "fnFarmText", apart := false, narrowed := true }
def FnFarmTextUptoSaid : Prop := fnFarmTextUptoRow.holds Try.pinned (OpenSpec.upto fnFarmTextSpec)

/-- 'laws.FnFopAgain', WHERE WHAT IT READS IS OF BULK AT MOST 1048576: true; the input reads as it did. -/
def fnFopAgainUptoRow : OpenClaim := { program := "ytclhopldchndiaa", sum := "76729a1685f7c5618a6f63785cf7e42d6648631cf56c78184d677fa046da3d53", func := "loop.example/skyway/laws.FnFopAgain", spec := "fnFopAgain", apart := false, narrowed := true }
def FnFopAgainUptoSaid : Prop := fnFopAgainUptoRow.holds Try.pinned (OpenSpec.upto fnFopAgainSpec)

end Rows
end Go.Proofs.Ytclhopldchndiaa
