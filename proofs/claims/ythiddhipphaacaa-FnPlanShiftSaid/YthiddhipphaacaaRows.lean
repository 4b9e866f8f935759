/-
  No cell of these rows narrows 'for every input' (looked for: loops, veiled, ifaces, maps, wideKeys, modest, calm, conditions, laid).
  DERIVED. THE GIVEN ROWS OF THIS SEAT. 4 by the template 'for every input the law returns true; each argument reads behind the call as it read before'; 0 by the template 'total and deterministic' (their statements: YthiddhipphaacaaTotals.lean).
  GIVEN WITH THE SEED: the statements are not yours to turn. If you find one false, say at which input.
  Laid BY PROGRAM, IN A SANDBOX (cutbox-rows.mjs): the forced cells as the released guide's own fill.sh prints them over the translation 2670fcc74fb387a4… (all of the seat's roots in one cut). By AI agents, Wed Nov 11 2026. No macro, syntax, notation, axiom, sorry.
-/
import Derived.Test.YthiddhipphaacaaChecked
import GoSem.Claim
import GoSem.ClaimJoined
import GoSem.ClaimMapViews
import Derived.JoinedTies
import Derived.KernelRfl
namespace Go.Proofs.Ythiddhipphaacaa
/- THE CELL 'sum', in the pinned program and in every row, IS THE sha256 OF THE DUMP (.gsa) THAT YthiddhipphaacaaProg.lean LOADS. Nothing in Lean hashes anything: it is a label: what it is worth is what the hold of that sum in a sandbox is worth. -/
noncomputable def Try.pinned : Pinned := { name := "ythiddhipphaacaa", sum := "2670fcc74fb387a496fdc4ad89641261955f06477b5b790dfe74f6ba1fb7ae23", checked := Try.checked }
namespace Rows
def none {H : Type} : Left H := { results := [], args := [] }

/-- 'laws.FnPlanDrop': WHATEVER THE INPUT: true; the input reads as it did. -/
def fnPlanDropSpec : ChangeSpec := { name := "fnPlanDrop", fn := fun _ => fun
  | [d] => { results := [.lit (.bool true)], args := [d] }
  | _ => none }
def fnPlanDropRow : OpenClaim := { program := "ythiddhipphaacaa", sum := "2670fcc74fb387a496fdc4ad89641261955f06477b5b790dfe74f6ba1fb7ae23", func := "loop.example/skyway/laws.FnPlanDrop", spec := "fnPlanDrop", apart := false }
def FnPlanDropSaid : Prop := fnPlanDropRow.holds Try.pinned (OpenSpec.ofChange fnPlanDropSpec)

/-- ITS FALSE NEIGHBOUR: 'it returns false'. Refute it at one input. -/
def fnPlanDropWrong : ChangeSpec := { name := "fnPlanDrop", fn := fun _ => fun
  | [d] => { results := [.lit (.bool false)], args := [d] }
  | _ => none }
def FnPlanDropWrongFalsely : Prop := fnPlanDropRow.holds Try.pinned (OpenSpec.ofChange fnPlanDropWrong)

/-- 'laws.FnPlanShift': WHATEVER THE INPUT: true; the input reads as it did. -/
def fnPlanShiftSpec : ChangeSpec := { name := "fnPlanShift", fn := fun _ => fun
  | [d] => { results := [.lit (.bool true)], args := [d] }
  | _ => none }
def fnPlanShiftRow : OpenClaim := { program := "ythiddhipphaacaa", sum := "2670fcc74fb387a496fdc4ad89641261955f06477b5b790dfe74f6ba1fb7ae23", func := "loop.example/skyway/laws.FnPlanShift", spec := "fnPlanShift", apart := false }
def FnPlanShiftSaid : Prop := fnPlanShiftRow.holds Try.pinned (OpenSpec.ofChange fnPlanShiftSpec)

/-- ITS FALSE NEIGHBOUR: 'it returns false'. Refute it at one input. -/
def fnPlanShiftWrong : ChangeSpec := { name := "fnPlanShift", fn := fun _ => fun
  | [d] => { results := [.lit (.bool false)], args := [d] }
  | _ => none }
def FnPlanShiftWrongFalsely : Prop := fnPlanShiftRow.holds Try.pinned (OpenSpec.ofChange fnPlanShiftWrong)

/-- 'laws.FnExactPlanDrop': WHATEVER THE INPUT: true; the input reads as it did. -/
def fnExactPlanDropSpec : ChangeSpec := { name := "fnExactPlanDrop", fn := fun _ => fun
  | [d1, d2, d3] => { results := [.lit (.bool true)], args := [d1, d2, d3] }
  | _ => none }
def fnExactPlanDropRow : OpenClaim := { program := "ythiddhipphaacaa", sum := "2670fcc74fb387a496fdc4ad89641261955f06477b5b790dfe74f6ba1fb7ae23", func := "loop.example/skyway/laws.FnExactPlanDrop", spec := "fnExactPlanDrop", apart := false }
def FnExactPlanDropSaid : Prop := fnExactPlanDropRow.holds Try.pinned (OpenSpec.ofChange fnExactPlanDropSpec)

/-- ITS FALSE NEIGHBOUR: 'it returns false'. Refute it at one input. -/
def fnExactPlanDropWrong : ChangeSpec := { name := "fnExactPlanDrop", fn := fun _ => fun
  | [d1, d2, d3] => { results := [.lit (.bool false)], args := [d1, d2, d3] }
  | _ => none }
def FnExactPlanDropWrongFalsely : Prop := fnExactPlanDropRow.holds Try.pinned (OpenSpec.ofChange fnExactPlanDropWrong)

/-- 'laws.FnExactPlanShift': WHATEVER THE INPUT: true; the input reads as it did. -/
def fnExactPlanShiftSpec : ChangeSpec := { name := "fnExactPlanShift", fn := fun _ => fun
  | [d1, d2, d3] => { results := [.lit (.bool true)], args := [d1, d2, d3] }
  | _ => none }
def fnExactPlanShiftRow : OpenClaim := { program := "ythiddhipphaacaa", sum := "2670fcc74fb387a496fdc4ad89641261955f06477b5b790dfe74f6ba1fb7ae23", func := "loop.example/skyway/laws.FnExactPlanShift", spec := "fnExactPlanShift", apart := false }
def FnExactPlanShiftSaid : Prop := fnExactPlanShiftRow.holds Try.pinned (OpenSpec.ofChange fnExactPlanShiftSpec)

/-- ITS FALSE NEIGHBOUR: 'it returns false'. Refute it at one input. -/
def fnExactPlanShiftWrong : ChangeSpec := { name := "fnExactPlanShift", fn := fun _ => fun
  | [d1, d2, d3] => { results := [.lit (.bool false)], args := [d1, d2, d3] }
  | _ => none }
def FnExactPlanShiftWrongFalsely : Prop := fnExactPlanShiftRow.holds Try.pinned (OpenSpec.ofChange fnExactPlanShiftWrong)

/- THE SECOND FORM. 'bulk': how many values and letters a reading holds, each counted each time it is reached (what is shared counts as often as it is met; a slice's spare places count too). A statement '..UptoSaid' is the law's where the arguments, and the package variables that the reading takes, are together of bulk at most 1048576: NARROWER than '..Said'. Prove '..Said' where nothing that the law and all that it calls make is longer than what came in: it says more and counts as full. Else prove '..UptoSaid'. A law counts once. -/
mutual
def uptoBulk {H : Type} : DataW H → Nat
  | .lit (.string bytes) => bytes.length + 1
  | .lit _ => 1
  | .nil => 1
  | .ptr d => uptoBulk d + 1
  | .slice elems spare => uptoBulkAll elems + uptoBulkAll spare + 1
  | .agg parts => uptoBulkAll parts + 1
  | .iface _ d => uptoBulk d + 1
  | .map entries => uptoBulkEntries entries + 1
  | .held _ => 1
def uptoBulkAll {H : Type} : List (DataW H) → Nat
  | [] => 0
  | d :: r => uptoBulk d + uptoBulkAll r
def uptoBulkEntries {H : Type} : List (Lit × DataW H) → Nat
  | [] => 0
  | x :: r => uptoBulkEntry x + uptoBulkEntries r
def uptoBulkEntry {H : Type} : Lit × DataW H → Nat
  | (.string bytes, d) => bytes.length + uptoBulk d + 1
  | (_, d) => uptoBulk d + 1
 end
def uptoSmall : (H : Type) → List (DataW H) → Bool := fun _ ds => decide (uptoBulkAll ds ≤ 1048576)
def OpenSpec.upto (s : _root_.Go.ChangeSpec) : _root_.Go.OpenSpec := { _root_.Go.OpenSpec.ofChange s with cond := some uptoSmall }

/-- 'laws.FnPlanDrop', WHERE WHAT IT READS IS OF BULK AT MOST 1048576: true; the input reads as it did. -/
def fnPlanDropUptoRow : OpenClaim := { program := "ythiddhipphaacaa", sum := "2670fcc74fb387a496fdc4ad89641261955f06477b5b790dfe74f6ba1fb7ae23", func := "loop.example/skyway/laws.FnPlanDrop", spec := "fnPlanDrop", apart := false, narrowed := true }
def FnPlanDropUptoSaid : Prop := fnPlanDropUptoRow.holds Try.pinned (OpenSpec.upto fnPlanDropSpec)

/-- 'laws.FnPlanShift', WHERE WHAT IT READS IS OF BULK AT MOST 1048576: true; the input reads as it did. -/
def fnPlanShiftUptoRow : OpenClaim := { program := "ythiddhipphaacaa", sum := "2670fcc74fb387a496fdc4ad89641261955f06477b5b790dfe74f6ba1fb7ae23", func := "loop.example/skyway/laws.FnPlanShift", spec := "fnPlanShift", apart := false, narrowed := true }
def FnPlanShiftUptoSaid : Prop := fnPlanShiftUptoRow.holds Try.pinned (OpenSpec.upto fnPlanShiftSpec)

/-- 'laws.FnExactPlanDrop', WHERE WHAT IT READS IS OF BULK AT MOST 1048576: true; the input reads as it did. -/
def fnExactPlanDropUptoRow : OpenClaim := { program := "ythiddhipphaacaa", sum := "2670fcc74fb387a496fdc4ad89641261955f06477b5b790dfe74f6ba1fb7ae23", func := "loop.example/skyway/laws.FnExactPlanDrop", spec := "fnExactPlanDrop", apart := false, narrowed := true }
def FnExactPlanDropUptoSaid : Prop := fnExactPlanDropUptoRow.holds Try.pinned (OpenSpec.upto fnExactPlanDropSpec)

/-- 'laws.FnExactPlanShift', WHERE WHAT IT READS IS OF BULK AT MOST 1048576: true; the input reads as it did. -/
def fnExactPlanShiftUptoRow : OpenClaim := { program := "ythiddhipphaacaa", sum := "2670fcc74fb387a496fdc4ad89641261955f06477b5b790dfe74f6ba1fb7ae23", func := "loop.example/skyway/laws.FnExactPlanShift", spec := "fnExactPlanShift", apart := false, narrowed := true }
def FnExactPlanShiftUptoSaid : Prop := fnExactPlanShiftUptoRow.holds Try.pinned (OpenSpec.upto fnExactPlanShiftSpec)

end Rows
end Go.Proofs.Ythiddhipphaacaa
