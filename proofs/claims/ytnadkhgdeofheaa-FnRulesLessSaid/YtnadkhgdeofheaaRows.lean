/-
  No cell of these rows narrows 'for every input' (looked for: loops, veiled, ifaces, maps, wideKeys, modest, calm, conditions, laid).
  DERIVED. THE GIVEN ROWS OF THIS SEAT. 4 by the template 'for every input the law returns true; each argument reads behind the call as it read before'; 0 by the template 'total and deterministic' (their statements: YtnadkhgdeofheaaTotals.lean).
  GIVEN WITH THE SEED: the statements are not yours to turn. If you find one false, say at which input.
  Laid BY PROGRAM, IN A SANDBOX (cutbox-rows.mjs): the forced cells as the released guide's own fill.sh prints them over the translation 0e1ae259a19af15e… (all of the seat's roots in one cut). By AI agents, Wed Nov 11 2026. No macro, syntax, notation, axiom, sorry.
-/
import Derived.Test.YtnadkhgdeofheaaChecked
import GoSem.Claim
import GoSem.ClaimJoined
import GoSem.ClaimMapViews
import Derived.JoinedTies
import Derived.KernelRfl
namespace Go.Proofs.Ytnadkhgdeofheaa
/- THE CELL 'sum', in the pinned program and in every row, IS THE sha256 OF THE DUMP (.gsa) THAT YtnadkhgdeofheaaProg.lean LOADS. Nothing in Lean hashes anything: it is a label: what it is worth is what the hold of that sum in a sandbox is worth. -/
noncomputable def Try.pinned : Pinned := { name := "ytnadkhgdeofheaa", sum := "0e1ae259a19af15e13cba8cf5b22f70444bda8888ebcb1f66acbf2714d604cad", checked := Try.checked }
namespace Rows
def none {H : Type} : Left H := { results := [], args := [] }

/-- 'laws.FnRulesLet': WHATEVER THE INPUT: true; the input reads as it did. -/
def fnRulesLetSpec : ChangeSpec := { name := "fnRulesLet", fn := fun _ => fun
  | [d1, d2] => { results := [.lit (.bool true)], args := [d1, d2] }
  | _ => none }
def fnRulesLetRow : OpenClaim := { program := "ytnadkhgdeofheaa", sum := "0e1ae259a19af15e13cba8cf5b22f70444bda8888ebcb1f66acbf2714d604cad", func := "loop.example/skyway/laws.FnRulesLet", spec := "fnRulesLet", plainKeys := false, apart := false }
def FnRulesLetSaid : Prop := fnRulesLetRow.holds Try.pinned (OpenSpec.ofChange fnRulesLetSpec)

/-- ITS FALSE NEIGHBOUR: 'it returns false'. Refute it at one input. -/
def fnRulesLetWrong : ChangeSpec := { name := "fnRulesLet", fn := fun _ => fun
  | [d1, d2] => { results := [.lit (.bool false)], args := [d1, d2] }
  | _ => none }
def FnRulesLetWrongFalsely : Prop := fnRulesLetRow.holds Try.pinned (OpenSpec.ofChange fnRulesLetWrong)

/-- 'laws.FnExactRulesLet': WHATEVER THE INPUT: true; the input reads as it did. -/
def fnExactRulesLetSpec : ChangeSpec := { name := "fnExactRulesLet", fn := fun _ => fun
  | [d1, d2, d3] => { results := [.lit (.bool true)], args := [d1, d2, d3] }
  | _ => none }
def fnExactRulesLetRow : OpenClaim := { program := "ytnadkhgdeofheaa", sum := "0e1ae259a19af15e13cba8cf5b22f70444bda8888ebcb1f66acbf2714d604cad", func := "loop.example/skyway/laws.FnExactRulesLet", spec := "fnExactRulesLet", plainKeys := false, apart := false }
def FnExactRulesLetSaid : Prop := fnExactRulesLetRow.holds Try.pinned (OpenSpec.ofChange fnExactRulesLetSpec)

/-- ITS FALSE NEIGHBOUR: 'it returns false'. Refute it at one input. -/
def fnExactRulesLetWrong : ChangeSpec := { name := "fnExactRulesLet", fn := fun _ => fun
  | [d1, d2, d3] => { results := [.lit (.bool false)], args := [d1, d2, d3] }
  | _ => none }
def FnExactRulesLetWrongFalsely : Prop := fnExactRulesLetRow.holds Try.pinned (OpenSpec.ofChange fnExactRulesLetWrong)

/-- 'laws.FnRulesLess': WHATEVER THE INPUT: true; the input reads as it did. -/
def fnRulesLessSpec : ChangeSpec := { name := "fnRulesLess", fn := fun _ => fun
  | [d1, d2] => { results := [.lit (.bool true)], args := [d1, d2] }
  | _ => none }
def fnRulesLessRow : OpenClaim := { program := "ytnadkhgdeofheaa", sum := "0e1ae259a19af15e13cba8cf5b22f70444bda8888ebcb1f66acbf2714d604cad", func := "loop.example/skyway/laws.FnRulesLess", spec := "fnRulesLess", plainKeys := false, apart := false }
def FnRulesLessSaid : Prop := fnRulesLessRow.holds Try.pinned (OpenSpec.ofChange fnRulesLessSpec)

/-- ITS FALSE NEIGHBOUR: 'it returns false'. Refute it at one input. -/
def fnRulesLessWrong : ChangeSpec := { name := "fnRulesLess", fn := fun _ => fun
  | [d1, d2] => { results := [.lit (.bool false)], args := [d1, d2] }
  | _ => none }
def FnRulesLessWrongFalsely : Prop := fnRulesLessRow.holds Try.pinned (OpenSpec.ofChange fnRulesLessWrong)

/-- 'laws.FnExactRulesLess': WHATEVER THE INPUT: true; the input reads as it did. -/
def fnExactRulesLessSpec : ChangeSpec := { name := "fnExactRulesLess", fn := fun _ => fun
  | [d] => { results := [.lit (.bool true)], args := [d] }
  | _ => none }
def fnExactRulesLessRow : OpenClaim := { program := "ytnadkhgdeofheaa", sum := "0e1ae259a19af15e13cba8cf5b22f70444bda8888ebcb1f66acbf2714d604cad", func := "loop.example/skyway/laws.FnExactRulesLess", spec := "fnExactRulesLess", plainKeys := false, apart := false }
def FnExactRulesLessSaid : Prop := fnExactRulesLessRow.holds Try.pinned (OpenSpec.ofChange fnExactRulesLessSpec)

/-- ITS FALSE NEIGHBOUR: 'it returns false'. Refute it at one input. -/
def fnExactRulesLessWrong : ChangeSpec := { name := "fnExactRulesLess", fn := fun _ => fun
  | [d] => { results := [.lit (.bool false)], args := [d] }
  | _ => none }
def FnExactRulesLessWrongFalsely : Prop := fnExactRulesLessRow.holds Try.pinned (OpenSpec.ofChange fnExactRulesLessWrong)

/- THE SECOND FORM. 'bulk': how many values and letters a reading holds, each counted each time it is reached (what is shared counts as often as it is met; a slice's spare places count too). A statement '..UptoSaid' is the law's where the arguments, and the package variables that the reading takes, are together of bulk at most 1048576: NARROWER than '..Said'. Prove '..Said' where nothing that the law and all that it calls make is longer than what came in: it says more and counts as full. Else prove '..UptoSaid'. A law counts once. -/
mutual
def uptoBulk {H : Type} : DataW H → Nat
  | .lit (.string bytes) => bytes.length + 1
  | .lit _ => 1
  | .nil => 1
  | .ptr d => uptoBulk d + 1
  | .slice elems spare => uptoBulkAll elems + uptoBulkAll spare + 1
  | .agg parts => uptoBulkAll parts + 1
  | .iface _ d => uptoBulk d + 1
  | .map entries => uptoBulkEntries entries + 1
  | .held _ => 1
def uptoBulkAll {H : Type} : List (DataW H) → Nat
  | [] => 0
  | d :: r => uptoBulk d + uptoBulkAll r
def uptoBulkEntries {H : Type} : List (Lit × DataW H) → Nat
  | [] => 0
  | x :: r => uptoBulkEntry x + uptoBulkEntries r
def uptoBulkEntry {H : Type} : Lit × DataW H → Nat
  | (.string bytes, d) => bytes.length + uptoBulk d + 1
  | (_, d) => uptoBulk d + 1
 end
def uptoSmall : (H : Type) → List (DataW H) → Bool := fun _ ds => decide (uptoBulkAll ds ≤ 1048576)
def OpenSpec.upto (s : _root_.Go.ChangeSpec) : _root_.Go.OpenSpec := { _root_.Go.OpenSpec.ofChange s with cond := some uptoSmall }

/-- 'laws.FnRulesLet', WHERE WHAT IT READS IS OF BULK AT MOST 1048576: true; the input reads as it did. -/
def fnRulesLetUptoRow : OpenClaim := { program := "ytnadkhgdeofheaa", sum := "0e1ae259a19af15e13cba8cf5b22f70444bda8888ebcb1f66acbf2714d604cad", func := "loop.example/skyway/laws.FnRulesLet", spec := "fnRulesLet", plainKeys := false, apart := false, narrowed := true }
def FnRulesLetUptoSaid : Prop := fnRulesLetUptoRow.holds Try.pinned (OpenSpec.upto fnRulesLetSpec)

/-- 'laws.FnExactRulesLet', WHERE WHAT IT READS IS OF BULK AT MOST 1048576: true; the input reads as it did. -/
def fnExactRulesLetUptoRow : OpenClaim := { program := "ytnadkhgdeofheaa", sum := "0e1ae259a19af15e13cba8cf5b22f70444bda8888ebcb1f66acbf2714d604cad", func := "loop.example/skyway/laws.FnExactRulesLet", spec := "fnExactRulesLet", plainKeys := false, apart := false, narrowed := true }
def FnExactRulesLetUptoSaid : Prop := fnExactRulesLetUptoRow.holds Try.pinned (OpenSpec.upto fnExactRulesLetSpec)

/-- 'laws.FnRulesLess', WHERE WHAT IT READS IS OF BULK AT MOST 1048576: true; the input reads as it did. -/
def fnRulesLessUptoRow : OpenClaim := { program := "ytnadkhgdeofheaa", sum := "0e1ae259a19af15e13cba8cf5b22f70444bda8888ebcb1f66acbf2714d604cad", func := "loop.example/skyway/laws.FnRulesLess", spec := "fnRulesLess", plainKeys := false, apart := false, narrowed := true }
def FnRulesLessUptoSaid : Prop := fnRulesLessUptoRow.holds Try.pinned (OpenSpec.upto fnRulesLessSpec)

/-- 'laws.FnExactRulesLess', WHERE WHAT IT READS IS OF BULK AT MOST 1048576: true; the input reads as it did. -/
def fnExactRulesLessUptoRow : OpenClaim := { program := "ytnadkhgdeofheaa", sum := "0e1ae259a19af15e13cba8cf5b22f70444bda8888ebcb1f66acbf2714d604cad", func := "loop.example/skyway/laws.FnExactRulesLess", spec := "fnExactRulesLess", plainKeys := false, apart := false, narrowed := true }
def FnExactRulesLessUptoSaid : Prop := fnExactRulesLessUptoRow.holds Try.pinned (OpenSpec.upto fnExactRulesLessSpec)

end Rows
end Go.Proofs.Ytnadkhgdeofheaa
