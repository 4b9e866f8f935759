/-
  No cell of these rows narrows 'for every input' (looked for: loops, veiled, ifaces, maps, wideKeys, modest, calm, conditions, laid).
  DERIVED. THE GIVEN ROWS OF THIS SEAT. 6 by the template 'for every input the law returns true; each argument reads behind the call as it read before'; 0 by the template 'total and deterministic' (their statements: YtiknnbjfpdeieaaTotals.lean).
  GIVEN WITH THE SEED: the statements are not yours to turn. If you find one false, say at which input.
  Laid BY PROGRAM, IN A SANDBOX (cutbox-rows.mjs): the forced cells as the released guide's own fill.sh prints them over the translation 228b90d60e3fe2d5… (all of the seat's roots in one cut). By AI agents, Wed Nov 11 2026. No macro, syntax, notation, axiom, sorry.
-/
import Derived.Test.YtiknnbjfpdeieaaChecked
import GoSem.Claim
import GoSem.ClaimJoined
import GoSem.ClaimMapViews
import Derived.JoinedTies
import Derived.KernelRfl
namespace Go.Proofs.Ytiknnbjfpdeieaa
/- THE CELL 'sum', in the pinned program and in every row, IS THE sha256 OF THE DUMP (.gsa) THAT YtiknnbjfpdeieaaProg.lean LOADS. Nothing in Lean hashes anything: it is a label: what it is worth is what the hold of that sum in a sandbox is worth. -/
noncomputable def Try.pinned : Pinned := { name := "ytiknnbjfpdeieaa", sum := "228b90d60e3fe2d5f15cb31e7e01805bbd52f60a99caf4a98ddd9592d98330ba", checked := Try.checked }
namespace Rows
def none {H : Type} : Left H := { results := [], args := [] }

/-- 'laws.FnCltuBack': WHATEVER THE INPUT: true; the input reads as it did. -/
def fnCltuBackSpec : ChangeSpec := { name := "fnCltuBack", fn := fun _ => fun
  | [d] => { results := [.lit (.bool true)], args := [d] }
  | _ => none }
def fnCltuBackRow : OpenClaim := { program := "ytiknnbjfpdeieaa", sum := "228b90d60e3fe2d5f15cb31e7e01805bbd52f60a99caf4a98ddd9592d98330ba", func := "loop.example/skyway/laws.FnCltuBack", spec := "fnCltuBack", inPlace := ["internal/abi.NoEscape", "internal/bytealg.MakeNoZero"], unfollowed := true, recurses := true, apart := false }
def FnCltuBackSaid : Prop := fnCltuBackRow.holds Try.pinned (OpenSpec.ofChange fnCltuBackSpec)

/-- ITS FALSE NEIGHBOUR: 'it returns false'. Refute it at one input. -/
def fnCltuBackWrong : ChangeSpec := { name := "fnCltuBack", fn := fun _ => fun
  | [d] => { results := [.lit (.bool false)], args := [d] }
  | _ => none }
def FnCltuBackWrongFalsely : Prop := fnCltuBackRow.holds Try.pinned (OpenSpec.ofChange fnCltuBackWrong)

/-- 'laws.FnCltuSpoil': WHATEVER THE INPUT: true; the input reads as it did. -/
def fnCltuSpoilSpec : ChangeSpec := { name := "fnCltuSpoil", fn := fun _ => fun
  | [d1, d2] => { results := [.lit (.bool true)], args := [d1, d2] }
  | _ => none }
def fnCltuSpoilRow : OpenClaim := { program := "ytiknnbjfpdeieaa", sum := "228b90d60e3fe2d5f15cb31e7e01805bbd52f60a99caf4a98ddd9592d98330ba", func := "loop.example/skyway/laws.FnCltuSpoil", spec := "fnCltuSpoil", inPlace := ["internal/abi.NoEscape", "internal/bytealg.MakeNoZero"], unfollowed := true, recurses := true, apart := false }
def FnCltuSpoilSaid : Prop := fnCltuSpoilRow.holds Try.pinned (OpenSpec.ofChange fnCltuSpoilSpec)

/-- ITS FALSE NEIGHBOUR: 'it returns false'. Refute it at one input. -/
def fnCltuSpoilWrong : ChangeSpec := { name := "fnCltuSpoil", fn := fun _ => fun
  | [d1, d2] => { results := [.lit (.bool false)], args := [d1, d2] }
  | _ => none }
def FnCltuSpoilWrongFalsely : Prop := fnCltuSpoilRow.holds Try.pinned (OpenSpec.ofChange fnCltuSpoilWrong)

/-- 'laws.FnExactCltuGet': WHATEVER THE INPUT: true; the input reads as it did. -/
def fnExactCltuGetSpec : ChangeSpec := { name := "fnExactCltuGet", fn := fun _ => fun
  | [d] => { results := [.lit (.bool true)], args := [d] }
  | _ => none }
def fnExactCltuGetRow : OpenClaim := { program := "ytiknnbjfpdeieaa", sum := "228b90d60e3fe2d5f15cb31e7e01805bbd52f60a99caf4a98ddd9592d98330ba", func := "loop.example/skyway/laws.FnExactCltuGet", spec := "fnExactCltuGet", inPlace := ["internal/abi.NoEscape"], unfollowed := true, recurses := true, apart := false }
def FnExactCltuGetSaid : Prop := fnExactCltuGetRow.holds Try.pinned (OpenSpec.ofChange fnExactCltuGetSpec)

/-- ITS FALSE NEIGHBOUR: 'it returns false'. Refute it at one input. -/
def fnExactCltuGetWrong : ChangeSpec := { name := "fnExactCltuGet", fn := fun _ => fun
  | [d] => { results := [.lit (.bool false)], args := [d] }
  | _ => none }
def FnExactCltuGetWrongFalsely : Prop := fnExactCltuGetRow.holds Try.pinned (OpenSpec.ofChange fnExactCltuGetWrong)

/-- 'laws.FnExactCltuRead': WHATEVER THE INPUT: true; the input reads as it did. -/
def fnExactCltuReadSpec : ChangeSpec := { name := "fnExactCltuRead", fn := fun _ => fun
  | [d] => { results := [.lit (.bool true)], args := [d] }
  | _ => none }
def fnExactCltuReadRow : OpenClaim := { program := "ytiknnbjfpdeieaa", sum := "228b90d60e3fe2d5f15cb31e7e01805bbd52f60a99caf4a98ddd9592d98330ba", func := "loop.example/skyway/laws.FnExactCltuRead", spec := "fnExactCltuRead", inPlace := ["internal/abi.NoEscape"], unfollowed := true, recurses := true, apart := false }
def FnExactCltuReadSaid : Prop := fnExactCltuReadRow.holds Try.pinned (OpenSpec.ofChange fnExactCltuReadSpec)

/-- ITS FALSE NEIGHBOUR: 'it returns false'. Refute it at one input. -/
def fnExactCltuReadWrong : ChangeSpec := { name := "fnExactCltuRead", fn := fun _ => fun
  | [d] => { results := [.lit (.bool false)], args := [d] }
  | _ => none }
def FnExactCltuReadWrongFalsely : Prop := fnExactCltuReadRow.holds Try.pinned (OpenSpec.ofChange fnExactCltuReadWrong)

/-- 'laws.FnCltuGet': WHATEVER THE INPUT: true; the input reads as it did. -/
def fnCltuGetSpec : ChangeSpec := { name := "fnCltuGet", fn := fun _ => fun
  | [d] => { results := [.lit (.bool true)], args := [d] }
  | _ => none }
def fnCltuGetRow : OpenClaim := { program := "ytiknnbjfpdeieaa", sum := "228b90d60e3fe2d5f15cb31e7e01805bbd52f60a99caf4a98ddd9592d98330ba", func := "loop.example/skyway/laws.FnCltuGet", spec := "fnCltuGet", inPlace := ["internal/abi.NoEscape"], unfollowed := true, recurses := true, apart := false }
def FnCltuGetSaid : Prop := fnCltuGetRow.holds Try.pinned (OpenSpec.ofChange fnCltuGetSpec)

/-- ITS FALSE NEIGHBOUR: 'it returns false'. Refute it at one input. -/
def fnCltuGetWrong : ChangeSpec := { name := "fnCltuGet", fn := fun _ => fun
  | [d] => { results := [.lit (.bool false)], args := [d] }
  | _ => none }
def FnCltuGetWrongFalsely : Prop := fnCltuGetRow.holds Try.pinned (OpenSpec.ofChange fnCltuGetWrong)

/-- 'laws.FnExactCltuPut': WHATEVER THE INPUT: true; the input reads as it did. -/
def fnExactCltuPutSpec : ChangeSpec := { name := "fnExactCltuPut", fn := fun _ => fun
  | [d] => { results := [.lit (.bool true)], args := [d] }
  | _ => none }
def fnExactCltuPutRow : OpenClaim := { program := "ytiknnbjfpdeieaa", sum := "228b90d60e3fe2d5f15cb31e7e01805bbd52f60a99caf4a98ddd9592d98330ba", func := "loop.example/skyway/laws.FnExactCltuPut", spec := "fnExactCltuPut", inPlace := ["internal/abi.NoEscape", "internal/bytealg.MakeNoZero"], apart := false }
def FnExactCltuPutSaid : Prop := fnExactCltuPutRow.holds Try.pinned (OpenSpec.ofChange fnExactCltuPutSpec)

/-- ITS FALSE NEIGHBOUR: 'it returns false'. Refute it at one input. -/
def fnExactCltuPutWrong : ChangeSpec := { name := "fnExactCltuPut", fn := fun _ => fun
  | [d] => { results := [.lit (.bool false)], args := [d] }
  | _ => none }
def FnExactCltuPutWrongFalsely : Prop := fnExactCltuPutRow.holds Try.pinned (OpenSpec.ofChange fnExactCltuPutWrong)

/- THE SECOND FORM. 'bulk': how many values and letters a reading holds, each counted each time it is reached (what is shared counts as often as it is met; a slice's spare places count too). A statement '..UptoSaid' is the law's where the arguments, and the package variables that the reading takes, are together of bulk at most 1048576: NARROWER than '..Said'. Prove '..Said' where nothing that the law and all that it calls make is longer than what came in: it says more and counts as full. Else prove '..UptoSaid'. A law counts once. -/
mutual
def uptoBulk {H : Type} : DataW H → Nat
  | .lit (.string bytes) => bytes.length + 1
  | .lit _ => 1
  | .nil => 1
  | .ptr d => uptoBulk d + 1
  | .slice elems spare => uptoBulkAll elems + uptoBulkAll spare + 1
  | .agg parts => uptoBulkAll parts + 1
  | .iface _ d => uptoBulk d + 1
  | .map entries => uptoBulkEntries entries + 1
  | .held _ => 1
def uptoBulkAll {H : Type} : List (DataW H) → Nat
  | [] => 0
  | d :: r => uptoBulk d + uptoBulkAll r
def uptoBulkEntries {H : Type} : List (Lit × DataW H) → Nat
  | [] => 0
  | x :: r => uptoBulkEntry x + uptoBulkEntries r
def uptoBulkEntry {H : Type} : Lit × DataW H → Nat
  | (.string bytes, d) => bytes.length + uptoBulk d + 1
  | (_, d) => uptoBulk d + 1
 end
def uptoSmall : (H : Type) → List (DataW H) → Bool := fun _ ds => decide (uptoBulkAll ds ≤ 1048576)
def OpenSpec.upto (s : _root_.Go.ChangeSpec) : _root_.Go.OpenSpec := { _root_.Go.OpenSpec.ofChange s with cond := some uptoSmall }

/-- 'laws.FnCltuBack', WHERE WHAT IT READS IS OF BULK AT MOST 1048576: true; the input reads as it did. -/
def fnCltuBackUptoRow : OpenClaim := { program := "ytiknnbjfpdeieaa", sum := "228b90d60e3fe2d5f15cb31e7e01805bbd52f60a99caf4a98ddd9592d98330ba", func := "loop.example/skyway/laws.FnCltuBack", spec := "fnCltuBack", inPlace := ["internal/abi.NoEscape", "internal/bytealg.MakeNoZero"], unfollowed := true, recurses := true, apart := false, narrowed := true }
def FnCltuBackUptoSaid : Prop := fnCltuBackUptoRow.holds Try.pinned (OpenSpec.upto fnCltuBackSpec)

/-- 'laws.FnCltuSpoil', WHERE WHAT IT READS IS OF BULK AT MOST 1048576: true; the input reads as it did. -/
def fnCltuSpoilUptoRow : OpenClaim := { program := "ytiknnbjfpdeieaa", sum := "228b90d60e3fe2d5f15cb31e7e01805bbd52f60a99caf4a98ddd9592d98330ba", func := "loop.example/skyway/laws.FnCltuSpoil", spec := "fnCltuSpoil", inPlace := ["internal/abi.NoEscape", "internal/bytealg.MakeNoZero"], unfollowed := true, recurses := true, apart := false, narrowed := true }
def FnCltuSpoilUptoSaid : Prop := fnCltuSpoilUptoRow.holds Try.pinned (OpenSpec.upto fnCltuSpoilSpec)

/-- 'laws.FnExactCltuGet', WHERE WHAT IT READS IS OF BULK AT MOST 1048576: true; the input reads as it did. -/
def fnExactCltuGetUptoRow : OpenClaim := { program := "ytiknnbjfpdeieaa", sum := "228b90d60e3fe2d5f15cb31e7e01805bbd52f60a99caf4a98ddd9592d98330ba", func := "loop.example/skyway/laws.FnExactCltuGet", spec := "fnExactCltuGet", inPlace := ["internal/abi.NoEscape"], unfollowed := true, recurses := true, apart := false, narrowed := true }
def FnExactCltuGetUptoSaid : Prop := fnExactCltuGetUptoRow.holds Try.pinned (OpenSpec.upto fnExactCltuGetSpec)

/-- 'laws.FnExactCltuRead', WHERE WHAT IT READS IS OF BULK AT MOST 1048576: true; the input reads as it did. -/
def fnExactCltuReadUptoRow : OpenClaim := { program := "ytiknnbjfpdeieaa", sum := "228b90d60e3fe2d5f15cb31e7e01805bbd52f60a99caf4a98ddd9592d98330ba", func := "loop.example/skyway/laws.FnExactCltuRead", spec := "fnExactCltuRead", inPlace := ["internal/abi.NoEscape"], unfollowed := true, recurses := true, apart := false, narrowed := true }
def FnExactCltuReadUptoSaid : Prop := fnExactCltuReadUptoRow.holds Try.pinned (OpenSpec.upto fnExactCltuReadSpec)

/-- 'laws.FnCltuGet', WHERE WHAT IT READS IS OF BULK AT MOST 1048576: true; the input reads as it did. -/
def fnCltuGetUptoRow : OpenClaim := { program := "ytiknnbjfpdeieaa", sum := "228b90d60e3fe2d5f15cb31e7e01805bbd52f60a99caf4a98ddd9592d98330ba", func := "loop.example/skyway/laws.FnCltuGet", spec := "fnCltuGet", inPlace := ["internal/abi.NoEscape"], unfollowed := true, recurses := true, apart := false, narrowed := true }
def FnCltuGetUptoSaid : Prop := fnCltuGetUptoRow.holds Try.pinned (OpenSpec.upto fnCltuGetSpec)

/-- 'laws.FnExactCltuPut', WHERE WHAT IT READS IS OF BULK AT MOST 1048576: true; the input reads as it did. -/
def fnExactCltuPutUptoRow : OpenClaim := { program := "ytiknnbjfpdeieaa", sum := "228b90d60e3fe2d5f15cb31e7e01805bbd52f60a99caf4a98ddd9592d98330ba", func := "loop.example/skyway/laws.FnExactCltuPut", spec := "fnExactCltuPut", inPlace := ["internal/abi.NoEscape", "internal/bytealg.MakeNoZero"], apart := false, narrowed := true }
def FnExactCltuPutUptoSaid : Prop := fnExactCltuPutUptoRow.holds Try.pinned (OpenSpec.upto fnExactCltuPutSpec)

end Rows
end Go.Proofs.Ytiknnbjfpdeieaa
