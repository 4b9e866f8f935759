/-
  No cell of these rows narrows 'for every input' (looked for: loops, veiled, ifaces, maps, wideKeys, modest, calm, conditions, laid).
  DERIVED. THE GIVEN ROWS OF THIS SEAT. 7 by the template 'for every input the law returns true; each argument reads behind the call as it read before'; 0 by the template 'total and deterministic' (their statements: YtgioeghaopoabaaTotals.lean).
  GIVEN WITH THE SEED: the statements are not yours to turn. If you find one false, say at which input.
  Laid BY PROGRAM, IN A SANDBOX (cutbox-rows.mjs): the forced cells as the released guide's own fill.sh prints them over the translation 2c407b77d463f7a2… (all of the seat's roots in one cut). By AI agents, Wed Nov 11 2026. No macro, syntax, notation, axiom, sorry.
-/
import Derived.Test.YtgioeghaopoabaaChecked
import GoSem.Claim
import GoSem.ClaimJoined
import GoSem.ClaimMapViews
import Derived.JoinedTies
import Derived.KernelRfl
namespace Go.Proofs.Ytgioeghaopoabaa
/- THE CELL 'sum', in the pinned program and in every row, IS THE sha256 OF THE DUMP (.gsa) THAT YtgioeghaopoabaaProg.lean LOADS. Nothing in Lean hashes anything: it is a label: what it is worth is what the hold of that sum in a sandbox is worth. -/
noncomputable def Try.pinned : Pinned := { name := "ytgioeghaopoabaa", sum := "2c407b77d463f7a2b39a10f17f3845855f1d62716689189408d0d6b749a3b2f9", checked := Try.checked }
namespace Rows
def none {H : Type} : Left H := { results := [], args := [] }

/-- 'laws.FnExactCrc16': WHATEVER THE INPUT: true; the input reads as it did. -/
def fnExactCrc16Spec : ChangeSpec := { name := "fnExactCrc16", fn := fun _ => fun
  | [d] => { results := [.lit (.bool true)], args := [d] }
  | _ => none }
def fnExactCrc16Row : OpenClaim := { program := "ytgioeghaopoabaa", sum := "2c407b77d463f7a2b39a10f17f3845855f1d62716689189408d0d6b749a3b2f9", func := "loop.example/skyway/laws.FnExactCrc16", spec := "fnExactCrc16", apart := false }
def FnExactCrc16Said : Prop := fnExactCrc16Row.holds Try.pinned (OpenSpec.ofChange fnExactCrc16Spec)

/-- ITS FALSE NEIGHBOUR: 'it returns false'. Refute it at one input. -/
def fnExactCrc16Wrong : ChangeSpec := { name := "fnExactCrc16", fn := fun _ => fun
  | [d] => { results := [.lit (.bool false)], args := [d] }
  | _ => none }
def FnExactCrc16WrongFalsely : Prop := fnExactCrc16Row.holds Try.pinned (OpenSpec.ofChange fnExactCrc16Wrong)

/-- 'laws.FnCrc16': WHATEVER THE INPUT: true; the input reads as it did. -/
def fnCrc16Spec : ChangeSpec := { name := "fnCrc16", fn := fun _ => fun
  | [d1, d2] => { results := [.lit (.bool true)], args := [d1, d2] }
  | _ => none }
def fnCrc16Row : OpenClaim := { program := "ytgioeghaopoabaa", sum := "2c407b77d463f7a2b39a10f17f3845855f1d62716689189408d0d6b749a3b2f9", func := "loop.example/skyway/laws.FnCrc16", spec := "fnCrc16", apart := false }
def FnCrc16Said : Prop := fnCrc16Row.holds Try.pinned (OpenSpec.ofChange fnCrc16Spec)

/-- ITS FALSE NEIGHBOUR: 'it returns false'. Refute it at one input. -/
def fnCrc16Wrong : ChangeSpec := { name := "fnCrc16", fn := fun _ => fun
  | [d1, d2] => { results := [.lit (.bool false)], args := [d1, d2] }
  | _ => none }
def FnCrc16WrongFalsely : Prop := fnCrc16Row.holds Try.pinned (OpenSpec.ofChange fnCrc16Wrong)

/-- 'laws.FnExactPacketPut': WHATEVER THE INPUT: true; the input reads as it did. -/
def fnExactPacketPutSpec : ChangeSpec := { name := "fnExactPacketPut", fn := fun _ => fun
  | [d] => { results := [.lit (.bool true)], args := [d] }
  | _ => none }
def fnExactPacketPutRow : OpenClaim := { program := "ytgioeghaopoabaa", sum := "2c407b77d463f7a2b39a10f17f3845855f1d62716689189408d0d6b749a3b2f9", func := "loop.example/skyway/laws.FnExactPacketPut", spec := "fnExactPacketPut", apart := false }
def FnExactPacketPutSaid : Prop := fnExactPacketPutRow.holds Try.pinned (OpenSpec.ofChange fnExactPacketPutSpec)

/-- ITS FALSE NEIGHBOUR: 'it returns false'. Refute it at one input. -/
def fnExactPacketPutWrong : ChangeSpec := { name := "fnExactPacketPut", fn := fun _ => fun
  | [d] => { results := [.lit (.bool false)], args := [d] }
  | _ => none }
def FnExactPacketPutWrongFalsely : Prop := fnExactPacketPutRow.holds Try.pinned (OpenSpec.ofChange fnExactPacketPutWrong)

/-- 'laws.FnCrcEnd': WHATEVER THE INPUT: true; the input reads as it did. -/
def fnCrcEndSpec : ChangeSpec := { name := "fnCrcEnd", fn := fun _ => fun
  | [d] => { results := [.lit (.bool true)], args := [d] }
  | _ => none }
def fnCrcEndRow : OpenClaim := { program := "ytgioeghaopoabaa", sum := "2c407b77d463f7a2b39a10f17f3845855f1d62716689189408d0d6b749a3b2f9", func := "loop.example/skyway/laws.FnCrcEnd", spec := "fnCrcEnd", apart := false }
def FnCrcEndSaid : Prop := fnCrcEndRow.holds Try.pinned (OpenSpec.ofChange fnCrcEndSpec)

/-- ITS FALSE NEIGHBOUR: 'it returns false'. Refute it at one input. -/
def fnCrcEndWrong : ChangeSpec := { name := "fnCrcEnd", fn := fun _ => fun
  | [d] => { results := [.lit (.bool false)], args := [d] }
  | _ => none }
def FnCrcEndWrongFalsely : Prop := fnCrcEndRow.holds Try.pinned (OpenSpec.ofChange fnCrcEndWrong)

/-- 'laws.FnExactRepPut': WHATEVER THE INPUT: true; the input reads as it did. -/
def fnExactRepPutSpec : ChangeSpec := { name := "fnExactRepPut", fn := fun _ => fun
  | [d] => { results := [.lit (.bool true)], args := [d] }
  | _ => none }
def fnExactRepPutRow : OpenClaim := { program := "ytgioeghaopoabaa", sum := "2c407b77d463f7a2b39a10f17f3845855f1d62716689189408d0d6b749a3b2f9", func := "loop.example/skyway/laws.FnExactRepPut", spec := "fnExactRepPut", apart := false }
def FnExactRepPutSaid : Prop := fnExactRepPutRow.holds Try.pinned (OpenSpec.ofChange fnExactRepPutSpec)

/-- ITS FALSE NEIGHBOUR: 'it returns false'. Refute it at one input. -/
def fnExactRepPutWrong : ChangeSpec := { name := "fnExactRepPut", fn := fun _ => fun
  | [d] => { results := [.lit (.bool false)], args := [d] }
  | _ => none }
def FnExactRepPutWrongFalsely : Prop := fnExactRepPutRow.holds Try.pinned (OpenSpec.ofChange fnExactRepPutWrong)

/-- 'laws.FnExactFramePut': WHATEVER THE INPUT: true; the input reads as it did. -/
def fnExactFramePutSpec : ChangeSpec := { name := "fnExactFramePut", fn := fun _ => fun
  | [d] => { results := [.lit (.bool true)], args := [d] }
  | _ => none }
def fnExactFramePutRow : OpenClaim := { program := "ytgioeghaopoabaa", sum := "2c407b77d463f7a2b39a10f17f3845855f1d62716689189408d0d6b749a3b2f9", func := "loop.example/skyway/laws.FnExactFramePut", spec := "fnExactFramePut", apart := false }
def FnExactFramePutSaid : Prop := fnExactFramePutRow.holds Try.pinned (OpenSpec.ofChange fnExactFramePutSpec)

/-- ITS FALSE NEIGHBOUR: 'it returns false'. Refute it at one input. -/
def fnExactFramePutWrong : ChangeSpec := { name := "fnExactFramePut", fn := fun _ => fun
  | [d] => { results := [.lit (.bool false)], args := [d] }
  | _ => none }
def FnExactFramePutWrongFalsely : Prop := fnExactFramePutRow.holds Try.pinned (OpenSpec.ofChange fnExactFramePutWrong)

/-- 'laws.FnExactCmdPut': WHATEVER THE INPUT: true; the input reads as it did. -/
def fnExactCmdPutSpec : ChangeSpec := { name := "fnExactCmdPut", fn := fun _ => fun
  | [d] => { results := [.lit (.bool true)], args := [d] }
  | _ => none }
def fnExactCmdPutRow : OpenClaim := { program := "ytgioeghaopoabaa", sum := "2c407b77d463f7a2b39a10f17f3845855f1d62716689189408d0d6b749a3b2f9", func := "loop.example/skyway/laws.FnExactCmdPut", spec := "fnExactCmdPut", apart := false }
def FnExactCmdPutSaid : Prop := fnExactCmdPutRow.holds Try.pinned (OpenSpec.ofChange fnExactCmdPutSpec)

/-- ITS FALSE NEIGHBOUR: 'it returns false'. Refute it at one input. -/
def fnExactCmdPutWrong : ChangeSpec := { name := "fnExactCmdPut", fn := fun _ => fun
  | [d] => { results := [.lit (.bool false)], args := [d] }
  | _ => none }
def FnExactCmdPutWrongFalsely : Prop := fnExactCmdPutRow.holds Try.pinned (OpenSpec.ofChange fnExactCmdPutWrong)

/- THE SECOND FORM. 'bulk': how many values and letters a reading holds, each counted each time it is reached (what is shared counts as often as it is met; a slice's spare places count too). A statement '..UptoSaid' is the law's where the arguments, and the package variables that the reading takes, are together of bulk at most 1048576: NARROWER than '..Said'. Prove '..Said' where nothing that the law and all that it calls make is longer than what came in: it says more and counts as full. Else prove '..UptoSaid'. A law counts once. -/
mutual
def uptoBulk {H : Type} : DataW H → Nat
  | .lit (.string bytes) => bytes.length + 1
  | .lit _ => 1
  | .nil => 1
  | .ptr d => uptoBulk d + 1
  | .slice elems spare => uptoBulkAll elems + uptoBulkAll spare + 1
  | .agg parts => uptoBulkAll parts + 1
  | .iface _ d => uptoBulk d + 1
  | .map entries => uptoBulkEntries entries + 1
  | .held _ => 1
def uptoBulkAll {H : Type} : List (DataW H) → Nat
  | [] => 0
  | d :: r => uptoBulk d + uptoBulkAll r
def uptoBulkEntries {H : Type} : List (Lit × DataW H) → Nat
  | [] => 0
  | x :: r => uptoBulkEntry x + uptoBulkEntries r
def uptoBulkEntry {H : Type} : Lit × DataW H → Nat
  | (.string bytes, d) => bytes.length + uptoBulk d + 1
  | (_, d) => uptoBulk d + 1
 end
def uptoSmall : (H : Type) → List (DataW H) → Bool := fun _ ds => decide (uptoBulkAll ds ≤ 1048576)
def OpenSpec.upto (s : _root_.Go.ChangeSpec) : _root_.Go.OpenSpec := { _root_.Go.OpenSpec.ofChange s with cond := some uptoSmall }

/-- 'laws.FnExactCrc16', WHERE WHAT IT READS IS OF BULK AT MOST 1048576: true; the input reads as it did. -/
def fnExactCrc16UptoRow : OpenClaim := { program := "ytgioeghaopoabaa", sum := "2c407b77d463f7a2b39a10f17f3845855f1d62716689189408d0d6b749a3b2f9", func := "loop.example/skyway/laws.FnExactCrc16", spec := "fnExactCrc16", apart := false, narrowed := true }
def FnExactCrc16UptoSaid : Prop := fnExactCrc16UptoRow.holds Try.pinned (OpenSpec.upto fnExactCrc16Spec)

/-- 'laws.FnCrc16', WHERE WHAT IT READS IS OF BULK AT MOST 1048576: true; the input reads as it did. -/
def fnCrc16UptoRow : OpenClaim := { program := "ytgioeghaopoabaa", sum := "2c407b77d463f7a2b39a10f17f3845855f1d62716689189408d0d6b749a3b2f9", func := "loop.example/skyway/laws.FnCrc16", spec := "fnCrc16", apart := false, narrowed := true }
def FnCrc16UptoSaid : Prop := fnCrc16UptoRow.holds Try.pinned (OpenSpec.upto fnCrc16Spec)

/-- 'laws.FnExactPacketPut', WHERE WHAT IT READS IS OF BULK AT MOST 1048576: true; the input reads as it did. -/
def fnExactPacketPutUptoRow : OpenClaim := { program := "ytgioeghaopoabaa", sum := "2c407b77d463f7a2b39a10f17f3845855f1d62716689189408d0d6b749a3b2f9", func := "loop.example/skyway/laws.FnExactPacketPut", spec := "fnExactPacketPut", apart := false, narrowed := true }
def FnExactPacketPutUptoSaid : Prop := fnExactPacketPutUptoRow.holds Try.pinned (OpenSpec.upto fnExactPacketPutSpec)

/-- 'laws.FnCrcEnd', WHERE WHAT IT READS IS OF BULK AT MOST 1048576: true; the input reads as it did. -/
def fnCrcEndUptoRow : OpenClaim := { program := "ytgioeghaopoabaa", sum := "2c407b77d463f7a2b39a10f17f3845855f1d62716689189408d0d6b749a3b2f9", func := "loop.example/skyway/laws.FnCrcEnd", spec := "fnCrcEnd", apart := false, narrowed := true }
def FnCrcEndUptoSaid : Prop := fnCrcEndUptoRow.holds Try.pinned (OpenSpec.upto fnCrcEndSpec)

/-- 'laws.FnExactRepPut', WHERE WHAT IT READS IS OF BULK AT MOST 1048576: true; the input reads as it did. -/
def fnExactRepPutUptoRow : OpenClaim := { program := "ytgioeghaopoabaa", sum := "2c407b77d463f7a2b39a10f17f3845855f1d62716689189408d0d6b749a3b2f9", func := "loop.example/skyway/laws.FnExactRepPut", spec := "fnExactRepPut", apart := false, narrowed := true }
def FnExactRepPutUptoSaid : Prop := fnExactRepPutUptoRow.holds Try.pinned (OpenSpec.upto fnExactRepPutSpec)

/-- 'laws.FnExactFramePut', WHERE WHAT IT READS IS OF BULK AT MOST 1048576: true; the input reads as it did. -/
def fnExactFramePutUptoRow : OpenClaim := { program := "ytgioeghaopoabaa", sum := "2c407b77d463f7a2b39a10f17f3845855f1d62716689189408d0d6b749a3b2f9", func := "loop.example/skyway/laws.FnExactFramePut", spec := "fnExactFramePut", apart := false, narrowed := true }
def FnExactFramePutUptoSaid : Prop := fnExactFramePutUptoRow.holds Try.pinned (OpenSpec.upto fnExactFramePutSpec)

/-- 'laws.FnExactCmdPut', WHERE WHAT IT READS IS OF BULK AT MOST 1048576: true; the input reads as it did. -/
def fnExactCmdPutUptoRow : OpenClaim := { program := "ytgioeghaopoabaa", sum := "2c407b77d463f7a2b39a10f17f3845855f1d62716689189408d0d6b749a3b2f9", func := "loop.example/skyway/laws.FnExactCmdPut", spec := "fnExactCmdPut", apart := false, narrowed := true }
def FnExactCmdPutUptoSaid : Prop := fnExactCmdPutUptoRow.holds Try.pinned (OpenSpec.upto fnExactCmdPutSpec)

end Rows
end Go.Proofs.Ytgioeghaopoabaa
