-- written by a program of this session (tools/prune.py) out of the words of the print: those that this claim uses; Lean checks it
import Derived.Test.YtnadkhgdeofheaaWTab
namespace Go.Proofs.YtnadkhgdeofheaaW.PrintLast
def up (b : Nat → Bool) (i : Nat) : Nat → Bool := fun j => if j = i then true else b j
end Go.Proofs.YtnadkhgdeofheaaW.PrintLast
