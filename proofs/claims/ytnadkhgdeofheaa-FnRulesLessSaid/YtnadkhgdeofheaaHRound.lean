/- A region that draws its order, within a round of a range over a function: it is walked as anywhere (the print's wpAnyLast), where no operation is a defer statement. -/
import Derived.Test.YtnadkhgdeofheaaProg
import Derived.Below
import Derived.Deep.Draws
import Derived.Deep.AppendLies
import Derived.Maps.AppendAt
import Derived.OwnWalk
import Derived.Laws.BytesArg
import Derived.Laws.MakeOwn
import Derived.Laws.OwnMore
import Derived.Deep.OwnRows
import Derived.Tactics
import Derived.Lib.ConvBytes
import Derived.Laws.Slices
import Derived.WalkKit
import Derived.KernelRfl
import Derived.RowKit3
import Derived.Deep.LoopGhost
import Derived.Deep.QuietTactic
import Derived.BigQuiet
import Derived.WideLaws
import Derived.Deep.DeepCutAuto
import Derived.Deep.CutBlock
import Derived.Deep.RegionHeld3
import Derived.Laws.Rows
import Derived.Lib.AppendStr
import Derived.ArgAppend
import Derived.Laws.IdiomCopy
import Derived.OrdersHeld
import Derived.Laws.BitsLemmas
import Derived.RowKit
import Derived.Test.YtnadkhgdeofheaaWWords
import Derived.Test.YtnadkhgdeofheaaWLast
import Derived.Test.YtnadkhgdeofheaaWTab
import Derived.Test.YtnadkhgdeofheaaWFour
import Derived.Test.YtnadkhgdeofheaaWQPut
import Derived.Test.YtnadkhgdeofheaaWApart
import Derived.Test.YtnadkhgdeofheaaWArr
import Derived.Test.YtnadkhgdeofheaaWZeros
import Derived.Test.YtnadkhgdeofheaaWFoot
import Derived.Test.YtnadkhgdeofheaaWKept
import Derived.Test.YtnadkhgdeofheaaWShare
import Derived.Test.YtnadkhgdeofheaaWN
import Derived.Test.YtnadkhgdeofheaaWFootNe
import Derived.Test.YtnadkhgdeofheaaWAt
import Derived.Test.YtnadkhgdeofheaaWEqStruct
import Derived.Test.YtnadkhgdeofheaaWRepsOne
import Derived.Test.YtnadkhgdeofheaaWInv
import Derived.Test.YtnadkhgdeofheaaWInvWords
import Derived.Test.YtnadkhgdeofheaaWGuard
import Derived.Test.YtnadkhgdeofheaaWNEv
import Derived.Test.YtnadkhgdeofheaaWMore
import Derived.Laws.ResultCell
import Derived.OrdersIn
import Derived.RangeFuncNested
namespace Go.Proofs.Ytnadkhgdeofheaa.HRound
open Go Go.RowKit Go.Proofs.YtnadkhgdeofheaaW.PrintWords Go.Proofs.YtnadkhgdeofheaaW.PrintLast
/-- No defer statement among these. -/
def noDefer (ops : Array Oper) : Bool := ops.all fun o => match o.op with
  | .defer _ => false
  | _ => true
theorem noDefer_at {ops : Array Oper} (h : noDefer ops = true) {i : Nat} {o : Oper} (hi : ops[i]? = some o) : ∀ c, o.op ≠ .defer c := by
  intro c hc
  unfold noDefer at h
  rw [Array.all_eq_true'] at h
  have := h o (Array.mem_of_getElem? hi)
  rw [hc] at this
  exact absurd this (by simp)
theorem op_in {P : Program} {l n : Nat} {o : Oper} {a : Act} {w : World} {K : Act → World → Prop} {Q : Exit → Act → World → Prop} (hd : ∀ c, o.op ≠ .defer c) (h : Oper.wp P o a w K Q) : o.wpIn (Fence.wide.inRound l) n P a w K Q := by
  unfold Oper.wpIn
  refine ⟨fun _ _ => trivial, ?_⟩
  rw [Oper.semAt_eq _ _ _ hd]
  unfold Oper.wp at h
  generalize (execOp a.eval o).run P w = r at h ⊢
  cases r with
  | ok x w' =>
    cases x <;> simp only [Oper.upon, Oper.uponIn] at h ⊢ <;>
      first
        | exact h
        | exact ⟨fun h => by simp [Fence.wide] at h, CallsIn.inRound l (callsIn_wide.2 h)⟩
        | exact ⟨fun h => by simp [Fence.wide] at h, fun c cs _ => let ⟨v, w', r, s⟩ := h c cs; ⟨v, w', r, stepsIn_wide.2 s⟩⟩
  | halt x w' => cases x <;> simp only [Oper.upon, Oper.uponIn] at h ⊢ <;> exact h
theorem any_in {P : Program} {ops : Array Oper} {Q : Exit → Act → World → Prop} {md : Region.Mode} {l n : Nat} (hnd : noDefer ops = true) (hno : ¬ LetsOut Q) : ∀ (fuel : Nat) (listed : Array Bool) (a : Act) (w : World), wpAny P md ops Q fuel listed a w → wpAnyIn (Fence.wide.inRound l) n P md ops Q fuel listed a w := by
  intro fuel
  induction fuel with
  | zero => intro listed a w h; exact h
  | succ fuel ih =>
    intro listed a w h
    refine ⟨h.1, fun i hi => ?_⟩
    have h2 := h.2 i hi
    unfold wpOp at h2
    unfold wpOpIn
    cases ho : ops[i]? with
    | none =>
      rw [ho] at h2
      exact ih _ _ _ h2
    | some o =>
      rw [ho] at h2
      dsimp only at h2 ⊢
      split at h2
      · rename_i hw
        rw [if_pos hw]
        rcases h2 with h2 | h2
        · exact Oper.wpIn_mono (fun a w h => ih _ a w h) (op_in (noDefer_at hnd ho) h2)
        · exact absurd h2.2 hno
      · rename_i hw
        rw [if_neg hw]
        exact ⟨fun _ _ => trivial, ih _ _ _ h2⟩
theorem start_in {P : Program} {ops : Array Oper} {Q : Exit → Act → World → Prop} {S : World → Prop} {ds : List Nat} {l nf : Nat} {id n : Nat} {a : Act} {w : World} (L : Array Bool) (hnd : noDefer ops = true) (hno : ¬ LetsOut Q) (hm : P.follows .mixedOrders = true) (hn : ops.size = n) (hl : Array.replicate n false = L) (hS : S w.drew)
    (h : S w.drew → wpAnyLast P .any ops Q S ds n L a w.drew) : (Code.region id ops true).wpIn (Fence.wide.inRound l) nf P Q a w := by
  subst hn
  subst hl
  exact wpIn_region_any hm (any_in hnd hno _ _ _ _ (wpAny_of_last _ _ _ _ (h hS)))
end Go.Proofs.Ytnadkhgdeofheaa.HRound
