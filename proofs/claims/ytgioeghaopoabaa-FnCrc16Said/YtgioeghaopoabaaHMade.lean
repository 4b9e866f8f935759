/- What '[]byte(s)' made, where the program writes on it. -/
import Derived.Test.YtgioeghaopoabaaProg
import Derived.Below
import Derived.Deep.Draws
import Derived.Deep.AppendLies
import Derived.Maps.AppendAt
import Derived.OwnWalk
import Derived.Laws.BytesArg
import Derived.Laws.MakeOwn
import Derived.Laws.OwnMore
import Derived.Deep.OwnRows
import Derived.Tactics
import Derived.Lib.ConvBytes
import Derived.Laws.Slices
import Derived.WalkKit
import Derived.KernelRfl
import Derived.RowKit3
import Derived.Deep.LoopGhost
import Derived.Deep.QuietTactic
import Derived.BigQuiet
import Derived.WideLaws
import Derived.Deep.DeepCutAuto
import Derived.Deep.CutBlock
import Derived.Deep.RegionHeld3
import Derived.Laws.Rows
import Derived.Lib.AppendStr
import Derived.ArgAppend
import Derived.Laws.IdiomCopy
import Derived.OrdersHeld
import Derived.Laws.BitsLemmas
import Derived.RowKit
import Derived.Test.YtgioeghaopoabaaWWords
import Derived.Test.YtgioeghaopoabaaWLast
import Derived.Test.YtgioeghaopoabaaWTab
import Derived.Test.YtgioeghaopoabaaWFour
import Derived.Test.YtgioeghaopoabaaWQPut
import Derived.Test.YtgioeghaopoabaaWApart
import Derived.Test.YtgioeghaopoabaaWArr
import Derived.Test.YtgioeghaopoabaaWZeros
import Derived.Test.YtgioeghaopoabaaWFoot
import Derived.Test.YtgioeghaopoabaaWKept
import Derived.Test.YtgioeghaopoabaaWShare
import Derived.Test.YtgioeghaopoabaaWN
import Derived.Test.YtgioeghaopoabaaWFootNe
import Derived.Test.YtgioeghaopoabaaWAt
import Derived.Test.YtgioeghaopoabaaWEqStruct
import Derived.Test.YtgioeghaopoabaaWRepsOne
import Derived.Test.YtgioeghaopoabaaWInv
import Derived.Test.YtgioeghaopoabaaWInvWords
import Derived.Test.YtgioeghaopoabaaWGuard
import Derived.Test.YtgioeghaopoabaaWNEv
import Derived.Test.YtgioeghaopoabaaWMore
import Derived.Laws.ResultCell
import Derived.Test.YtgioeghaopoabaaAux
namespace Go.Proofs.Ytgioeghaopoabaa.HMade
open Go Go.RowKit Go.Proofs.YtgioeghaopoabaaW.PrintWords Go.Proofs.YtgioeghaopoabaaW.PrintLast Go.Proofs.YtgioeghaopoabaaW.PrintMore Go.Proofs.Ytgioeghaopoabaa.Aux
set_option linter.unusedVariables false
set_option linter.unusedSimpArgs false
/-- In world W block b is a row that '[]byte(s)' made, and it tells xs. -/
def Made (W : World) (b : Nat) (xs : List Int) : Prop := ∃ c m, W.heap[b]? = some (.cells c 5 (m, m + 1)) ∧ xs.length ≤ m ∧ ∀ j, j < xs.length → c[j]? = some (.int .u8 (xs.getD j 0))
theorem made_cell {W : World} {b : Nat} {xs : List Int} (h : Made W b xs) {j : Nat} (hj : j < xs.length) : W.cell? ⟨b, j, none⟩ = some (.int .u8 (xs.getD j 0)) := by
  obtain ⟨c, m, hb, _, hc⟩ := h
  have := hc j hj
  simp [World.cell?, hb, this]
theorem made_frozen {W : World} {b : Nat} {xs : List Int} (h : Made W b xs) {j : Nat} (hj : j < xs.length) : W.frozen? ⟨b, j, none⟩ = false := by
  obtain ⟨c, m, hb, hm, _⟩ := h
  simp only [World.frozen?, hb, Bool.and_eq_false_iff, decide_eq_false_iff_not]
  left
  omega
theorem made_set {W : World} {b : Nat} {xs : List Int} (h : Made W b xs) (k : Nat) (hk : k < xs.length) (x : Int) : Made (W.setCell ⟨b, k, none⟩ (.int .u8 x)) b (xs.set k x) := by
  obtain ⟨c, m, hb, hm, hc⟩ := h
  refine ⟨c.setIfInBounds k (.int .u8 x), m, ?_, by rw [List.length_set]; exact hm, fun j hj => ?_⟩
  · simp [World.setCell, Array.getElem?_modify, hb]
  · rw [List.length_set] at hj
    rw [Array.getElem?_setIfInBounds]
    have hcj := hc j hj
    have hlt : j < c.size := by
      rcases Nat.lt_or_ge j c.size with h' | h'
      · exact h'
      · rw [Array.getElem?_eq_none h'] at hcj
        exact absurd hcj (by simp)
    by_cases e : k = j
    · subst e
      rw [if_pos rfl, if_pos hlt, List.getD_eq_getElem?_getD, List.getElem?_set_self hj]
      rfl
    · rw [if_neg e, hcj, List.getD_eq_getElem?_getD, List.getD_eq_getElem?_getD, List.getElem?_set_ne e]
theorem made_other {W : World} {b : Nat} {xs : List Int} (h : Made W b xs) (a : Addr) (ha : b ≠ a.block) (v : Value) : Made (W.setCell a v) b xs := by
  obtain ⟨c, m, hb, hm, hc⟩ := h
  exact ⟨c, m, (heap_setCell_other W a b v ha).trans hb, hm, hc⟩
theorem made_reads {W : World} {b : Nat} {xs : List Int} (h : Made W b xs) (hl : xs.length ≤ 9223372036854775807) : ReadsInt W .u8 (some ⟨b, 0, none⟩) xs.length xs :=
  ⟨rfl, hl, fun _ => ⟨_, rfl, fun j hj => by rw [add_plain]; exact made_cell h hj⟩⟩
theorem made_new (w : World) (s : ByteArray) : Made (Lib.bytesWorld w 5 s) w.heap.size (bytesOf s) := by
  refine ⟨_, _, Lib.bytesWorld_at_new w _ s, ?_, fun j hj => ?_⟩
  · rw [bytesOf_length, Lib.bytesCells, Array.size_append, Array.size_map]
    exact Nat.le_add_right _ _
  · rw [bytesOf_length] at hj
    have h := Lib.bytesWorld_cell w 5 s j hj
    have h2 := Lib.bytesWorld_at_new w 5 s
    have e : (s.data.toList.getD j 0).toNat = (bytesOf s).getD j 0 := by
      unfold bytesOf
      rw [List.getD_eq_getElem?_getD, List.getD_eq_getElem?_getD, List.getElem?_map]
      cases s.data.toList[j]? <;> rfl
    rw [← e]
    simpa [World.cell?, h2] using h
/-- A text of which one byte is turned. -/
def turned (s : ByteArray) (k : Nat) (x : Int) : ByteArray := strOfNums ((bytesOf s).set k (bits .xor .u8 ((bytesOf s).getD k 0) x))
end Go.Proofs.Ytgioeghaopoabaa.HMade
