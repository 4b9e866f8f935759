/- The reference's spoiling of a text: one byte turned. Conditions: the text is not empty, the number is none below 0. -/
import Derived.Test.YtclhopldchndiaaProg
import Derived.Below
import Derived.Deep.Draws
import Derived.Deep.AppendLies
import Derived.Maps.AppendAt
import Derived.OwnWalk
import Derived.Laws.BytesArg
import Derived.Laws.MakeOwn
import Derived.Laws.OwnMore
import Derived.Deep.OwnRows
import Derived.Tactics
import Derived.Lib.ConvBytes
import Derived.Laws.Slices
import Derived.WalkKit
import Derived.KernelRfl
import Derived.RowKit3
import Derived.Deep.LoopGhost
import Derived.Deep.QuietTactic
import Derived.BigQuiet
import Derived.WideLaws
import Derived.Deep.DeepCutAuto
import Derived.Deep.CutBlock
import Derived.Deep.RegionHeld3
import Derived.Laws.Rows
import Derived.Lib.AppendStr
import Derived.ArgAppend
import Derived.Laws.IdiomCopy
import Derived.OrdersHeld
import Derived.Laws.BitsLemmas
import Derived.RowKit
import Derived.Test.YtclhopldchndiaaWWords
import Derived.Test.YtclhopldchndiaaWLast
import Derived.Test.YtclhopldchndiaaWTab
import Derived.Test.YtclhopldchndiaaWFour
import Derived.Test.YtclhopldchndiaaWQPut
import Derived.Test.YtclhopldchndiaaWApart
import Derived.Test.YtclhopldchndiaaWArr
import Derived.Test.YtclhopldchndiaaWZeros
import Derived.Test.YtclhopldchndiaaWFoot
import Derived.Test.YtclhopldchndiaaWKept
import Derived.Test.YtclhopldchndiaaWShare
import Derived.Test.YtclhopldchndiaaWN
import Derived.Test.YtclhopldchndiaaWFootNe
import Derived.Test.YtclhopldchndiaaWAt
import Derived.Test.YtclhopldchndiaaWEqStruct
import Derived.Test.YtclhopldchndiaaWRepsOne
import Derived.Test.YtclhopldchndiaaWInv
import Derived.Test.YtclhopldchndiaaWInvWords
import Derived.Test.YtclhopldchndiaaWGuard
import Derived.Test.YtclhopldchndiaaWNEv
import Derived.Test.YtclhopldchndiaaWMore
import Derived.Laws.ResultCell
import Derived.Test.YtclhopldchndiaaAux
namespace Go.Proofs.Ytclhopldchndiaa.HSpoil
open Go Go.RowKit Go.Proofs.YtclhopldchndiaaW.PrintWords Go.Proofs.YtclhopldchndiaaW.PrintLast Go.Proofs.YtclhopldchndiaaW.PrintMore Go.Proofs.Ytclhopldchndiaa.Aux
set_option linter.unusedVariables false
set_option linter.unusedSimpArgs false
/-- In world W block b is a row that '[]byte(s)' made, and it tells xs. -/
def Made (W : World) (b : Nat) (xs : List Int) : Prop := ∃ c m, W.heap[b]? = some (.cells c 5 (m, m + 1)) ∧ xs.length ≤ m ∧ ∀ j, j < xs.length → c[j]? = some (.int .u8 (xs.getD j 0))
theorem made_cell {W : World} {b : Nat} {xs : List Int} (h : Made W b xs) {j : Nat} (hj : j < xs.length) : W.cell? ⟨b, j, none⟩ = some (.int .u8 (xs.getD j 0)) := by
  obtain ⟨c, m, hb, _, hc⟩ := h
  have := hc j hj
  simp [World.cell?, hb, this]
theorem made_frozen {W : World} {b : Nat} {xs : List Int} (h : Made W b xs) {j : Nat} (hj : j < xs.length) : W.frozen? ⟨b, j, none⟩ = false := by
  obtain ⟨c, m, hb, hm, _⟩ := h
  simp only [World.frozen?, hb, Bool.and_eq_false_iff, decide_eq_false_iff_not]
  left
  omega
theorem made_set {W : World} {b : Nat} {xs : List Int} (h : Made W b xs) (k : Nat) (hk : k < xs.length) (x : Int) : Made (W.setCell ⟨b, k, none⟩ (.int .u8 x)) b (xs.set k x) := by
  obtain ⟨c, m, hb, hm, hc⟩ := h
  refine ⟨c.setIfInBounds k (.int .u8 x), m, ?_, by rw [List.length_set]; exact hm, fun j hj => ?_⟩
  · simp [World.setCell, Array.getElem?_modify, hb]
  · rw [List.length_set] at hj
    rw [Array.getElem?_setIfInBounds]
    have hcj := hc j hj
    have hlt : j < c.size := by
      rcases Nat.lt_or_ge j c.size with h' | h'
      · exact h'
      · rw [Array.getElem?_eq_none h'] at hcj
        exact absurd hcj (by simp)
    by_cases e : k = j
    · subst e
      rw [if_pos rfl, if_pos hlt, List.getD_eq_getElem?_getD, List.getElem?_set_self hj]
      rfl
    · rw [if_neg e, hcj, List.getD_eq_getElem?_getD, List.getD_eq_getElem?_getD, List.getElem?_set_ne e]
theorem made_other {W : World} {b : Nat} {xs : List Int} (h : Made W b xs) (a : Addr) (ha : b ≠ a.block) (v : Value) : Made (W.setCell a v) b xs := by
  obtain ⟨c, m, hb, hm, hc⟩ := h
  exact ⟨c, m, (heap_setCell_other W a b v ha).trans hb, hm, hc⟩
theorem made_reads {W : World} {b : Nat} {xs : List Int} (h : Made W b xs) (hl : xs.length ≤ 9223372036854775807) : ReadsInt W .u8 (some ⟨b, 0, none⟩) xs.length xs :=
  ⟨rfl, hl, fun _ => ⟨_, rfl, fun j hj => by rw [add_plain]; exact made_cell h hj⟩⟩
theorem made_new (w : World) (s : ByteArray) : Made (Lib.bytesWorld w 5 s) w.heap.size (bytesOf s) := by
  refine ⟨_, _, Lib.bytesWorld_at_new w _ s, ?_, fun j hj => ?_⟩
  · rw [bytesOf_length, Lib.bytesCells, Array.size_append, Array.size_map]
    exact Nat.le_add_right _ _
  · rw [bytesOf_length] at hj
    have h := Lib.bytesWorld_cell w 5 s j hj
    have h2 := Lib.bytesWorld_at_new w 5 s
    have e : (s.data.toList.getD j 0).toNat = (bytesOf s).getD j 0 := by
      unfold bytesOf
      rw [List.getD_eq_getElem?_getD, List.getD_eq_getElem?_getD, List.getElem?_map]
      cases s.data.toList[j]? <;> rfl
    rw [← e]
    simpa [World.cell?, h2] using h
/-- A text of which one byte is turned. -/
def turned (s : ByteArray) (k : Nat) (x : Int) : ByteArray := strOfNums ((bytesOf s).set k (bits .xor .u8 ((bytesOf s).getD k 0) x))
theorem spoil_any (s : ByteArray) (n : Int) (w : World) (hs : 0 < s.size) (hz : s.size ≤ 1000000) (hn : 0 ≤ n) (hn1 : n ≤ 9223372036854775807) :
    Calls Try.prog 98 #[.string s, .int .i64 n] w fun e w' => e = .returned (.agg #[.string (turned s (n % 4096 % s.size).toNat (1 + n / 4096 % 127)), .bool true]) ∧ Below w.heap.size w w' := by
  obtain ⟨k, hk⟩ := Int.eq_ofNat_of_zero_le (a := n % 4096 % s.size) (Int.emod_nonneg _ (by omega))
  have hkl : k < s.size := by
    have := Int.emod_lt_of_pos (n % 4096) (b := (s.size : Int)) (by omega)
    omega
  have h0 : ¬ s = ByteArray.empty := by
    intro e
    rw [e] at hs
    exact absurd hs (by decide)
  have ek : (n.tmod 4096).tmod (s.size : Int) = (k : Int) := by rw [tmodp hn, tmodp (by omega), hk]
  have ex : (n.tdiv 4096).tmod 127 = n / 4096 % 127 := by rw [tdivp hn, tmodp (by omega)]
  obtain ⟨x, hx⟩ : ∃ x, x = n / 4096 % 127 := ⟨_, rfl⟩
  rw [← hx] at ex ⊢
  have x0 : 0 ≤ x ∧ x < 127 := by omega
  have e0 : (0 : Int) ≤ (k : Int) := by omega
  have e1 : (k : Int) < (s.size : Int) := by omega
  have e2 : (k : Int).toNat = k := Int.toNat_natCast k
  rw [hk, e2]
  have hm := made_new (w.alloc (.cells #[.string ⟨#[]⟩, .bool false] 127)) s
  have hsz : (w.alloc (.cells #[.string ⟨#[]⟩, .bool false] 127)).heap.size = w.heap.size + 1 := by simp
  rw [hsz] at hm
  have HM := Aside0.mk hm
  have hlen := bytesOf_length s
  have hc := made_cell hm (j := k) (by omega)
  have hf := made_frozen hm (j := k) (by omega)
  have kc : ∀ (y : Int) (c : Nat), (convert 28 9 (.slice (some ⟨w.heap.size + 1, 0, none⟩) s.size c)).run Try.prog ((Lib.bytesWorld (w.alloc (.cells #[.string ⟨#[]⟩, .bool false] 127)) 5 s).setCell ⟨w.heap.size + 1, k, none⟩ (.int .u8 y)) = .ok (.string (strOfNums ((bytesOf s).set k y))) ((Lib.bytesWorld (w.alloc (.cells #[.string ⟨#[]⟩, .bool false] 127)) 5 s).setCell ⟨w.heap.size + 1, k, none⟩ (.int .u8 y)) := by
    intro y c
    have h2 := made_reads (made_set hm k (by omega) y) (by rw [List.length_set]; omega)
    rw [List.length_set, hlen] at h2
    exact string_of_reads Try.underlying28 Try.underlying5 Try.underlying9 h2
  have kg : ∀ y : Int, ((Lib.bytesWorld (w.alloc (.cells #[.string ⟨#[]⟩, .bool false] 127)) 5 s).setCell ⟨w.heap.size + 1, k, none⟩ (.int .u8 y)).heap[w.heap.size]? = some (.cells #[.string ⟨#[]⟩, .bool false] 127 (0, 0)) := by
    intro y
    rw [heap_setCell_other _ _ _ _ (by show w.heap.size ≠ w.heap.size + 1; omega), Lib.bytesWorld_at_old _ _ _ _ (by simp)]
    exact heap_alloc_new _ _
  have kg0 : ∀ y : Int, ((Lib.bytesWorld (w.alloc (.cells #[.string ⟨#[]⟩, .bool false] 127)) 5 s).setCell ⟨w.heap.size + 1, k, none⟩ (.int .u8 y)).cell? ⟨w.heap.size, 0, none⟩ = some (.string ⟨#[]⟩) := fun y => (blk_cell (kg y) 0).trans rfl
  have kg1 : ∀ y : Int, ((Lib.bytesWorld (w.alloc (.cells #[.string ⟨#[]⟩, .bool false] 127)) 5 s).setCell ⟨w.heap.size + 1, k, none⟩ (.int .u8 y)).cell? ⟨w.heap.size, 1, none⟩ = some (.bool false) := fun y => (blk_cell (kg y) 1).trans rfl
  have kf0 : ∀ (y : Int), ((Lib.bytesWorld (w.alloc (.cells #[.string ⟨#[]⟩, .bool false] 127)) 5 s).setCell ⟨w.heap.size + 1, k, none⟩ (.int .u8 y)).frozen? ⟨w.heap.size, 0, none⟩ = false := fun y => blk_frozen (kg y) 0
  have kf1 : ∀ (y : Int), ((Lib.bytesWorld (w.alloc (.cells #[.string ⟨#[]⟩, .bool false] 127)) 5 s).setCell ⟨w.heap.size + 1, k, none⟩ (.int .u8 y)).frozen? ⟨w.heap.size, 1, none⟩ = false := fun y => blk_frozen (kg y) 1
  have KG := Aside0.mk kg
  clear kg
  have ew0 : wrap64 (n.tdiv 4096) = n.tdiv 4096 := by rw [tdivp hn]; exact w64 (by omega) (by omega)
  have ew1 : wrap64 (1 + x) = 1 + x := w64 (by omega) (by omega)
  have ew2 : (1 + x) % 256 = 1 + x := by omega
  have HK := Aside0.mk hkl
  have X0 := Aside0.mk x0
  clear hs hz hn hn1 hk hx hm hlen hsz hkl x0
  have kb := fun W => print_bytes (P := Try.prog) 9 28 5 Try.underlying9 Try.underlying28 Try.underlying5 s W
  go_enter Try.func98, Try.ntmps98
  go_wp2
  refine bodyPost_ret (v := .agg #[.string (turned s k (1 + x)), .bool true]) (results_cell_row rfl _ _ w.heap.size 127 _ (0, 0) _ rfl (blk_set (blk_set (KG.out _) 0 _) 1 _) Try.underlying127 rfl (by kernel_rfl)) rfl ⟨rfl, ?_⟩
  have hB := bytes_below ((Below.refl w.heap.size w).alloc (Nat.le_refl _) (.cells #[.string ⟨#[]⟩, .bool false] 127)) (by simp) 5 s
  exact ((hB.setCell (by show w.heap.size ≤ w.heap.size + 1; omega) _).setCell (Nat.le_refl _) _).setCell (Nat.le_refl _) _
end Go.Proofs.Ytclhopldchndiaa.HSpoil
