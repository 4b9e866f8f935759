/- The book of rules: made of a list (bookOf). Conditions: the numbers are ints, the list is small. -/
import Derived.Test.YtnadkhgdeofheaaProg
import Derived.Below
import Derived.Deep.Draws
import Derived.Deep.AppendLies
import Derived.Maps.AppendAt
import Derived.OwnWalk
import Derived.Laws.BytesArg
import Derived.Laws.MakeOwn
import Derived.Laws.OwnMore
import Derived.Deep.OwnRows
import Derived.Tactics
import Derived.Lib.ConvBytes
import Derived.Laws.Slices
import Derived.WalkKit
import Derived.KernelRfl
import Derived.RowKit3
import Derived.Deep.LoopGhost
import Derived.Deep.QuietTactic
import Derived.BigQuiet
import Derived.WideLaws
import Derived.Deep.DeepCutAuto
import Derived.Deep.CutBlock
import Derived.Deep.RegionHeld3
import Derived.Laws.Rows
import Derived.Lib.AppendStr
import Derived.ArgAppend
import Derived.Laws.IdiomCopy
import Derived.OrdersHeld
import Derived.Laws.BitsLemmas
import Derived.RowKit
import Derived.Test.YtnadkhgdeofheaaWWords
import Derived.Test.YtnadkhgdeofheaaWLast
import Derived.Test.YtnadkhgdeofheaaWTab
import Derived.Test.YtnadkhgdeofheaaWFour
import Derived.Test.YtnadkhgdeofheaaWQPut
import Derived.Test.YtnadkhgdeofheaaWApart
import Derived.Test.YtnadkhgdeofheaaWArr
import Derived.Test.YtnadkhgdeofheaaWZeros
import Derived.Test.YtnadkhgdeofheaaWFoot
import Derived.Test.YtnadkhgdeofheaaWKept
import Derived.Test.YtnadkhgdeofheaaWShare
import Derived.Test.YtnadkhgdeofheaaWN
import Derived.Test.YtnadkhgdeofheaaWFootNe
import Derived.Test.YtnadkhgdeofheaaWAt
import Derived.Test.YtnadkhgdeofheaaWEqStruct
import Derived.Test.YtnadkhgdeofheaaWRepsOne
import Derived.Test.YtnadkhgdeofheaaWInv
import Derived.Test.YtnadkhgdeofheaaWInvWords
import Derived.Test.YtnadkhgdeofheaaWGuard
import Derived.Test.YtnadkhgdeofheaaWNEv
import Derived.Test.YtnadkhgdeofheaaWMore
import Derived.Laws.ResultCell
import Derived.Test.YtnadkhgdeofheaaHBook2
namespace Go.Proofs.Ytnadkhgdeofheaa.HBook
open Go Go.RowKit Go.Proofs.YtnadkhgdeofheaaW.PrintWords Go.Proofs.YtnadkhgdeofheaaW.PrintLast Go.Proofs.YtnadkhgdeofheaaW.PrintMore Go.Proofs.Ytnadkhgdeofheaa.Aux Go.Proofs.Ytnadkhgdeofheaa.HRound Go.Proofs.Ytnadkhgdeofheaa.HMap
set_option linter.unusedVariables false
set_option linter.unusedSimpArgs false
/-- One rule more: with the one of its key, or behind all. -/
def addL (xs : List Rl) (x : Rl) : List Rl := match (xs.map key).findIdx? (fun k => decide (k = key x)) with
  | some i => xs.set i (merge (xs.getD i zR) x)
  | none => xs ++ [x]
/-- The rules of a list's book. -/
def bookL (l : List Rl) : List Rl := l.foldl (fun acc r => if (r.f4 || r.f5) = true then addL acc r else acc) []
theorem bookL_snoc (l : List Rl) (x : Rl) : bookL (l ++ [x]) = if (x.f4 || x.f5) = true then addL (bookL l) x else bookL l := by
  unfold bookL
  rw [List.foldl_append]
  rfl
theorem addL_cases (xs : List Rl) (x : Rl) : (key x ∉ xs.map key ∧ addL xs x = xs ++ [x]) ∨ ∃ i y, xs[i]? = some y ∧ key y = key x ∧ addL xs x = xs.set i (merge y x) := by
  unfold addL
  cases h : (xs.map key).findIdx? (fun k => decide (k = key x)) with
  | none =>
    refine Or.inl ⟨fun hm => ?_, rfl⟩
    have := List.findIdx?_eq_none_iff.1 h _ hm
    simp at this
  | some i =>
    obtain ⟨hl, hp, _⟩ := List.findIdx?_eq_some_iff_getElem.1 h
    rw [List.length_map] at hl
    refine Or.inr ⟨i, xs[i], List.getElem?_eq_getElem hl, ?_, ?_⟩
    · have := of_decide_eq_true hp
      rw [List.getElem_map] at this
      exact this
    · dsimp only
      rw [List.getD_eq_getElem?_getD, List.getElem?_eq_getElem hl]
      rfl
/-- What holds of a book's rules. -/
def Good (xs : List Rl) (n : Nat) : Prop := xs.length ≤ n ∧ (∀ y ∈ xs, RuleWf y) ∧ (xs.map key).Nodup
theorem good_add {xs : List Rl} {n : Nat} {x : Rl} (h : Good xs n) (hx : RuleWf x) : Good (addL xs x) (n + 1) := by
  obtain ⟨h1, h2, h3⟩ := h
  rcases addL_cases xs x with ⟨hno, e⟩ | ⟨i, y, hy, hk, e⟩
  · rw [e]
    refine ⟨by rw [List.length_append, List.length_singleton]; omega, fun z hz => ?_, ?_⟩
    · rcases List.mem_append.1 hz with hz | hz
      · exact h2 z hz
      · rw [List.mem_singleton.1 hz]
        exact hx
    · rw [List.map_append, List.nodup_append]
      refine ⟨h3, by simp, fun a ha b hb => ?_⟩
      rintro rfl
      obtain rfl : a = key x := by simpa using hb
      exact hno ha
  · rw [e]
    refine ⟨by rw [List.length_set]; omega, fun z hz => ?_, ?_⟩
    · rcases List.mem_or_eq_of_mem_set hz with hz | rfl
      · exact h2 z hz
      · exact h2 y (List.mem_of_getElem? hy)
    · rw [keys_set hy (show key (merge y x) = key y from rfl)]
      exact h3
theorem good_book (l : List Rl) (hw : ∀ y ∈ l, RuleWf y) : Good (bookL l) l.length := by
  induction h : l.length generalizing l with
  | zero =>
    rw [List.length_eq_zero_iff.1 h]
    exact ⟨Nat.le_refl _, fun y hy => absurd hy (by simp [bookL]), by simp [bookL]⟩
  | succ n ih =>
    have hne : l ≠ [] := by
      rintro rfl
      simp at h
    obtain ⟨xs, x, rfl⟩ : ∃ xs x, l = xs ++ [x] := ⟨_, _, (List.dropLast_concat_getLast hne).symm⟩
    rw [List.length_append, List.length_singleton] at h
    have ih' := ih xs (fun y hy => hw y (by simp [hy])) (by omega)
    rw [bookL_snoc]
    split
    · have := good_add ih' (hw x (by simp))
      exact this
    · exact ⟨by have := ih'.1; omega, ih'.2⟩
theorem add_any (g mb base : Nat) (W : World) (v : Value) (xs : List Rl) (x : Rl) (hB : Book g mb base W v xs) (hg : Good xs 1000) (hx : RuleWf x) :
    Calls Try.prog 36 #[.pointer (some ⟨g, 0, none⟩), .agg #[.int .i64 x.f0, .int .i64 x.f1, .int .i64 x.f2, .int .i64 x.f3, .bool x.f4, .bool x.f5]] W fun e W' => (∃ u, e = .returned u) ∧ (∃ v', Book g mb base W' v' (addL xs x)) ∧ Below base W W' := by
  rcases addL_cases xs x with ⟨hno, e⟩ | ⟨i, y, hy, hk, e⟩
  · rw [e]
    exact add_new g mb base W v xs x hB hg.1 hg.2.1 hg.2.2 hx hno
  · rw [e]
    exact add_old g mb base W v xs x hB hg.1 hg.2.1 hg.2.2 hx i y hy hk
theorem at_R {w : World} {A : Option Addr} {n : Nat} {xs : List Rl} {i : Nat} {y : Rl} (h : Kd.C kR w A n xs) (hi : i < n) (hy : xs[i]? = some y) : ∃ ad, A = some ad ∧ w.cell? (ad.add (i * 6)) = some (.int .i64 y.f0) ∧ w.cell? ⟨(ad.add (i * 6)).block, (ad.add (i * 6)).off + 1, none⟩ = some (.int .i64 y.f1) ∧ w.cell? ⟨(ad.add (i * 6)).block, (ad.add (i * 6)).off + 2, none⟩ = some (.int .i64 y.f2) ∧ w.cell? ⟨(ad.add (i * 6)).block, (ad.add (i * 6)).off + 3, none⟩ = some (.int .i64 y.f3) ∧ w.cell? ⟨(ad.add (i * 6)).block, (ad.add (i * 6)).off + 4, none⟩ = some (.bool y.f4) ∧ w.cell? ⟨(ad.add (i * 6)).block, (ad.add (i * 6)).off + 5, none⟩ = some (.bool y.f5) := by
  obtain ⟨ad, c, e, _, hK, hc0⟩ := Kd.C_get h zR (i : Int) (by omega) (by omega)
  rw [Int.toNat_natCast, List.getD_eq_getElem?_getD, hy] at hK
  rw [Int.toNat_natCast] at hc0
  have hc : ∀ j u, c[j]? = some u → w.cell? (ad.add (i * 6 + j)) = some u := hc0
  obtain rfl := kR_open hK
  exact ⟨ad, e, hc 0 _ rfl, by rw [← add_field _ _ 1 (by omega)]; exact hc 1 _ rfl, by rw [← add_field _ _ 2 (by omega)]; exact hc 2 _ rfl, by rw [← add_field _ _ 3 (by omega)]; exact hc 3 _ rfl, by rw [← add_field _ _ 4 (by omega)]; exact hc 4 _ rfl, by rw [← add_field _ _ 5 (by omega)]; exact hc 5 _ rfl⟩
theorem num_eq {a b : Int} (h : a = b) : Value.int .i64 a = .int .i64 b := by rw [h]
set_option maxHeartbeats 4000000 in
theorem book_any (A : Option Addr) (c : Nat) (l : List Rl) (w : World) (hC : Kd.C kR w A l.length l) (hc : l.length ≤ c) (hl : l.length ≤ 900) (hw : ∀ y ∈ l, RuleWf y) :
    Calls Try.prog 27 #[.slice A l.length c] w fun e w' => ∃ mb v, e = .returned (.agg #[.map (some mb), v]) ∧ Kd.R kR 31 w' w.heap.size (fun _ => True) v (bookL l) ∧ MapOk w' mb ((bookL l).map key) ∧ w.heap.size ≤ mb ∧ Below w.heap.size w w' := by
  have hmm := @run_makeMap Try.prog
  have HC := Aside0.mk hC
  have HW := Aside0.mk hw
  have HL := Aside0.mk hl
  clear hC hc hw hl
  go_enter Try.func27, Try.ntmps27
  go_wp2
  obtain ⟨W0, hW0⟩ : ∃ W0, W0 = ((w.alloc (.cells #[.map none, .slice none 0 0] 54)).alloc (.map #[] 0)).alloc (.cells #[.map (some (w.heap.size + 1)), .slice none 0 0] 54) := ⟨_, rfl⟩
  have hx0 : W0.heap[w.heap.size]? = some (.cells #[.map none, .slice none 0 0] 54 (0, 0)) := by
    rw [hW0, Below.heap_alloc _ _ _ (by simp; omega), Below.heap_alloc _ _ _ (by simp)]
    exact World.alloc_heap_new w _
  have hx2 : W0.heap[w.heap.size + 1 + 1]? = some (.cells #[.map (some (w.heap.size + 1)), .slice none 0 0] 54 (0, 0)) := by
    have := World.alloc_heap_new ((w.alloc (.cells #[.map none, .slice none 0 0] 54)).alloc (.map #[] 0)) (.cells #[.map (some (w.heap.size + 1)), .slice none 0 0] 54)
    rw [World.size_alloc, World.size_alloc] at this
    rw [hW0]
    exact this
  have hm0 : MapOk W0 (w.heap.size + 1) [] := by
    have h := HMap.made (w.alloc (.cells #[.map none, .slice none 0 0] 54))
    rw [World.size_alloc] at h
    refine HMap.same h ?_
    rw [hW0]
    exact Below.heap_alloc _ _ _ (by simp)
  have hb0 : Below w.heap.size w W0 := by
    rw [hW0]
    exact (((Below.refl _ w).alloc (Nat.le_refl _) _).alloc (by simp) _).alloc (by simp; omega) _
  have HB0 : Aside0 (Book (w.heap.size + 1 + 1) (w.heap.size + 1) (w.heap.size + 1) W0 (.slice none 0 0) []) := ⟨hx2, Kd.R_nil _ _ _ _ _, hm0, by omega, Nat.le_refl _⟩
  have HX0 := Aside0.mk hx0
  have HBe0 := Aside0.mk hb0
  rw [← hW0]
  clear hW0 hx0 hx2 hm0 hb0
  go_loopw [10] (fun x10 wr => ∃ k : Nat, k ≤ l.length ∧ x10 = .int .i64 (k : Int) ∧ (∃ v, Book (w.heap.size + 1 + 1) (w.heap.size + 1) (w.heap.size + 1) wr v (bookL (l.take k))) ∧ wr.heap[w.heap.size]? = some (.cells #[.map none, .slice none 0 0] 54 (0, 0)) ∧ Below w.heap.size w wr) (fun x10 wr => l.length - (intOf x10).toNat)
  case atStart => exact ⟨0, Nat.zero_le _, rfl, ⟨_, HB0.out⟩, HX0.out, HBe0.out⟩
  case round =>
    obtain ⟨k, hk, rfl, ⟨v, hB⟩, hres, hBel⟩ := hrel
    have HB := Aside0.mk hB
    have HRes := Aside0.mk hres
    have HBel := Aside0.mk hBel
    have hws := hBel.size
    have hwl : w.heap.size < wr.heap.size := (Array.getElem?_eq_some_iff.1 hres).1
    clear HB0 HX0 HBe0
    by_cases hlt : k < l.length
    · obtain ⟨y, hy⟩ : ∃ y, l[k]? = some y := ⟨_, List.getElem?_eq_getElem hlt⟩
      have HTK := Aside0.mk (show l.take (k + 1) = l.take k ++ [y] by rw [List.take_succ_eq_append_getElem hlt]; rw [List.getElem?_eq_getElem hlt] at hy; rw [Option.some.inj hy])
      have HX := Aside0.mk (HW.out y (List.mem_of_getElem? hy))
      have HGd : Aside0 (Good (bookL (l.take k)) 1000) := ⟨by
        have hg := good_book (l.take k) (fun z hz => HW.out z (List.mem_of_mem_take hz))
        have := hg.1
        have h3 := List.length_take_le k l
        have := HL.out
        exact ⟨by omega, hg.2⟩⟩
      have HK1 := Aside0.mk (show k + 1 ≤ l.length by omega)
      have hll := HL.out
      obtain ⟨ad, rfl, q0, q1, q2, q3, q4, q5⟩ := at_R (Kd.C_below HC.out hBel) hlt hy
      clear hB hres hBel hy
      have d1 : decide ((k : Int) < (l.length : Int)) = true := decide_eq_true (by omega)
      have d2 : decide (k < l.length) = true := decide_eq_true hlt
      have d3 : ((k : Int) < (l.length : Int)) = True := eq_true (by omega)
      have d4 : (0 ≤ (k : Int)) = True := eq_true (by omega)
      have d5 : (k < l.length) = True := eq_true hlt
      obtain ⟨a0, a1, a2, a3, b4, b5⟩ := y
      dsimp only at q0 q1 q2 q3 q4 q5
      cases b4
      · cases b5
        · go_wp2
          go_roundw
          case rel =>
            refine ⟨k + 1, HK1.out, num_eq (by omega), ⟨v, ?_⟩, ?_, ?_⟩
            · rw [HTK.out, bookL_snoc, if_neg (show ¬ (false || false) = true by decide)]
              exact book_same HB.out ((Below.refl _ wr).alloc (Nat.le_refl _) _)
            · exact (Below.heap_alloc _ _ _ (by omega)).trans HRes.out
            · exact HBel.out.alloc hws _
          case measure =>
            simp [intOf]
            omega
        · have tt := True.intro
          go_wp2_with (go_at_call 36; refine (add_any (w.heap.size + 1 + 1) (w.heap.size + 1) (w.heap.size + 1) _ v (bookL (l.take k)) ⟨a0, a1, a2, a3, false, true⟩ (book_same HB.out ((Below.refl _ wr).alloc (Nat.le_refl _) _)) HGd.out HX.out).mono ?_; rintro e w1 ⟨⟨u, rfl⟩, ⟨v', hB'⟩, hb'⟩)
          have HB' := Aside0.mk hB'
          have HBe' := Aside0.mk hb'
          clear hB' hb'
          go_wp2
          go_roundw
          case rel =>
            refine ⟨k + 1, HK1.out, num_eq (by omega), ⟨v', ?_⟩, ?_, ?_⟩
            · rw [HTK.out, bookL_snoc, if_pos (by rfl)]
              exact HB'.out
            · exact (HBe'.out.block _ (by show w.heap.size < w.heap.size + 1; omega)).trans ((Below.heap_alloc _ _ _ (by omega)).trans HRes.out)
            · exact (HBel.out.alloc hws _).trans (HBe'.out.mono (Nat.le_succ _))
          case measure =>
            simp [intOf]
            omega
      · have tt := True.intro
        go_wp2_with (go_at_call 36; refine (add_any (w.heap.size + 1 + 1) (w.heap.size + 1) (w.heap.size + 1) _ v (bookL (l.take k)) ⟨a0, a1, a2, a3, true, b5⟩ (book_same HB.out ((Below.refl _ wr).alloc (Nat.le_refl _) _)) HGd.out HX.out).mono ?_; rintro e w1 ⟨⟨u, rfl⟩, ⟨v', hB'⟩, hb'⟩)
        have HB' := Aside0.mk hB'
        have HBe' := Aside0.mk hb'
        clear hB' hb'
        go_wp2
        go_roundw
        case rel =>
          refine ⟨k + 1, HK1.out, num_eq (by omega), ⟨v', ?_⟩, ?_, ?_⟩
          · rw [HTK.out, bookL_snoc, if_pos (by rfl)]
            exact HB'.out
          · exact (HBe'.out.block _ (by show w.heap.size < w.heap.size + 1; omega)).trans ((Below.heap_alloc _ _ _ (by omega)).trans HRes.out)
          · exact (HBel.out.alloc hws _).trans (HBe'.out.mono (Nat.le_succ _))
        case measure =>
          simp [intOf]
          omega
    · have hk2 : k = l.length := by omega
      have d1 : decide ((k : Int) < (l.length : Int)) = false := decide_eq_false (by omega)
      have d2 : decide (k < l.length) = false := decide_eq_false hlt
      obtain ⟨hg, hR, hM, _, _⟩ := hB
      obtain ⟨A2, c2, rfl⟩ := Kd.R_slice hR
      obtain ⟨L2, hL2⟩ : ∃ L, L = (bookL (l.take k)).length := ⟨_, rfl⟩
      rw [← hL2] at hg hR
      have HR := Aside0.mk hR
      have HM := Aside0.mk hM
      have HTK := Aside0.mk (show l.take k = l by rw [hk2]; exact List.take_length)
      have c0 : wr.cell? ⟨w.heap.size + 1 + 1, 0, none⟩ = some (.map (some (w.heap.size + 1))) := (blk_cell hg 0).trans rfl
      have c1 : wr.cell? ⟨w.heap.size + 1 + 1, 1, none⟩ = some (.slice A2 L2 c2) := (blk_cell hg 1).trans rfl
      have e0 : wr.cell? ⟨w.heap.size, 0, none⟩ = some (.map none) := (blk_cell hres 0).trans rfl
      have e1 : wr.cell? ⟨w.heap.size, 1, none⟩ = some (.slice none 0 0) := (blk_cell hres 1).trans rfl
      have f0 : wr.frozen? ⟨w.heap.size, 0, none⟩ = false := blk_frozen hres 0
      have f1 : wr.frozen? ⟨w.heap.size, 1, none⟩ = false := blk_frozen hres 1
      clear hres hBel hk2 hL2 hR hM hg hk hlt
      go_wp2
      refine bodyPost_ret (v := .agg #[.map (some (w.heap.size + 1)), .slice A2 L2 c2]) (results_cell_row rfl _ _ w.heap.size 54 _ (0, 0) _ rfl (blk_set (blk_set HRes.out 0 _) 1 _) Try.underlying54 rfl (by kernel_rfl)) rfl ⟨w.heap.size + 1, .slice A2 L2 c2, rfl, ?_, ?_, Nat.le_succ _, ?_⟩
      · have h := Kd.R_set (Kd.R_set HR.out HRes.out (fun z hz => rules_ne hz) 0 (.map (some (w.heap.size + 1)))) (blk_set HRes.out 0 _) (fun z hz => rules_ne hz) 1 (.slice A2 L2 c2)
        rw [HTK.out] at h
        exact Kd.R_lower h (Nat.le_succ _)
      · have h := HM.out
        rw [HTK.out] at h
        refine HMap.same h ?_
        exact (Below.heap_setCell _ _ _ _ (by show w.heap.size + 1 ≠ w.heap.size; omega)).trans (Below.heap_setCell _ _ _ _ (by show w.heap.size + 1 ≠ w.heap.size; omega))
      · exact (HBel.out.setCell (Nat.le_refl _) _).setCell (Nat.le_refl _) _
end Go.Proofs.Ytnadkhgdeofheaa.HBook
