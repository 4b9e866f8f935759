/- FnPlanShift: what waits longer, and then as much less, waits as it did. For all bytes from which a plan, a time and a number are drawn; no condition. -/
import Derived.Test.YthiddhipphaacaaPFnPlanShiftx9
import Derived.Test.YthiddhipphaacaaAux
namespace Go.Proofs.Ythiddhipphaacaa.Pure
open Go Go.RowKit Go.Proofs.Ythiddhipphaacaa.PFnPlanShift Go.Proofs.YthiddhipphaacaaW.PrintWords Go.Proofs.YthiddhipphaacaaW.PrintLast Go.Proofs.YthiddhipphaacaaW.PrintMore Go.Proofs.Ythiddhipphaacaa.Aux

namespace FnPlanShiftL
theorem l1In_at (a b c : Int) : spec_l1In.f a b c = some (decide (b ≤ a ∧ a ≤ c)) := by
  unfold spec_l1In.f
  by_cases h : b ≤ a
  · rw [if_pos h]
    simp [h]
  · rw [if_neg h]
    simp [h]
theorem within_at (a c : Int) : impl_within.f a c = some (decide (0 ≤ a ∧ a ≤ c)) := by
  unfold impl_within.f
  by_cases h : 0 ≤ a
  · rw [if_pos h]
    simp [h]
  · rw [if_neg h]
    simp [h]
theorem up {i : Nat} (h : i < 9223372036854775807) : wrap64 ((i : Int) + 1) = ((i + 1 : Nat) : Int) := by
  rw [w64 (by omega) (by omega)]
  omega
theorem rdOf_at {α : Type} (d : α) (l : List α) (i : Nat) (h : i < l.length) : rdOf d l (i : Int) = l[i] := by
  unfold rdOf
  rw [Int.toNat_natCast, List.getD_eq_getElem?_getD, List.getElem?_eq_getElem h]
  rfl
/-- A list that is filled from its begin on. -/
theorem fill_take {α : Type} (l ys : List α) (i : Nat) (hi : i < l.length) (hl : ys.length = l.length) (h : ys.take i = l.take i) : (ys.set i l[i]).take (i + 1) = l.take (i + 1) := by
  have h1 : i < (ys.set i l[i]).length := by rw [List.length_set]; omega
  rw [List.take_succ_eq_append_getElem h1, List.take_succ_eq_append_getElem hi, List.getElem_set_self, List.take_set_of_le (Nat.le_refl _), h]
theorem planTextOk_at (s : ByteArray) : impl_planTextOk.f s = some (decide (1 ≤ (s.size : Int) ∧ (s.size : Int) ≤ 60)) := by
  unfold impl_planTextOk.f
  by_cases h : 1 ≤ (s.size : Int)
  · rw [if_pos h]
    simp [h]
  · rw [if_neg h]
    simp [h]
/-- Is item i within limits, and not ahead of the one before it? -/
def okAt (l : List (S32)) (i : Nat) : Bool := decide (0 ≤ (rd_T32 l (i : Int)).f0 ∧ (rd_T32 l (i : Int)).f0 ≤ 99999) && (decide (1 ≤ (((rd_T32 l (i : Int)).f1).size : Int) ∧ (((rd_T32 l (i : Int)).f1).size : Int) ≤ 60) &&
  (!decide ((i : Int) > 0) || !decide ((rd_T32 l ((i : Int) - 1)).f0 > (rd_T32 l (i : Int)).f0)))
/-- Are the next so many from item i on? -/
def okFrom (l : List (S32)) : Nat → Nat → Bool
  | 0, _ => true
  | d + 1, i => okAt l i && okFrom l d (i + 1)
/-- PlanOk's answer. -/
def planOk (l : List (S32)) : Bool := okFrom l l.length 0 && decide ((l.length : Int) ≤ 6)
theorem specPlanOk_step (k i : Nat) (on : Bool) (l : List (S32)) (hl : l.length ≤ 9223372036854775807) (hil : i < l.length) :
    spec_PlanOk.l0 (k + 1) (i : Int) on l = if okAt l i = true then spec_PlanOk.l0 k ((i + 1 : Nat) : Int) on l else some false := by
  simp only [spec_PlanOk.l0, l1In_at, Option.bind_some]
  rw [if_pos (by omega), if_pos (by omega), up (by omega), w64 (x := (i : Int) - 1) (by omega) (by omega), okAt]
  generalize decide (0 ≤ (rd_T32 l (i : Int)).f0 ∧ (rd_T32 l (i : Int)).f0 ≤ 99999) = b1
  generalize decide (1 ≤ (((rd_T32 l (i : Int)).f1).size : Int) ∧ (((rd_T32 l (i : Int)).f1).size : Int) ≤ 60) = b2
  by_cases h : (i : Int) > 0
  · simp only [if_pos h, if_pos (show 0 ≤ (i : Int) - 1 by omega), if_pos (show (i : Int) - 1 < (l.length : Int) by omega), decide_eq_true h]
    by_cases h2 : (rd_T32 l ((i : Int) - 1)).f0 > (rd_T32 l (i : Int)).f0
    · simp only [if_pos h2, decide_eq_true h2]
      cases b1 <;> cases b2 <;> rfl
    · simp only [if_neg h2, decide_eq_false h2]
      cases b1 <;> cases b2 <;> rfl
  · simp only [if_neg h, decide_eq_false h]
    cases b1 <;> cases b2 <;> rfl
theorem specPlanOk_l0 (d : Nat) : ∀ (k i : Nat) (on : Bool) (l : List (S32)), d < k → l.length ≤ 9223372036854775807 → i + d = l.length →
    spec_PlanOk.l0 k (i : Int) on l = some (okFrom l d i && decide ((l.length : Int) ≤ 6)) := by
  induction d with
  | zero =>
    intro k i on l hk hl hi
    obtain ⟨k, rfl⟩ : ∃ m, k = m + 1 := ⟨k - 1, by omega⟩
    simp only [spec_PlanOk.l0]
    rw [if_neg (by omega)]
    rfl
  | succ d ih =>
    intro k i on l hk hl hi
    obtain ⟨k, rfl⟩ : ∃ m, k = m + 1 := ⟨k - 1, by omega⟩
    rw [specPlanOk_step k i on l hl (by omega), okFrom]
    cases h : okAt l i with
    | false => rfl
    | true => rw [if_pos rfl, ih k (i + 1) on l (by omega) hl (by omega), Bool.true_and]
theorem specPlanOk_at (k : Nat) (on : Bool) (l : List (S32)) (hk : l.length < k) (hl : l.length ≤ 9223372036854775807) : spec_PlanOk.f k on l = some (planOk l) := by
  unfold spec_PlanOk.f planOk
  exact specPlanOk_l0 l.length k 0 on l hk hl (by omega)
theorem implPlanOk_step (k i : Nat) (on : Bool) (l : List (S32)) (hl : l.length ≤ 9223372036854775807) (hil : i < l.length) :
    impl_PlanOk.l0 (k + 2) l (l.length : Int) (i : Int) on l = if okAt l i = true then impl_PlanOk.l0 k l (l.length : Int) ((i + 1 : Nat) : Int) on l else some false := by
  simp only [impl_PlanOk.l0, within_at, planTextOk_at, Option.bind_some, impl_PlanOk.j1]
  rw [if_pos (by omega), if_pos (by omega), if_pos (by omega), up (by omega), w64 (x := (i : Int) - 1) (by omega) (by omega), okAt]
  generalize decide (0 ≤ (rd_T32 l (i : Int)).f0 ∧ (rd_T32 l (i : Int)).f0 ≤ 99999) = b1
  generalize decide (1 ≤ (((rd_T32 l (i : Int)).f1).size : Int) ∧ (((rd_T32 l (i : Int)).f1).size : Int) ≤ 60) = b2
  by_cases h : (i : Int) > 0
  · simp only [if_pos h, if_pos (show 0 ≤ (i : Int) - 1 by omega), if_pos (show (i : Int) - 1 < (l.length : Int) by omega), decide_eq_true h]
    by_cases h2 : (rd_T32 l ((i : Int) - 1)).f0 > (rd_T32 l (i : Int)).f0
    · simp only [if_pos (show (rd_T32 l (i : Int)).f0 < (rd_T32 l ((i : Int) - 1)).f0 from h2), decide_eq_true h2]
      cases b1 <;> cases b2 <;> rfl
    · simp only [if_neg (show ¬ (rd_T32 l (i : Int)).f0 < (rd_T32 l ((i : Int) - 1)).f0 from h2), decide_eq_false h2]
      cases b1 <;> cases b2 <;> rfl
  · simp only [if_neg h, decide_eq_false h]
    cases b1 <;> cases b2 <;> rfl
theorem implPlanOk_l0 (d : Nat) : ∀ (k i : Nat) (on : Bool) (l : List (S32)), 2 * d < k → l.length ≤ 9223372036854775807 → i + d = l.length →
    impl_PlanOk.l0 k l (l.length : Int) (i : Int) on l = some (okFrom l d i) := by
  induction d with
  | zero =>
    intro k i on l hk hl hi
    obtain ⟨k, rfl⟩ : ∃ m, k = m + 1 := ⟨k - 1, by omega⟩
    simp only [impl_PlanOk.l0]
    rw [if_neg (by omega)]
    rfl
  | succ d ih =>
    intro k i on l hk hl hi
    obtain ⟨k, rfl⟩ : ∃ m, k = m + 2 := ⟨k - 2, by omega⟩
    rw [implPlanOk_step k i on l hl (by omega), okFrom]
    cases h : okAt l i with
    | false => rfl
    | true => rw [if_pos rfl, ih k (i + 1) on l (by omega) hl (by omega), Bool.true_and]
theorem implPlanOk_at (k : Nat) (on : Bool) (l : List (S32)) (hk : 2 * l.length < k) (hl : l.length ≤ 9223372036854775807) : impl_PlanOk.f k on l = some (planOk l) := by
  have h0 : impl_PlanOk.l0 k l (l.length : Int) 0 on l = some (okFrom l l.length 0) := implPlanOk_l0 l.length k 0 on l hk hl (by omega)
  unfold impl_PlanOk.f planOk
  by_cases h : (l.length : Int) > 6
  · rw [if_pos h, decide_eq_false (by omega), Bool.and_false]
  · rw [if_neg h, h0, decide_eq_true (by omega), Bool.and_true]
theorem dropB_at (l : List (S32)) (i : Nat) (h : i < l.length) : rd_T32 l (i : Int) = l[i] := by
  unfold rd_T32
  rw [Int.toNat_natCast, List.getD_eq_getElem?_getD, List.getElem?_eq_getElem h]
  rfl
/-- Is an item within limits? -/
def itemOk (x : S32) : Prop := (0 ≤ x.f0 ∧ x.f0 ≤ 99999) ∧ 1 ≤ (x.f1.size : Int) ∧ (x.f1.size : Int) ≤ 60
theorem okFrom_iff (l : List (S32)) (d : Nat) : ∀ i, okFrom l d i = true ↔ ∀ j, i ≤ j → j < i + d → okAt l j = true := by
  induction d with
  | zero => intro i; simp only [okFrom, true_iff]; intro j h1 h2; omega
  | succ d ih =>
    intro i
    simp only [okFrom, Bool.and_eq_true, ih]
    constructor
    · rintro ⟨h1, h2⟩ j hj1 hj2
      by_cases e : j = i
      · rw [e]; exact h1
      · exact h2 j (by omega) (by omega)
    · intro h
      exact ⟨h i (by omega) (by omega), fun j h1 h2 => h j (by omega) (by omega)⟩
theorem okAt_iff (l : List (S32)) (i : Nat) (hi : i < l.length) : okAt l i = true ↔ itemOk l[i] ∧ ∀ h : 0 < i, (l[i - 1]'(by omega)).f0 ≤ (l[i]).f0 := by
  unfold okAt itemOk
  rw [dropB_at l i hi]
  by_cases h : 0 < i
  · have e : (i : Int) - 1 = ((i - 1 : Nat) : Int) := by omega
    rw [e, dropB_at l (i - 1) (by omega), decide_eq_true (show (i : Int) > 0 by omega)]
    simp only [Bool.and_eq_true, decide_eq_true_eq, Bool.not_true, Bool.false_or, Bool.not_eq_true', decide_eq_false_iff_not, Int.not_lt, and_assoc]
    constructor
    · rintro ⟨a, b, c, d, e⟩; exact ⟨a, b, c, d, fun _ => by omega⟩
    · rintro ⟨a, b, c, d, e⟩; exact ⟨a, b, c, d, by have := e h; omega⟩
  · rw [decide_eq_false (show ¬ (i : Int) > 0 by omega)]
    simp only [Bool.and_eq_true, decide_eq_true_eq, Bool.not_false, Bool.true_or, and_true, and_assoc]
    constructor
    · rintro ⟨a, b, c, d⟩; exact ⟨a, b, c, d, fun h2 => absurd h2 h⟩
    · rintro ⟨a, b, c, d, _⟩; exact ⟨a, b, c, d⟩
/-- A plan is ok: at most six, each within limits, by time. -/
theorem planOk_iff (l : List (S32)) : planOk l = true ↔ (∀ x ∈ l, itemOk x) ∧ l.Pairwise (fun x y => x.f0 ≤ y.f0) ∧ l.length ≤ 6 := by
  unfold planOk
  rw [Bool.and_eq_true, okFrom_iff, decide_eq_true_eq]
  constructor
  · rintro ⟨h, hl⟩
    have h' : ∀ i (hi : i < l.length), itemOk l[i] ∧ ∀ h : 0 < i, (l[i - 1]'(by omega)).f0 ≤ (l[i]).f0 := fun i hi => (okAt_iff l i hi).1 (h i (by omega) (by omega))
    refine ⟨fun x hx => ?_, List.pairwise_iff_getElem.2 fun i j hi hj hij => ?_, by omega⟩
    · obtain ⟨i, hi, rfl⟩ := List.mem_iff_getElem.1 hx
      exact (h' i hi).1
    · have step : ∀ d (hd : i + d < l.length), (l[i]).f0 ≤ (l[i + d]).f0 := by
        intro d
        induction d with
        | zero => intro _; exact Int.le_refl _
        | succ d ih =>
          intro hd
          have h1 := ih (by omega)
          have h2 := (h' (i + (d + 1)) hd).2 (by omega)
          exact Int.le_trans h1 h2
      have h3 := step (j - i) (by omega)
      have e : i + (j - i) = j := by omega
      simpa only [e] using h3
  · rintro ⟨h1, h2, h3⟩
    refine ⟨fun j _ hj => ?_, by omega⟩
    have hj' : j < l.length := by omega
    exact (okAt_iff l j hj').2 ⟨h1 _ (List.getElem_mem hj'), fun h => List.pairwise_iff_getElem.1 h2 (j - 1) j (by omega) hj' (by omega)⟩
theorem planOk_filter (l : List (S32)) (p : S32 → Bool) (h : planOk l = true) : planOk (l.filter p) = true := by
  obtain ⟨h1, h2, h3⟩ := (planOk_iff l).1 h
  exact (planOk_iff _).2 ⟨fun x hx => h1 x (List.mem_filter.1 hx).1, h2.filter p, Nat.le_trans (List.length_filter_le p l) h3⟩
/-- An item that waits so much longer. -/
def sh (b : Int) (x : S32) : S32 := ⟨wrap64 (x.f0 + b), x.f1⟩
/-- May it wait so much longer? -/
def good (n b : Int) (x : S32) : Bool := !decide (wrap64 (x.f0 + b) ≤ n) && !decide (wrap64 (x.f0 + b) > 99999)
/-- PlanShift's answer. -/
def planShift (on : Bool) (l : List (S32)) (n b : Int) : Bool × List (S32) × Int :=
  if planOk l = true then (if (0 ≤ n ∧ n ≤ 99999) ∧ -99999 ≤ b ∧ b ≤ 99999 then (if l.all (good n b) = true then (on, l.map (sh b), 0) else (on, l, 1)) else (on, l, 3)) else (false, [], 3)
theorem shiftB_at (l : List (S32)) (i : Nat) (h : i < l.length) : rd_T32 l (i : Int) = l[i] := by
  unfold rd_T32
  rw [Int.toNat_natCast, List.getD_eq_getElem?_getD, List.getElem?_eq_getElem h]
  rfl
/-- The first i are shifted already. -/
def half (b : Int) (l : List (S32)) (i : Nat) : List (S32) := (l.take i).map (sh b) ++ l.drop i
theorem half_length (b : Int) (l : List (S32)) (i : Nat) : (half b l i).length = l.length := by
  simp only [half, List.length_append, List.length_map, List.length_take, List.length_drop]
  omega
theorem half_at (b : Int) (l : List (S32)) (i : Nat) (h : i < l.length) : rd_T32 (half b l i) (i : Int) = l[i] := by
  rw [shiftB_at _ _ (by rw [half_length]; exact h)]
  have hl : ((l.take i).map (sh b)).length = i := by rw [List.length_map, List.length_take]; omega
  simp only [half]
  rw [List.getElem_append_right (by omega), List.getElem_drop]
  simp only [hl, Nat.sub_self, Nat.add_zero]
theorem half_set (b : Int) (l : List (S32)) (i : Nat) (h : i < l.length) : (half b l i).set i (sh b l[i]) = half b l (i + 1) := by
  have hl : ((l.take i).map (sh b)).length = i := by rw [List.length_map, List.length_take]; omega
  have hd := List.drop_eq_getElem_cons h
  simp only [half]
  rw [hd, List.set_append_right _ _ (by omega), hl, Nat.sub_self, List.set_cons_zero, List.take_succ_eq_append_getElem h, List.map_append, List.append_assoc]
  rfl
theorem copyI_at (on : Bool) (l : List (S32)) (hl : l.length ≤ 1000000) : impl_planCopy.f on l = some (on, l) := by
  unfold impl_planCopy.f impl_Item.f
  rw [if_pos (by omega)]
  rfl
theorem copyS_at (on : Bool) (l : List (S32)) (hl : l.length ≤ 1000000) : spec_l9Copy.f on l = some (on, l) := by
  unfold spec_l9Copy.f
  simp only [Option.bind_some]
  rw [if_pos (by simp only [List.length_nil]; omega)]
  rfl
theorem implShift_l0 (n b : Int) (on : Bool) (l : List (S32)) (hl : l.length ≤ 1000000) (d : Nat) : ∀ (k i : Nat), d < k → i + d = l.length →
    impl_PlanShift.l0 k n b (l.length : Int) (i : Int) on l on (half b l i) = some (if (l.drop i).all (good n b) = true then (on, l.map (sh b), 0) else (on, l, 1)) := by
  induction d with
  | zero =>
    intro k i hk hi
    obtain ⟨k, rfl⟩ : ∃ m, k = m + 1 := ⟨k - 1, by omega⟩
    simp only [impl_PlanShift.l0]
    rw [if_neg (by omega), half, List.drop_of_length_le (by omega), List.take_of_length_le (by omega), List.append_nil]
    rfl
  | succ d ih =>
    intro k i hk hi
    obtain ⟨k, rfl⟩ : ∃ m, k = m + 1 := ⟨k - 1, by omega⟩
    have hil : i < l.length := by omega
    have hh := half_length b l i
    simp only [impl_PlanShift.l0]
    rw [if_pos (by omega), if_pos (by omega), if_pos (by omega), half_at b l i hil, Int.toNat_natCast]
    have e : (⟨wrap64 ((l[i]).f0 + b), (l[i]).f1⟩ : S32) = sh b l[i] := rfl
    rw [e, half_set b l i hil, Option.bind_some]
    have e2 : rd_T32 (half b l (i + 1)) (i : Int) = sh b l[i] := by
      rw [← half_set b l i hil, shiftB_at _ _ (by rw [List.length_set]; omega), List.getElem_set_self]
    rw [e2, List.drop_eq_getElem_cons hil, List.all_cons]
    have e3 : (sh b l[i]).f0 = wrap64 ((l[i]).f0 + b) := rfl
    rw [e3]
    by_cases h1 : wrap64 ((l[i]).f0 + b) ≤ n
    · rw [if_pos h1, copyI_at on l hl]
      have hg : good n b l[i] = false := by simp only [good, decide_eq_true h1, Bool.not_true, Bool.false_and]
      rw [hg, Bool.false_and]
      rfl
    · rw [if_neg h1]
      by_cases h2 : wrap64 ((l[i]).f0 + b) > 99999
      · rw [if_pos h2, copyI_at on l hl]
        have hg : good n b l[i] = false := by simp only [good, decide_eq_true h2, Bool.not_true, Bool.and_false]
        rw [hg, Bool.false_and]
        rfl
      · rw [if_neg h2]
        have hg : good n b l[i] = true := by simp only [good, decide_eq_false h1, decide_eq_false h2, Bool.not_false, Bool.and_self]
        rw [hg, Bool.true_and, up (by omega)]
        exact ih k (i + 1) (by omega) (by omega)
theorem specShift_l0 (n b : Int) (on : Bool) (l : List (S32)) (hl : l.length ≤ 1000000) (d : Nat) : ∀ (k i : Nat), d < k → i + d = l.length →
    spec_PlanShift.l0 k n b (i : Int) on l on (half b l i) = some (if (l.drop i).all (good n b) = true then (on, l.map (sh b), 0) else (on, l, 1)) := by
  induction d with
  | zero =>
    intro k i hk hi
    obtain ⟨k, rfl⟩ : ∃ m, k = m + 1 := ⟨k - 1, by omega⟩
    simp only [spec_PlanShift.l0]
    rw [if_neg (by omega), half, List.drop_of_length_le (by omega), List.take_of_length_le (by omega), List.append_nil]
    rfl
  | succ d ih =>
    intro k i hk hi
    obtain ⟨k, rfl⟩ : ∃ m, k = m + 1 := ⟨k - 1, by omega⟩
    have hil : i < l.length := by omega
    have hh := half_length b l i
    simp only [spec_PlanShift.l0]
    rw [if_pos (by omega), if_pos (by omega), if_pos (show (i : Int) < ((half b l i).length : Int) by omega), half_at b l i hil, shiftB_at l i hil, Int.toNat_natCast]
    have e : (⟨wrap64 ((l[i]).f0 + b), (l[i]).f1⟩ : S32) = sh b l[i] := rfl
    rw [e, half_set b l i hil, List.drop_eq_getElem_cons hil, List.all_cons]
    by_cases h1 : wrap64 ((l[i]).f0 + b) ≤ n
    · rw [if_pos h1, copyS_at on l hl]
      have hg : good n b l[i] = false := by simp only [good, decide_eq_true h1, Bool.not_true, Bool.false_and]
      rw [hg, Bool.false_and]
      rfl
    · rw [if_neg h1]
      by_cases h2 : wrap64 ((l[i]).f0 + b) > 99999
      · rw [if_pos h2, copyS_at on l hl]
        have hg : good n b l[i] = false := by simp only [good, decide_eq_true h2, Bool.not_true, Bool.and_false]
        rw [hg, Bool.false_and]
        rfl
      · rw [if_neg h2]
        have hg : good n b l[i] = true := by simp only [good, decide_eq_false h1, decide_eq_false h2, Bool.not_false, Bool.and_self]
        rw [hg, Bool.true_and, up (by omega)]
        exact ih k (i + 1) (by omega) (by omega)
theorem half_zero (b : Int) (l : List (S32)) : half b l 0 = l := by simp [half]
theorem planOk_len {l : List (S32)} (h : planOk l = true) : l.length ≤ 6 := by
  simp only [planOk, Bool.and_eq_true, decide_eq_true_eq] at h
  omega
theorem implPlanShift_at (k : Nat) (on : Bool) (l : List (S32)) (n b : Int) (hk : 2 * l.length + 10 < k) (hl : l.length ≤ 9223372036854775807) : impl_PlanShift.f k on l n b = some (planShift on l n b) := by
  obtain ⟨k, rfl⟩ : ∃ m, k = m + 1 := ⟨k - 1, by omega⟩
  unfold impl_PlanShift.f planShift
  rw [implPlanOk_at (k + 1) on l (by omega) hl]
  cases h : planOk l with
  | false => rfl
  | true =>
    have h6 := planOk_len h
    simp only [Option.bind_some, if_true, within_at]
    have hbad : impl_PlanShift.j0 (k + 1) n b true on l = some (on, l, 3) := by
      simp only [impl_PlanShift.j0, if_true]
      rw [copyI_at on l (by omega)]
      rfl
    by_cases h1 : 0 ≤ n ∧ n ≤ 99999
    · rw [if_pos (decide_eq_true h1)]
      by_cases h2 : b < -99999
      · rw [if_pos h2, hbad, if_neg (by omega)]
      · rw [if_neg h2]
        by_cases h3 : b > 99999
        · rw [decide_eq_true h3, hbad, if_neg (by omega)]
        · rw [decide_eq_false h3, if_pos ⟨h1, by omega, by omega⟩]
          simp only [impl_PlanShift.j0, Bool.false_eq_true, if_false]
          rw [copyI_at on l (by omega)]
          simp only [Option.bind_some]
          have h0 := implShift_l0 n b on l (by omega) l.length k 0 (by omega) (by omega)
          rw [half_zero] at h0
          exact h0
    · rw [if_neg (by simpa using h1), hbad, if_neg (fun h => h1 h.1)]
theorem specPlanShift_at (k : Nat) (on : Bool) (l : List (S32)) (n b : Int) (hk : 2 * l.length + 10 < k) (hl : l.length ≤ 9223372036854775807) : spec_PlanShift.f k on l n b = some (planShift on l n b) := by
  obtain ⟨k, rfl⟩ : ∃ m, k = m + 1 := ⟨k - 1, by omega⟩
  unfold spec_PlanShift.f planShift
  rw [specPlanOk_at (k + 1) on l (by omega) hl]
  cases h : planOk l with
  | false => rfl
  | true =>
    have h6 := planOk_len h
    simp only [Option.bind_some, if_true, l1In_at]
    rw [copyS_at on l (by omega)]
    simp only [Option.bind_some]
    have hbad : spec_PlanShift.j0 (k + 1) n b true on l on l = some (on, l, 3) := by
      simp only [spec_PlanShift.j0, if_true]
    by_cases h1 : 0 ≤ n ∧ n ≤ 99999
    · rw [if_pos (decide_eq_true h1)]
      by_cases h2 : -99999 ≤ b ∧ b ≤ 99999
      · rw [decide_eq_true h2, if_pos ⟨h1, h2⟩]
        simp only [spec_PlanShift.j0, Bool.not_true, Bool.false_eq_true, if_false]
        have h0 := specShift_l0 n b on l (by omega) l.length k 0 (by omega) (by omega)
        rw [half_zero] at h0
        exact h0
      · rw [decide_eq_false h2, if_neg (fun h => h2 h.2), Bool.not_false, hbad]
    · rw [if_neg (by simpa using h1), hbad, if_neg (fun h => h1 h.1)]
theorem planShift_length (on : Bool) (l : List (S32)) (n b : Int) : (planShift on l n b).2.1.length ≤ 6 := by
  unfold planShift
  split
  · rename_i h
    have := planOk_len h
    split
    · split
      · show (l.map (sh b)).length ≤ 6
        rw [List.length_map]
        omega
      · exact this
    · exact this
  · simp
/-- What is read from: at most 2000 bytes. -/
def Bytes (xs : List Int) : Prop := xs.length ≤ 2000 ∧ ∀ x ∈ xs, 0 ≤ x ∧ x ≤ 255
theorem rd_rng {xs : List Int} (h : Bytes xs) (i : Int) : 0 ≤ rd xs i ∧ rd xs i ≤ 255 := by
  unfold rd
  rw [List.getD_eq_getElem?_getD]
  cases hx : xs[i.toNat]? with
  | none => simp
  | some x => exact h.2 x (List.mem_of_getElem? hx)
theorem u8_rng {x : Int} (h : (Lit.int .u8 x).wf = true) : 0 ≤ x ∧ x ≤ 255 := by
  simpa [Lit.wf, IntKind.min, IntKind.max, IntKind.bits, IntKind.signed] using h
/-- Opening what came: its first 2000 bytes. -/
theorem open_at (l : List Int) (hl : l.length ≤ 140737488351232) (h : ∀ x ∈ l, (Lit.int .u8 x).wf = true) : spec_l1Open.f l = some (l.take 2000, 0) ∧ Bytes (l.take 2000) := by
  refine ⟨?_, by rw [List.length_take]; omega, fun x hx => u8_rng (h x (List.mem_of_mem_take hx))⟩
  unfold spec_l1Open.f
  by_cases h2 : (l.length : Int) > 2000
  · rw [if_pos h2, if_pos (by omega)]
  · rw [if_neg h2, List.take_of_length_le (by omega)]
theorem xor_rng {x y : Int} (hx0 : 0 ≤ x) (hx1 : x < 4611686018427387904) (hy0 : 0 ≤ y) (hy1 : y < 4611686018427387904) : 0 ≤ bits .xor .i64 x y ∧ bits .xor .i64 x y < 4611686018427387904 := by
  obtain ⟨a, rfl⟩ := Int.eq_ofNat_of_zero_le hx0
  obtain ⟨b, rfl⟩ := Int.eq_ofNat_of_zero_le hy0
  have h : a ^^^ b < 2 ^ 62 := Nat.xor_lt_two_pow (by omega) (by omega)
  have e : bits .xor .i64 (a : Int) (b : Int) = ((a ^^^ b : Nat) : Int) := by
    show IntKind.i64.wrap ((BitVec.ofInt 64 (a : Int) ^^^ BitVec.ofInt 64 (b : Int)).toNat : Int) = _
    rw [BitVec.toNat_xor, BitVec.ofInt_natCast, BitVec.ofInt_natCast, BitVec.toNat_ofNat, BitVec.toNat_ofNat, Nat.mod_eq_of_lt (by omega), Nat.mod_eq_of_lt (by omega)]
    exact wraps_i64 _ (by omega) (by omega)
  rw [e]
  omega
/-- The number that is reckoned where what came is at its end. -/
theorem mix_rng {a b p q : Int} (ha0 : 0 ≤ a) (ha1 : a ≤ 255) (hb0 : 0 ≤ b) (hb1 : b ≤ 255) (hp0 : 0 ≤ p) (hp1 : p ≤ 1099511627776) (hq0 : 0 ≤ q) (hq1 : q ≤ 1099511627776) :
    ∃ v, wrap64 (wrap64 (wrap64 (wrap64 (wrap64 a * 131) + wrap64 (wrap64 b * 1117)) + wrap64 (p * 29)) + wrap64 (wrap64 q * 53)) = v ∧ 0 ≤ v ∧ v < 4611686018427387904 := by
  refine ⟨a * 131 + b * 1117 + p * 29 + q * 53, ?_, by omega, by omega⟩
  rw [w64 (x := a) (by omega) (by omega), w64 (x := b) (by omega) (by omega), w64 (x := q) (by omega) (by omega), w64 (x := a * 131) (by omega) (by omega), w64 (x := b * 1117) (by omega) (by omega), w64 (x := p * 29) (by omega) (by omega), w64 (x := q * 53) (by omega) (by omega),
    w64 (x := a * 131 + b * 1117) (by omega) (by omega), w64 (x := a * 131 + b * 1117 + p * 29) (by omega) (by omega), w64 (by omega) (by omega)]
theorem tmod_rng {x m : Int} (h0 : 0 ≤ x) (hm : 1 ≤ m) : 0 ≤ Int.tmod x m ∧ Int.tmod x m < m := by
  rw [tmodp h0]
  exact ⟨Int.emod_nonneg _ (by omega), Int.emod_lt_of_pos _ (by omega)⟩
/-- One pick: a number below m. -/
theorem pick_at {xs : List Int} (h : Bytes xs) (p m : Int) (hp0 : 0 ≤ p) (hp1 : p ≤ 1000000) (hm : 1 ≤ m) :
    ∃ r, 0 ≤ r ∧ r < m ∧ ∀ k, 2 ≤ k → spec_l1Rd_pick.f k xs p m = some (r, p + 1) := by
  have hlen := h.1
  have e1 : wrap64 (p + 1) = p + 1 := w64 (by omega) (by omega)
  have e2 : wrap64 (p + 1 - 1) = p := by rw [w64 (by omega) (by omega)]; omega
  have n1 : ¬ m < 1 := by omega
  have n2 : ¬ m = 0 := by omega
  by_cases hz : xs.length = 0
  · refine ⟨0, by omega, by omega, fun k hk => ?_⟩
    obtain ⟨k, rfl⟩ : ∃ q, k = q + 1 := ⟨k - 1, by omega⟩
    have hb : ((xs.length : Int) == 0) = true := by rw [hz]; rfl
    unfold spec_l1Rd_pick.f
    rw [if_neg n1, hb, e1]
    simp only [spec_l1Rd_pick.j0, if_true]
  have hb : ((xs.length : Int) == 0) = false := beq_eq_false_iff_ne.mpr (by omega)
  by_cases hlt : p < (xs.length : Int)
  · have hr := rd_rng h p
    have e3 : wrap64 (rd xs p) = rd xs p := w64 (by omega) (by omega)
    obtain ⟨t0, t1⟩ := tmod_rng (x := rd xs p) (m := m) hr.1 hm
    refine ⟨Int.tmod (rd xs p) m, t0, t1, fun k hk => ?_⟩
    obtain ⟨k, rfl⟩ : ∃ q, k = q + 1 := ⟨k - 1, by omega⟩
    unfold spec_l1Rd_pick.f
    rw [if_neg n1, hb, e1]
    simp only [spec_l1Rd_pick.j0, Bool.false_eq_true, if_false, e2]
    rw [if_pos hlt, if_pos hp0, if_neg n2, e3]
  · have hl1 : 1 ≤ (xs.length : Int) := by omega
    have m1 := tmod_rng (x := p) (m := (xs.length : Int)) hp0 hl1
    have e4 : wrap64 (wrap64 (p * 7) + 3) = p * 7 + 3 := by rw [w64 (x := p * 7) (by omega) (by omega), w64 (by omega) (by omega)]
    have m2 := tmod_rng (x := p * 7 + 3) (m := (xs.length : Int)) (by omega) hl1
    have r1 := rd_rng h (Int.tmod p (xs.length : Int))
    have r2 := rd_rng h (Int.tmod (p * 7 + 3) (xs.length : Int))
    have q0 : 0 ≤ Int.tdiv p (xs.length : Int) := by rw [tdivp hp0]; exact Int.ediv_nonneg hp0 (by omega)
    have q1 : Int.tdiv p (xs.length : Int) ≤ 1000000 := by rw [tdivp hp0]; exact Int.le_trans (Int.ediv_le_self _ hp0) hp1
    obtain ⟨v, hv, v0, v1⟩ := mix_rng (p := p) (q := Int.tdiv p (xs.length : Int)) r1.1 r1.2 r2.1 r2.2 hp0 (by omega) q0 (by omega)
    have d1 : wrap64 (Int.tdiv v 64) = v / 64 := by rw [tdivp v0, w64 (by omega) (by omega)]
    obtain ⟨x0, x1⟩ := xor_rng (x := v) (y := v / 64) v0 v1 (by omega) (by omega)
    obtain ⟨t0, t1⟩ := tmod_rng (x := bits .xor .i64 v (v / 64)) (m := m) x0 hm
    refine ⟨Int.tmod (bits .xor .i64 v (v / 64)) m, t0, t1, fun k hk => ?_⟩
    obtain ⟨k, rfl⟩ : ∃ q, k = q + 1 := ⟨k - 1, by omega⟩
    unfold spec_l1Rd_pick.f
    rw [if_neg n1, hb, e1]
    simp only [spec_l1Rd_pick.j0, Bool.false_eq_true, if_false, e2, e4]
    rw [if_neg hlt, if_neg (show ¬ (xs.length : Int) = 0 by omega), if_pos m1.1, if_pos m1.2, if_pos m2.1, if_pos m2.2, if_neg n2, hv, d1]
theorem text_l0 {xs : List Int} (h : Bytes xs) (d : Nat) : ∀ (acc : List Int) (p : Int), acc.length + d ≤ 1000 → 0 ≤ p → p + 3 * d ≤ 500000 →
    ∃ t q, t.size = acc.length + d ∧ p ≤ q ∧ q ≤ p + 3 * d ∧ ∀ k, d + 2 < k → spec_l15Text.l0 k acc (d : Int) xs p = some (t, q) := by
  induction d with
  | zero =>
    intro acc p ha hp0 hp1
    refine ⟨strOfNums acc, p, strOfNums_size acc, by omega, by omega, fun k hk => ?_⟩
    obtain ⟨k, rfl⟩ : ∃ m, k = m + 1 := ⟨k - 1, by omega⟩
    simp only [spec_l15Text.l0]
    rw [if_neg (by omega)]
  | succ d ih =>
    intro acc p ha hp0 hp1
    obtain ⟨r1, a1, b1, c1⟩ := pick_at h p 256 hp0 (by omega) (by omega)
    obtain ⟨r2, a2, b2, c2⟩ := pick_at h (p + 1) 4 (by omega) (by omega) (by omega)
    obtain ⟨r3, a3, b3, c3⟩ := pick_at h (p + 1 + 1) 5 (by omega) (by omega) (by omega)
    obtain ⟨t, q, ht, hq0, hq1, hk⟩ := ih (acc ++ [(rd [r1, r2, 85, 235, 144] r3) % 256]) (p + 1 + 1 + 1) (by rw [List.length_append, List.length_singleton]; omega) (by omega) (by omega)
    refine ⟨t, q, by rw [ht, List.length_append, List.length_singleton]; omega, by omega, by omega, fun k hkk => ?_⟩
    obtain ⟨k, rfl⟩ : ∃ m, k = m + 1 := ⟨k - 1, by omega⟩
    have e : wrap64 (((d + 1 : Nat) : Int) - 1) = (d : Int) := by rw [w64 (by omega) (by omega)]; omega
    simp only [spec_l15Text.l0]
    rw [if_pos (by omega), c1 k (by omega)]
    simp only [Option.bind_some]
    rw [c2 k (by omega)]
    simp only [Option.bind_some]
    rw [c3 k (by omega)]
    simp only [Option.bind_some]
    rw [if_pos a3, if_pos (by show r3 < 5; omega), if_pos (by omega), e]
    exact hk k (by omega)
/-- A text that is drawn: at most n bytes. -/
theorem text_at {xs : List Int} (h : Bytes xs) (p : Int) (n : Nat) (hp0 : 0 ≤ p) (hp1 : p ≤ 100000) (hn : n ≤ 900) :
    ∃ t q, t.size ≤ n ∧ p ≤ q ∧ q ≤ p + 1 + 3 * n ∧ ∀ k, n + 10 < k → spec_l15Text.f k xs p (n : Int) = some (t, q) := by
  obtain ⟨r, a, b, c⟩ := pick_at h p ((n : Int) + 1) hp0 (by omega) (by omega)
  obtain ⟨d, rfl⟩ := Int.eq_ofNat_of_zero_le a
  obtain ⟨t, q, ht, hq0, hq1, hk⟩ := text_l0 h d [] (p + 1) (by rw [List.length_nil]; omega) (by omega) (by omega)
  refine ⟨t, q, by rw [ht, List.length_nil]; omega, by omega, by omega, fun k hkk => ?_⟩
  unfold spec_l15Text.f
  rw [w64 (x := (n : Int) + 1) (by omega) (by omega), c k (by omega)]
  simp only [Option.bind_some]
  exact hk k (by omega)
theorem bnd {α β : Type} {o : Option α} {f : α → Option β} {b : β} (a : α) (h : o = some a) (h2 : f a = some b) : o.bind f = some b := Option.bind_eq_some_iff.2 ⟨a, h, h2⟩
theorem l9Put_l0 (on : Bool) (l : List (S32)) (t : Int) (s : ByteArray) (hl : l.length ≤ 1000000) (d : Nat) : ∀ (i : Nat), i + d = l.length → ∃ r, r.length = l.length + 1 ∧ ∀ k, d < k → spec_l9Put.l0 k (i : Int) on l t s = some (on, r) := by
  induction d with
  | zero =>
    intro i hi
    refine ⟨(([] ++ l.take i) ++ [⟨t, s⟩]) ++ l.drop i, ?_, fun k hk => ?_⟩
    · simp only [List.length_append, List.length_nil, List.length_singleton, List.length_take, List.length_drop]
      omega
    · obtain ⟨k, rfl⟩ : ∃ m, k = m + 1 := ⟨k - 1, by omega⟩
      simp only [spec_l9Put.l0]
      rw [if_neg (by omega)]
      simp only [Option.bind_some, Int.toNat_natCast]
      rw [if_pos (by omega), if_pos (by omega), if_pos (by simp only [List.length_nil, List.length_take]; omega)]
      rw [if_pos (by simp only [List.length_append, List.length_nil, List.length_singleton, List.length_take]; omega), if_pos (by simp only [List.length_append, List.length_nil, List.length_singleton, List.length_take, List.length_drop]; omega)]
  | succ d ih =>
    intro i hi
    by_cases h : (rd_T32 l (i : Int)).f0 ≤ t
    · obtain ⟨r, hr, hk⟩ := ih (i + 1) (by omega)
      refine ⟨r, hr, fun k hkk => ?_⟩
      obtain ⟨k, rfl⟩ : ∃ m, k = m + 1 := ⟨k - 1, by omega⟩
      simp only [spec_l9Put.l0]
      rw [if_pos (by omega), if_pos (by omega), if_pos h, up (by omega)]
      exact hk k (by omega)
    · refine ⟨(([] ++ l.take i) ++ [⟨t, s⟩]) ++ l.drop i, ?_, fun k hk => ?_⟩
      · simp only [List.length_append, List.length_nil, List.length_singleton, List.length_take, List.length_drop]
        omega
      · obtain ⟨k, rfl⟩ : ∃ m, k = m + 1 := ⟨k - 1, by omega⟩
        simp only [spec_l9Put.l0]
        rw [if_pos (by omega), if_pos (by omega), if_neg h]
        simp only [Option.bind_some, Int.toNat_natCast]
        rw [if_pos (by omega), if_pos (by simp only [List.length_nil, List.length_take]; omega)]
        rw [if_pos (by simp only [List.length_append, List.length_nil, List.length_singleton, List.length_take]; omega), if_pos (by simp only [List.length_append, List.length_nil, List.length_singleton, List.length_take, List.length_drop]; omega)]
theorem copy_at (on : Bool) (l : List (S32)) (hl : l.length ≤ 1000000) : spec_l9Copy.f on l = some (on, l) := by
  unfold spec_l9Copy.f
  simp only [Option.bind_some]
  rw [if_pos (by simp only [List.length_nil]; omega)]
  rfl
theorem planPut_at (on : Bool) (l : List (S32)) (a b : Int) (s : ByteArray) (hl : l.length ≤ 1000) : ∃ on2 r c, r.length ≤ l.length + 1 ∧ ∀ k, l.length + 20 ≤ k → spec_PlanPut.f k on l a b s = some (on2, r, c) := by
  cases hok : planOk l with
  | false =>
    refine ⟨false, [], 3, by simp, fun k hk => ?_⟩
    unfold spec_PlanPut.f
    rw [specPlanOk_at k on l (by omega) (by omega), hok]
    rfl
  | true =>
    by_cases hj : (0 ≤ a ∧ a ≤ 99999) ∧ (0 ≤ b ∧ b ≤ 99999) ∧ 1 ≤ (s.size : Int) ∧ (s.size : Int) ≤ 60
    · obtain ⟨h1, h2, h3⟩ := hj
      by_cases h4 : b ≤ a
      · refine ⟨on, l, 1, by omega, fun k hk => ?_⟩
        obtain ⟨k, rfl⟩ : ∃ m, k = m + 1 := ⟨k - 1, by omega⟩
        unfold spec_PlanPut.f
        rw [specPlanOk_at (k + 1) on l (by omega) (by omega), hok]
        simp only [Option.bind_some, if_true, copy_at on l (by omega), l1In_at, decide_eq_true h1, decide_eq_true h2, decide_eq_true h3, Bool.not_true, spec_PlanPut.j0, Bool.false_eq_true, if_false]
        rw [if_pos h4]
      · by_cases h5 : (l.length : Int) ≥ 6
        · refine ⟨on, l, 2, by omega, fun k hk => ?_⟩
          obtain ⟨k, rfl⟩ : ∃ m, k = m + 1 := ⟨k - 1, by omega⟩
          unfold spec_PlanPut.f
          rw [specPlanOk_at (k + 1) on l (by omega) (by omega), hok]
          simp only [Option.bind_some, if_true, copy_at on l (by omega), l1In_at, decide_eq_true h1, decide_eq_true h2, decide_eq_true h3, Bool.not_true, spec_PlanPut.j0, Bool.false_eq_true, if_false]
          rw [if_neg h4, if_pos h5]
        · obtain ⟨r, hr, hk2⟩ := l9Put_l0 on l b s (by omega) l.length 0 (by omega)
          refine ⟨on, r, 0, by omega, fun k hk => ?_⟩
          obtain ⟨k, rfl⟩ : ∃ m, k = m + 1 := ⟨k - 1, by omega⟩
          have hq : spec_l9Put.f k on l b s = some (on, r) := hk2 k (by omega)
          unfold spec_PlanPut.f
          rw [specPlanOk_at (k + 1) on l (by omega) (by omega), hok]
          simp only [Option.bind_some, if_true, copy_at on l (by omega), l1In_at, decide_eq_true h1, decide_eq_true h2, decide_eq_true h3, Bool.not_true, spec_PlanPut.j0, Bool.false_eq_true, if_false]
          rw [if_neg h4, if_neg h5, hq]
          rfl
    · refine ⟨on, l, 3, by omega, fun k hk => ?_⟩
      obtain ⟨k, rfl⟩ : ∃ m, k = m + 1 := ⟨k - 1, by omega⟩
      unfold spec_PlanPut.f
      rw [specPlanOk_at (k + 1) on l (by omega) (by omega), hok]
      simp only [Option.bind_some, if_true, copy_at on l (by omega), l1In_at]
      by_cases h1 : 0 ≤ a ∧ a ≤ 99999
      · rw [if_pos (decide_eq_true h1)]
        by_cases h2 : 0 ≤ b ∧ b ≤ 99999
        · rw [if_pos (decide_eq_true h2)]
          have h3 : ¬ (1 ≤ (s.size : Int) ∧ (s.size : Int) ≤ 60) := fun h3 => hj ⟨h1, h2, h3⟩
          rw [decide_eq_false h3]
          simp only [Bool.not_false, spec_PlanPut.j0, if_true]
        · rw [if_neg (by simpa using h2)]
          simp only [spec_PlanPut.j0, if_true]
      · rw [if_neg (by simpa using h1)]
        simp only [spec_PlanPut.j0, if_true]
theorem plan_l0 {xs : List Int} (h : Bytes xs) (d : Nat) : ∀ (p : Int) (on : Bool) (l : List (S32)), l.length + d ≤ 100 → 0 ≤ p → p + 14 * d ≤ 10000 →
    ∃ on2 r q, r.length ≤ l.length + d ∧ p ≤ q ∧ q ≤ p + 14 * d ∧ ∀ k, l.length + 2 * d + 40 ≤ k → spec_l15Plan.l0 k (d : Int) xs p on l = some (on2, r, q) := by
  induction d with
  | zero =>
    intro p on l hl hp0 hp1
    refine ⟨on, l, p, by omega, by omega, by omega, fun k hk => ?_⟩
    obtain ⟨k, rfl⟩ : ∃ m, k = m + 1 := ⟨k - 1, by omega⟩
    simp only [spec_l15Plan.l0]
    rw [if_neg (by omega)]
  | succ d ih =>
    intro p on l hl hp0 hp1
    obtain ⟨r1, a1, b1, c1⟩ := pick_at h p 30 hp0 (by omega) (by omega)
    obtain ⟨t, q, ht, q0, q1, ck⟩ := text_at h (p + 1) 4 (by omega) (by omega) (by decide)
    obtain ⟨on2, r, c, hr, hput⟩ := planPut_at on l 0 (wrap64 (1 + r1)) ((⟨#[99]⟩ : ByteArray) ++ t) (by omega)
    obtain ⟨on3, r3, q3, hr3, q30, q31, hk3⟩ := ih q on2 r (by omega) (by omega) (by omega)
    refine ⟨on3, r3, q3, by omega, by omega, by omega, fun k hk => ?_⟩
    obtain ⟨k, rfl⟩ : ∃ m, k = m + 1 := ⟨k - 1, by omega⟩
    have f1 : r.length + 2 * d + 40 ≤ k := by omega
    have f2 : l.length + 20 ≤ k := by omega
    have f3 : 1 + t.size ≤ 9223372036854775807 := by omega
    have f4 : 4 + 10 < k := by omega
    have e : wrap64 (((d + 1 : Nat) : Int) - 1) = (d : Int) := by rw [w64 (by omega) (by omega)]; omega
    simp only [spec_l15Plan.l0]
    rw [if_pos (by omega), e]
    exact bnd _ (c1 k (by omega)) (bnd _ (ck k f4) ((if_pos f3).trans (bnd _ (hput k f2) (hk3 k f1))))
theorem plan_at {xs : List Int} (h : Bytes xs) (p : Int) (hp0 : 0 ≤ p) (hp1 : p ≤ 1000) : ∃ on l q, l.length ≤ 7 ∧ p ≤ q ∧ q ≤ p + 100 ∧ ∀ k, 60 ≤ k → spec_l15Plan.f k xs p = some (on, l, q) := by
  obtain ⟨r1, a1, b1, c1⟩ := pick_at h p 3 hp0 (by omega) (by omega)
  obtain ⟨r2, a2, b2, c2⟩ := pick_at h (p + 1) 8 (by omega) (by omega) (by omega)
  obtain ⟨d, rfl⟩ := Int.eq_ofNat_of_zero_le a2
  obtain ⟨on, l, q, hl, q0, q1, hk2⟩ := plan_l0 h d (p + 1 + 1) (decide (r1 > 0)) [] (by simp only [List.length_nil]; omega) (by omega) (by omega)
  simp only [List.length_nil] at hl hk2
  refine ⟨on, l, q, by omega, by omega, by omega, fun k hk => ?_⟩
  unfold spec_l15Plan.f
  exact bnd _ (c1 k (by omega)) (bnd _ (c2 k (by omega)) (hk2 k (by omega)))
theorem anyPlan_at {xs : List Int} (h : Bytes xs) (p : Int) (hp0 : 0 ≤ p) (hp1 : p ≤ 1000) : ∃ on l q, l.length ≤ 8 ∧ p ≤ q ∧ q ≤ p + 101 ∧ ∀ k, 60 ≤ k → spec_l15AnyPlan.f k xs p = some (on, l, q) := by
  obtain ⟨on, l, q, hl, q0, q1, hk⟩ := plan_at h p hp0 hp1
  obtain ⟨r, a, b, c⟩ := pick_at h q 20 (by omega) (by omega) (by omega)
  have hc := copy_at on l (by omega)
  by_cases h0 : r = 0
  · refine ⟨on, l ++ [⟨0, (⟨#[120]⟩ : ByteArray)⟩], q + 1, ?_, ?_, ?_, fun k hkk => ?_⟩
    rotate_left 3
    · unfold spec_l15AnyPlan.f
      exact bnd _ (hk k hkk) (bnd _ hc (bnd _ (c k (by omega)) ((if_pos h0).trans (if_pos (show l.length < 5864062014805 by omega)))))
    · simp only [List.length_append, List.length_singleton]
      omega
    · show p ≤ q + 1
      omega
    · show q + 1 ≤ p + 101
      omega
  by_cases h1 : r = 1
  · refine ⟨on, l ++ [⟨100000, (⟨#[120]⟩ : ByteArray)⟩], q + 1, ?_, ?_, ?_, fun k hkk => ?_⟩
    rotate_left 3
    · unfold spec_l15AnyPlan.f
      exact bnd _ (hk k hkk) (bnd _ hc (bnd _ (c k (by omega)) ((if_neg h0).trans ((if_pos h1).trans (if_pos (show l.length < 5864062014805 by omega))))))
    · simp only [List.length_append, List.length_singleton]
      omega
    · show p ≤ q + 1
      omega
    · show q + 1 ≤ p + 101
      omega
  by_cases h2 : r = 2
  · refine ⟨on, l ++ [⟨99999, (⟨#[]⟩ : ByteArray)⟩], q + 1, ?_, ?_, ?_, fun k hkk => ?_⟩
    rotate_left 3
    · unfold spec_l15AnyPlan.f
      exact bnd _ (hk k hkk) (bnd _ hc (bnd _ (c k (by omega)) ((if_neg h0).trans ((if_neg h1).trans ((if_pos h2).trans (if_pos (show l.length < 5864062014805 by omega)))))))
    · simp only [List.length_append, List.length_singleton]
      omega
    · show p ≤ q + 1
      omega
    · show q + 1 ≤ p + 101
      omega
  · refine ⟨on, l, q + 1, by omega, by omega, by omega, fun k hkk => ?_⟩
    unfold spec_l15AnyPlan.f
    exact bnd _ (hk k hkk) (bnd _ hc (bnd _ (c k (by omega)) ((if_neg h0).trans ((if_neg h1).trans ((if_neg h2).trans rfl)))))
theorem one_at {xs : List Int} (h : Bytes xs) (p : Int) (ys : List Int) (hy : 1 ≤ ys.length) (hp0 : 0 ≤ p) (hp1 : p ≤ 100000) : ∃ v, ∀ k, 2 ≤ k → spec_l1Rd_one.f k xs p ys = some (v, p + 1) := by
  obtain ⟨r0, a0, b0, c0⟩ := pick_at h p (ys.length : Int) (by omega) (by omega) (by omega)
  refine ⟨rd ys r0, fun k hk => ?_⟩
  unfold spec_l1Rd_one.f
  exact bnd _ (c0 k hk) ((if_pos a0).trans ((if_pos b0).trans rfl))
theorem skPlan_l0 (on on2 : Bool) (l : List (S32)) (hl : l.length ≤ 1000000) (d : Nat) : ∀ (k i : Nat), d < k → i + d = l.length → laws_skPlan.l0 k (i : Int) on l on2 l = some true := by
  induction d with
  | zero =>
    intro k i hk hi
    obtain ⟨k, rfl⟩ : ∃ m, k = m + 1 := ⟨k - 1, by omega⟩
    simp only [laws_skPlan.l0]
    rw [if_neg (by omega)]
  | succ d ih =>
    intro k i hk hi
    obtain ⟨k, rfl⟩ : ∃ m, k = m + 1 := ⟨k - 1, by omega⟩
    simp only [laws_skPlan.l0]
    rw [if_pos (by omega), if_pos (by omega), if_pos (by omega), beq_self_eq_true, beq_self_eq_true, if_neg (by decide), up (by omega)]
    exact ih k (i + 1) (by omega) (by omega)
theorem skPlan_at (k : Nat) (on : Bool) (l : List (S32)) (hk : l.length + 1 < k) (hl : l.length ≤ 1000000) : laws_skPlan.f k on l on l = some true := by
  obtain ⟨k, rfl⟩ : ∃ m, k = m + 1 := ⟨k - 1, by omega⟩
  unfold laws_skPlan.f
  rw [bne_self_eq_false, if_neg (by decide), bne_self_eq_false]
  simp only [laws_skPlan.j0, Bool.false_eq_true, if_false]
  exact skPlan_l0 on on l hl l.length k 0 (by omega) (by omega)
theorem drawShift (l : List Int) (hl : l.length ≤ 140737488351232) (hw : ∀ x ∈ l, (Lit.int .u8 x).wf = true) : ∃ on its a b, its.length ≤ 8 ∧ ∀ k, 60 ≤ k → spec_DrawPlanShift.f k l = some (on, its, a, b) := by
  obtain ⟨ho, hB⟩ := open_at l hl hw
  obtain ⟨on, its, q, hi, q0, q1, hk⟩ := anyPlan_at hB 0 (by decide) (by decide)
  obtain ⟨r1, a1, b1, c1⟩ := pick_at hB q 20 (by omega) (by omega) (by decide)
  obtain ⟨v1, d1⟩ := one_at hB (q + 1) [0, r1, 99999, -1] (by simp) (by omega) (by omega)
  obtain ⟨r2, a2, b2, c2⟩ := pick_at hB (q + 1 + 1) 20 (by omega) (by omega) (by decide)
  obtain ⟨r3, a3, b3, c3⟩ := pick_at hB (q + 1 + 1 + 1) 9 (by omega) (by omega) (by decide)
  obtain ⟨v2, d2⟩ := one_at hB (q + 1 + 1 + 1 + 1) [r2, wrap64 (-r3), 99979, 99999, 100000, 0] (by simp) (by omega) (by omega)
  refine ⟨on, its, v1, v2, hi, fun k hkk => ?_⟩
  have g2 : 2 ≤ k := by omega
  unfold spec_DrawPlanShift.f
  exact bnd _ ho (bnd _ (hk k hkk) (bnd _ (c1 k g2) (bnd _ (d1 k g2) (bnd _ (c2 k g2) (bnd _ (c3 k g2) (bnd _ (d2 k g2) rfl))))))
/-- Comparing what was shifted, one by one; and shifting it back. -/
theorem each_l0 (n b : Int) (on : Bool) (l : List (S32)) (hok : planOk l = true) (hn : 0 ≤ n ∧ n ≤ 99999) (hb : -99999 ≤ b ∧ b ≤ 99999) (hg : l.all (good n b) = true) (d : Nat) : ∀ (k i : Nat), 2 * d + 40 < k → i + d = l.length →
    laws_FnPlanShift.l0 k n b (i : Int) on l on (l.map (sh b)) = some true := by
  have h6 := planOk_len hok
  obtain ⟨o1, o2, _⟩ := (planOk_iff l).1 hok
  have hml : (l.map (sh b)).length = l.length := List.length_map _
  have hall : ∀ x ∈ l, wrap64 (x.f0 + b) = x.f0 + b ∧ n < x.f0 + b ∧ x.f0 + b ≤ 99999 := by
    intro x hx
    have h1 := List.all_eq_true.1 hg x hx
    have h2 := (o1 x hx).1
    have e : wrap64 (x.f0 + b) = x.f0 + b := w64 (by omega) (by omega)
    simp only [good, e, Bool.and_eq_true, Bool.not_eq_true', decide_eq_false_iff_not] at h1
    exact ⟨e, by omega, by omega⟩
  induction d with
  | zero =>
    intro k i hk hi
    obtain ⟨k, rfl⟩ : ∃ m, k = m + 1 := ⟨k - 1, by omega⟩
    have eb : wrap64 (-b) = -b := w64 (by omega) (by omega)
    simp only [laws_FnPlanShift.l0]
    rw [if_neg (by omega), implPlanShift_at k on _ 0 (wrap64 (-b)) (by omega) (by omega), eb]
    simp only [Option.bind_some]
    have hokx : planOk (l.map (sh b)) = true := by
      refine (planOk_iff _).2 ⟨?_, ?_, by omega⟩
      · intro y hy
        obtain ⟨x, hx, rfl⟩ := List.mem_map.1 hy
        obtain ⟨e, e1, e2⟩ := hall x hx
        refine ⟨?_, (o1 x hx).2⟩
        show 0 ≤ wrap64 (x.f0 + b) ∧ wrap64 (x.f0 + b) ≤ 99999
        rw [e]
        omega
      · refine List.pairwise_map.2 (List.Pairwise.imp_of_mem ?_ o2)
        intro x y hx hy hxy
        show wrap64 (x.f0 + b) ≤ wrap64 (y.f0 + b)
        rw [(hall x hx).1, (hall y hy).1]
        omega
    have hback : (∀ x ∈ l, 0 < x.f0) → planShift on (l.map (sh b)) 0 (-b) = (on, l, 0) := by
      intro hpos
      have hsh : ∀ x ∈ l, (sh b x).f0 = x.f0 + b := fun x hx => (hall x hx).1
      have hw : ∀ x ∈ l, wrap64 ((sh b x).f0 + -b) = x.f0 := by
        intro x hx
        have h2 := (o1 x hx).1
        rw [hsh x hx, w64 (by omega) (by omega)]
        omega
      have hgg : (l.map (sh b)).all (good 0 (-b)) = true := by
        refine List.all_eq_true.2 fun y hy => ?_
        obtain ⟨x, hx, rfl⟩ := List.mem_map.1 hy
        have h2 := (o1 x hx).1
        have h3 := hpos x hx
        simp only [good, hw x hx, Bool.and_eq_true, Bool.not_eq_true', decide_eq_false_iff_not]
        omega
      have hmm : (l.map (sh b)).map (sh (-b)) = l := by
        rw [List.map_map]
        conv => rhs; rw [← List.map_id l]
        refine List.map_congr_left fun x hx => ?_
        show (⟨wrap64 ((sh b x).f0 + -b), x.f1⟩ : S32) = x
        rw [hw x hx]
      unfold planShift
      rw [if_pos hokx, if_pos ⟨⟨by decide, by decide⟩, by omega, by omega⟩, if_pos hgg, hmm]
    have e1 := implPlanOk_at k on (l.map (sh b)) (by omega) (by omega)
    have e2 := skPlan_at k on l (by omega) (by omega)
    by_cases h0 : (l.length : Int) = 0
    · rw [if_pos h0, e1, hokx, hback (by intro x hx; have hz : l = [] := List.length_eq_zero_iff.1 (by omega); rw [hz] at hx; exact absurd hx (by simp))]
      simp only [Option.bind_some, if_true]
      rw [e2]
      rfl
    · rw [if_neg h0, if_pos (by omega), e1, hokx]
      simp only [Option.bind_some, if_true]
      by_cases h1 : (rd_T32 l 0).f0 > 0
      · have hp : ∀ x ∈ l, 0 < x.f0 := by
          have e0 : rd_T32 l 0 = l[0]'(by omega) := dropB_at l 0 (by omega)
          rw [e0] at h1
          intro x hx
          obtain ⟨j, hj, rfl⟩ := List.mem_iff_getElem.1 hx
          rcases Nat.eq_zero_or_pos j with rfl | hj0
          · exact h1
          · have h2 := List.pairwise_iff_getElem.1 o2 0 j (by omega) hj hj0
            exact Int.lt_of_lt_of_le h1 h2
        rw [if_pos h1, hback hp]
        simp only [if_true]
        rw [e2]
        rfl
      · rw [if_neg h1]
  | succ d ih =>
    intro k i hk hi
    obtain ⟨k, rfl⟩ : ∃ m, k = m + 1 := ⟨k - 1, by omega⟩
    have hil : i < l.length := by omega
    obtain ⟨e, e1, e2⟩ := hall l[i] (List.getElem_mem hil)
    have hm : rd_T32 (l.map (sh b)) (i : Int) = sh b l[i] := by rw [dropB_at _ i (by omega), List.getElem_map]
    have hs : (sh b l[i]).f0 = wrap64 ((l[i]).f0 + b) := rfl
    have hs1 : (sh b l[i]).f1 = (l[i]).f1 := rfl
    simp only [laws_FnPlanShift.l0]
    rw [if_pos (by omega), if_pos (by omega), if_pos (by omega), hm, dropB_at l i hil, hs, hs1, if_pos rfl, if_neg (by rw [e]; omega), if_pos rfl, up (by omega)]
    exact ih k (i + 1) (by omega) (by omega)
end FnPlanShiftL
open FnPlanShiftL

theorem FnPlanShift : laws_FnPlanShift.Pure := by
  intro l hl _ hw
  unfold maxLen at hl
  by_cases hbig : (l.length : Int) > 1048576
  · exact ⟨0, if_pos hbig⟩
  obtain ⟨on, its, a, b, hi, hd⟩ := drawShift l (by omega) hw
  refine ⟨201, ?_⟩
  have e0 := hd 201 (by omega)
  have e1 := implPlanShift_at 201 on its a b (by omega) (by omega)
  have e2 := specPlanShift_at 201 on its a b (by omega) (by omega)
  have hlen := planShift_length on its a b
  have e3 := skPlan_at 201 (planShift on its a b).1 (planShift on its a b).2.1 (by omega) (by omega)
  have e3' := skPlan_at 200 (planShift on its a b).1 (planShift on its a b).2.1 (by omega) (by omega)
  have e4 := specPlanOk_at 201 on its (by omega) (by omega)
  unfold laws_FnPlanShift.f
  rw [if_neg hbig]
  refine bnd _ e0 (bnd _ e1 (bnd _ e2 ((if_pos rfl).trans (bnd _ e3 ((if_pos rfl).trans (bnd _ e4 ?_))))))
  cases hok : planOk its with
  | false =>
    simp only [laws_FnPlanShift.j0, Bool.not_false, if_true]
    exact bnd _ e3' rfl
  | true =>
    simp only [laws_FnPlanShift.j0, Bool.not_true, Bool.false_eq_true, if_false]
    have h6 := planOk_len hok
    have e5 := skPlan_at 200 on its (by omega) (by omega)
    by_cases hr : (0 ≤ a ∧ a ≤ 99999) ∧ -99999 ≤ b ∧ b ≤ 99999
    · by_cases hg : its.all (good a b) = true
      · have hP : planShift on its a b = (on, its.map (sh b), 0) := by unfold planShift; rw [if_pos hok, if_pos hr, if_pos hg]
        rw [hP]
        have h0 := each_l0 a b on its hok hr.1 hr.2 hg its.length 200 0 (by omega) (by omega)
        exact (if_pos rfl).trans h0
      · have hP : planShift on its a b = (on, its, 1) := by unfold planShift; rw [if_pos hok, if_pos hr, if_neg hg]
        rw [hP]
        exact (if_neg (show ¬ (1 : Int) = 0 by decide)).trans (bnd _ e5 rfl)
    · have hP : planShift on its a b = (on, its, 3) := by unfold planShift; rw [if_pos hok, if_neg hr]
      rw [hP]
      exact (if_neg (show ¬ (3 : Int) = 0 by decide)).trans (bnd _ e5 rfl)

end Go.Proofs.Ythiddhipphaacaa.Pure
