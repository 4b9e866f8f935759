/- FnExactPlanShift: the program's PlanShift and the reference's answer alike, the program's answer is its own memory. No conditions but that the numbers are ints and the texts are such as a machine holds. -/
import Derived.Test.YthiddhipphaacaaPFnExactPlanShiftx7
import Derived.Test.YthiddhipphaacaaAux
namespace Go.Proofs.Ythiddhipphaacaa.Pure
open Go Go.RowKit Go.Proofs.Ythiddhipphaacaa.PFnExactPlanShift Go.Proofs.YthiddhipphaacaaW.PrintWords Go.Proofs.YthiddhipphaacaaW.PrintLast Go.Proofs.YthiddhipphaacaaW.PrintMore Go.Proofs.Ythiddhipphaacaa.Aux

namespace FnExactPlanShiftL
theorem l1In_at (a b c : Int) : spec_l1In.f a b c = some (decide (b ≤ a ∧ a ≤ c)) := by
  unfold spec_l1In.f
  by_cases h : b ≤ a
  · rw [if_pos h]
    simp [h]
  · rw [if_neg h]
    simp [h]
theorem within_at (a c : Int) : impl_within.f a c = some (decide (0 ≤ a ∧ a ≤ c)) := by
  unfold impl_within.f
  by_cases h : 0 ≤ a
  · rw [if_pos h]
    simp [h]
  · rw [if_neg h]
    simp [h]
theorem up {i : Nat} (h : i < 9223372036854775807) : wrap64 ((i : Int) + 1) = ((i + 1 : Nat) : Int) := by
  rw [w64 (by omega) (by omega)]
  omega
theorem rdOf_at {α : Type} (d : α) (l : List α) (i : Nat) (h : i < l.length) : rdOf d l (i : Int) = l[i] := by
  unfold rdOf
  rw [Int.toNat_natCast, List.getD_eq_getElem?_getD, List.getElem?_eq_getElem h]
  rfl
/-- A list that is filled from its begin on. -/
theorem fill_take {α : Type} (l ys : List α) (i : Nat) (hi : i < l.length) (hl : ys.length = l.length) (h : ys.take i = l.take i) : (ys.set i l[i]).take (i + 1) = l.take (i + 1) := by
  have h1 : i < (ys.set i l[i]).length := by rw [List.length_set]; omega
  rw [List.take_succ_eq_append_getElem h1, List.take_succ_eq_append_getElem hi, List.getElem_set_self, List.take_set_of_le (Nat.le_refl _), h]
/-- An item as the program has it. -/
def conv (x : S61) : S32 := ⟨x.f0, x.f1⟩
theorem rdA_at (l : List (S61)) (i : Nat) (h : i < l.length) : rd_T61 l (i : Int) = l[i] := by
  unfold rd_T61
  rw [Int.toNat_natCast, List.getD_eq_getElem?_getD, List.getElem?_eq_getElem h]
  rfl
theorem rdB_at (l : List (S32)) (i : Nat) (h : i < l.length) : rd_T32 l (i : Int) = l[i] := by
  unfold rd_T32
  rw [Int.toNat_natCast, List.getD_eq_getElem?_getD, List.getElem?_eq_getElem h]
  rfl
theorem szItemS_l0 (d : Nat) : ∀ (i : Nat) (l : List (S61)) (x : Int), l.length ≤ 9223372036854775807 → (∀ a ∈ l, a.f1.size ≤ 9223372036854775807) → i + d = l.length → 0 ≤ x → x ≤ 1048576 →
    ∃ t, ∀ j, d < j → laws_szItemS.l0 j l x (i : Int) = some t := by
  induction d with
  | zero =>
    intro i l x hl hg hi h0 h1
    refine ⟨x, fun j hj => ?_⟩
    obtain ⟨j, rfl⟩ : ∃ m, j = m + 1 := ⟨j - 1, by omega⟩
    simp only [laws_szItemS.l0]
    rw [if_neg (by omega)]
  | succ d ih =>
    intro i l x hl hg hi h0 h1
    have hil : i < l.length := by omega
    have hs := hg _ (List.getElem_mem hil)
    by_cases h : x - (l[i].f1.size : Int) < 0
    · refine ⟨-1, fun j hj => ?_⟩
      obtain ⟨j, rfl⟩ : ∃ m, j = m + 1 := ⟨j - 1, by omega⟩
      simp only [laws_szItemS.l0, laws_szItem.f]
      rw [if_pos (by omega), if_pos (by omega), rdA_at _ _ hil, w64 (by omega) (by omega), if_pos h]
      simp only [Option.bind_some]
      rw [if_pos (by omega)]
    · obtain ⟨t, hj⟩ := ih (i + 1) l (x - (l[i].f1.size : Int)) hl hg (by omega) (by omega) (by omega)
      refine ⟨t, fun j hk => ?_⟩
      obtain ⟨j, rfl⟩ : ∃ m, j = m + 1 := ⟨j - 1, by omega⟩
      simp only [laws_szItemS.l0, laws_szItem.f]
      rw [if_pos (by omega), if_pos (by omega), rdA_at _ _ hil, w64 (by omega) (by omega), if_neg h]
      simp only [Option.bind_some]
      rw [if_neg h, up (by omega)]
      exact hj j (by omega)
theorem szItemS_at (l : List (S61)) (hl : l.length ≤ 9223372036854775807) (hg : ∀ a ∈ l, a.f1.size ≤ 9223372036854775807) :
    ∃ t, (0 ≤ t → l.length ≤ 1048576) ∧ ∀ k, l.length < k → laws_szItemS.f k l 1048576 = some t := by
  by_cases h : (1048576 : Int) - (l.length : Int) < 0
  · refine ⟨-1, by omega, fun k _ => ?_⟩
    unfold laws_szItemS.f
    rw [w64 (by omega) (by omega), if_pos h]
  · obtain ⟨t, hj⟩ := szItemS_l0 l.length 0 l (1048576 - (l.length : Int)) hl hg (by omega) (by omega) (by omega)
    refine ⟨t, fun _ => by omega, fun k hk => ?_⟩
    unfold laws_szItemS.f
    rw [w64 (by omega) (by omega), if_neg h]
    exact hj k hk
theorem toItemS_l0 (d : Nat) : ∀ (k i : Nat) (l : List (S61)) (ys : List (S32)), d < k → l.length ≤ 1048576 → i + d = l.length → ys.length = l.length → ys.take i = (l.map conv).take i →
    laws_toItemS.l0 k l ys (i : Int) = some (l.map conv) := by
  induction d with
  | zero =>
    intro k i l ys hk hl hi hy ht
    obtain ⟨k, rfl⟩ : ∃ m, k = m + 1 := ⟨k - 1, by omega⟩
    simp only [laws_toItemS.l0]
    rw [if_neg (by omega)]
    rw [List.take_of_length_le (by omega), List.take_of_length_le (by rw [List.length_map]; omega)] at ht
    rw [ht]
  | succ d ih =>
    intro k i l ys hk hl hi hy ht
    obtain ⟨k, rfl⟩ : ∃ m, k = m + 1 := ⟨k - 1, by omega⟩
    have hil : i < l.length := by omega
    have hc : (⟨l[i].f0, l[i].f1⟩ : S32) = (l.map conv)[i]'(by rw [List.length_map]; exact hil) := by rw [List.getElem_map]; rfl
    simp only [laws_toItemS.l0, laws_toItem.f, Option.bind_some]
    rw [if_pos (by omega), if_pos (by omega), if_pos (by omega), rdA_at _ _ hil, Int.toNat_natCast, up (by omega), hc]
    exact ih k (i + 1) l _ (by omega) hl (by omega) (by rw [List.length_set, hy]) (fill_take (l.map conv) ys i (by rw [List.length_map]; exact hil) (by rw [List.length_map]; exact hy) ht)
theorem toItemS_at (k : Nat) (l : List (S61)) (hk : l.length < k) (hl : l.length ≤ 1048576) : laws_toItemS.f k l = some (l.map conv) := by
  unfold laws_toItemS.f
  rw [if_pos (by omega), if_pos (by omega)]
  exact toItemS_l0 l.length k 0 l _ hk hl (by omega) (by rw [List.length_replicate, Int.toNat_natCast]) rfl
theorem eqItemS_l0 (d : Nat) : ∀ (k i : Nat) (l : List (S32)), d < k → l.length ≤ 9223372036854775807 → i + d = l.length → laws_eqItemS.l0 k l l (i : Int) = some true := by
  induction d with
  | zero =>
    intro k i l hk hl hi
    obtain ⟨k, rfl⟩ : ∃ m, k = m + 1 := ⟨k - 1, by omega⟩
    simp only [laws_eqItemS.l0]
    rw [if_neg (by omega)]
  | succ d ih =>
    intro k i l hk hl hi
    obtain ⟨k, rfl⟩ : ∃ m, k = m + 1 := ⟨k - 1, by omega⟩
    simp only [laws_eqItemS.l0, laws_eqItem.f, if_true, Option.bind_some]
    rw [if_pos (by omega), if_pos (by omega), if_pos (by omega), up (by omega)]
    exact ih k (i + 1) l (by omega) hl (by omega)
theorem eqItemS_at (k : Nat) (l : List (S32)) (hk : l.length < k) (hl : l.length ≤ 9223372036854775807) : laws_eqItemS.f k l l = some true := by
  unfold laws_eqItemS.f
  rw [if_pos rfl]
  exact eqItemS_l0 l.length k 0 l hk hl (by omega)
theorem planTextOk_at (s : ByteArray) : impl_planTextOk.f s = some (decide (1 ≤ (s.size : Int) ∧ (s.size : Int) ≤ 60)) := by
  unfold impl_planTextOk.f
  by_cases h : 1 ≤ (s.size : Int)
  · rw [if_pos h]
    simp [h]
  · rw [if_neg h]
    simp [h]
/-- Is item i within limits, and not ahead of the one before it? -/
def okAt (l : List (S32)) (i : Nat) : Bool := decide (0 ≤ (rd_T32 l (i : Int)).f0 ∧ (rd_T32 l (i : Int)).f0 ≤ 99999) && (decide (1 ≤ (((rd_T32 l (i : Int)).f1).size : Int) ∧ (((rd_T32 l (i : Int)).f1).size : Int) ≤ 60) &&
  (!decide ((i : Int) > 0) || !decide ((rd_T32 l ((i : Int) - 1)).f0 > (rd_T32 l (i : Int)).f0)))
/-- Are the next so many from item i on? -/
def okFrom (l : List (S32)) : Nat → Nat → Bool
  | 0, _ => true
  | d + 1, i => okAt l i && okFrom l d (i + 1)
/-- PlanOk's answer. -/
def planOk (l : List (S32)) : Bool := okFrom l l.length 0 && decide ((l.length : Int) ≤ 6)
theorem specPlanOk_step (k i : Nat) (on : Bool) (l : List (S32)) (hl : l.length ≤ 9223372036854775807) (hil : i < l.length) :
    spec_PlanOk.l0 (k + 1) (i : Int) on l = if okAt l i = true then spec_PlanOk.l0 k ((i + 1 : Nat) : Int) on l else some false := by
  simp only [spec_PlanOk.l0, l1In_at, Option.bind_some]
  rw [if_pos (by omega), if_pos (by omega), up (by omega), w64 (x := (i : Int) - 1) (by omega) (by omega), okAt]
  generalize decide (0 ≤ (rd_T32 l (i : Int)).f0 ∧ (rd_T32 l (i : Int)).f0 ≤ 99999) = b1
  generalize decide (1 ≤ (((rd_T32 l (i : Int)).f1).size : Int) ∧ (((rd_T32 l (i : Int)).f1).size : Int) ≤ 60) = b2
  by_cases h : (i : Int) > 0
  · simp only [if_pos h, if_pos (show 0 ≤ (i : Int) - 1 by omega), if_pos (show (i : Int) - 1 < (l.length : Int) by omega), decide_eq_true h]
    by_cases h2 : (rd_T32 l ((i : Int) - 1)).f0 > (rd_T32 l (i : Int)).f0
    · simp only [if_pos h2, decide_eq_true h2]
      cases b1 <;> cases b2 <;> rfl
    · simp only [if_neg h2, decide_eq_false h2]
      cases b1 <;> cases b2 <;> rfl
  · simp only [if_neg h, decide_eq_false h]
    cases b1 <;> cases b2 <;> rfl
theorem specPlanOk_l0 (d : Nat) : ∀ (k i : Nat) (on : Bool) (l : List (S32)), d < k → l.length ≤ 9223372036854775807 → i + d = l.length →
    spec_PlanOk.l0 k (i : Int) on l = some (okFrom l d i && decide ((l.length : Int) ≤ 6)) := by
  induction d with
  | zero =>
    intro k i on l hk hl hi
    obtain ⟨k, rfl⟩ : ∃ m, k = m + 1 := ⟨k - 1, by omega⟩
    simp only [spec_PlanOk.l0]
    rw [if_neg (by omega)]
    rfl
  | succ d ih =>
    intro k i on l hk hl hi
    obtain ⟨k, rfl⟩ : ∃ m, k = m + 1 := ⟨k - 1, by omega⟩
    rw [specPlanOk_step k i on l hl (by omega), okFrom]
    cases h : okAt l i with
    | false => rfl
    | true => rw [if_pos rfl, ih k (i + 1) on l (by omega) hl (by omega), Bool.true_and]
theorem specPlanOk_at (k : Nat) (on : Bool) (l : List (S32)) (hk : l.length < k) (hl : l.length ≤ 9223372036854775807) : spec_PlanOk.f k on l = some (planOk l) := by
  unfold spec_PlanOk.f planOk
  exact specPlanOk_l0 l.length k 0 on l hk hl (by omega)
theorem implPlanOk_step (k i : Nat) (on : Bool) (l : List (S32)) (hl : l.length ≤ 9223372036854775807) (hil : i < l.length) :
    impl_PlanOk.l0 (k + 2) l (l.length : Int) (i : Int) on l = if okAt l i = true then impl_PlanOk.l0 k l (l.length : Int) ((i + 1 : Nat) : Int) on l else some false := by
  simp only [impl_PlanOk.l0, within_at, planTextOk_at, Option.bind_some, impl_PlanOk.j1]
  rw [if_pos (by omega), if_pos (by omega), if_pos (by omega), up (by omega), w64 (x := (i : Int) - 1) (by omega) (by omega), okAt]
  generalize decide (0 ≤ (rd_T32 l (i : Int)).f0 ∧ (rd_T32 l (i : Int)).f0 ≤ 99999) = b1
  generalize decide (1 ≤ (((rd_T32 l (i : Int)).f1).size : Int) ∧ (((rd_T32 l (i : Int)).f1).size : Int) ≤ 60) = b2
  by_cases h : (i : Int) > 0
  · simp only [if_pos h, if_pos (show 0 ≤ (i : Int) - 1 by omega), if_pos (show (i : Int) - 1 < (l.length : Int) by omega), decide_eq_true h]
    by_cases h2 : (rd_T32 l ((i : Int) - 1)).f0 > (rd_T32 l (i : Int)).f0
    · simp only [if_pos (show (rd_T32 l (i : Int)).f0 < (rd_T32 l ((i : Int) - 1)).f0 from h2), decide_eq_true h2]
      cases b1 <;> cases b2 <;> rfl
    · simp only [if_neg (show ¬ (rd_T32 l (i : Int)).f0 < (rd_T32 l ((i : Int) - 1)).f0 from h2), decide_eq_false h2]
      cases b1 <;> cases b2 <;> rfl
  · simp only [if_neg h, decide_eq_false h]
    cases b1 <;> cases b2 <;> rfl
theorem implPlanOk_l0 (d : Nat) : ∀ (k i : Nat) (on : Bool) (l : List (S32)), 2 * d < k → l.length ≤ 9223372036854775807 → i + d = l.length →
    impl_PlanOk.l0 k l (l.length : Int) (i : Int) on l = some (okFrom l d i) := by
  induction d with
  | zero =>
    intro k i on l hk hl hi
    obtain ⟨k, rfl⟩ : ∃ m, k = m + 1 := ⟨k - 1, by omega⟩
    simp only [impl_PlanOk.l0]
    rw [if_neg (by omega)]
    rfl
  | succ d ih =>
    intro k i on l hk hl hi
    obtain ⟨k, rfl⟩ : ∃ m, k = m + 2 := ⟨k - 2, by omega⟩
    rw [implPlanOk_step k i on l hl (by omega), okFrom]
    cases h : okAt l i with
    | false => rfl
    | true => rw [if_pos rfl, ih k (i + 1) on l (by omega) hl (by omega), Bool.true_and]
theorem implPlanOk_at (k : Nat) (on : Bool) (l : List (S32)) (hk : 2 * l.length < k) (hl : l.length ≤ 9223372036854775807) : impl_PlanOk.f k on l = some (planOk l) := by
  have h0 : impl_PlanOk.l0 k l (l.length : Int) 0 on l = some (okFrom l l.length 0) := implPlanOk_l0 l.length k 0 on l hk hl (by omega)
  unfold impl_PlanOk.f planOk
  by_cases h : (l.length : Int) > 6
  · rw [if_pos h, decide_eq_false (by omega), Bool.and_false]
  · rw [if_neg h, h0, decide_eq_true (by omega), Bool.and_true]
/-- An item that waits so much longer. -/
def sh (b : Int) (x : S32) : S32 := ⟨wrap64 (x.f0 + b), x.f1⟩
/-- May it wait so much longer? -/
def good (n b : Int) (x : S32) : Bool := !decide (wrap64 (x.f0 + b) ≤ n) && !decide (wrap64 (x.f0 + b) > 99999)
/-- PlanShift's answer. -/
def planShift (on : Bool) (l : List (S32)) (n b : Int) : Bool × List (S32) × Int :=
  if planOk l = true then (if (0 ≤ n ∧ n ≤ 99999) ∧ -99999 ≤ b ∧ b ≤ 99999 then (if l.all (good n b) = true then (on, l.map (sh b), 0) else (on, l, 1)) else (on, l, 3)) else (false, [], 3)
theorem shiftB_at (l : List (S32)) (i : Nat) (h : i < l.length) : rd_T32 l (i : Int) = l[i] := by
  unfold rd_T32
  rw [Int.toNat_natCast, List.getD_eq_getElem?_getD, List.getElem?_eq_getElem h]
  rfl
/-- The first i are shifted already. -/
def half (b : Int) (l : List (S32)) (i : Nat) : List (S32) := (l.take i).map (sh b) ++ l.drop i
theorem half_length (b : Int) (l : List (S32)) (i : Nat) : (half b l i).length = l.length := by
  simp only [half, List.length_append, List.length_map, List.length_take, List.length_drop]
  omega
theorem half_at (b : Int) (l : List (S32)) (i : Nat) (h : i < l.length) : rd_T32 (half b l i) (i : Int) = l[i] := by
  rw [shiftB_at _ _ (by rw [half_length]; exact h)]
  have hl : ((l.take i).map (sh b)).length = i := by rw [List.length_map, List.length_take]; omega
  simp only [half]
  rw [List.getElem_append_right (by omega), List.getElem_drop]
  simp only [hl, Nat.sub_self, Nat.add_zero]
theorem half_set (b : Int) (l : List (S32)) (i : Nat) (h : i < l.length) : (half b l i).set i (sh b l[i]) = half b l (i + 1) := by
  have hl : ((l.take i).map (sh b)).length = i := by rw [List.length_map, List.length_take]; omega
  have hd := List.drop_eq_getElem_cons h
  simp only [half]
  rw [hd, List.set_append_right _ _ (by omega), hl, Nat.sub_self, List.set_cons_zero, List.take_succ_eq_append_getElem h, List.map_append, List.append_assoc]
  rfl
theorem copyI_at (on : Bool) (l : List (S32)) (hl : l.length ≤ 1000000) : impl_planCopy.f on l = some (on, l) := by
  unfold impl_planCopy.f impl_Item.f
  rw [if_pos (by omega)]
  rfl
theorem copyS_at (on : Bool) (l : List (S32)) (hl : l.length ≤ 1000000) : spec_l9Copy.f on l = some (on, l) := by
  unfold spec_l9Copy.f
  simp only [Option.bind_some]
  rw [if_pos (by simp only [List.length_nil]; omega)]
  rfl
theorem implShift_l0 (n b : Int) (on : Bool) (l : List (S32)) (hl : l.length ≤ 1000000) (d : Nat) : ∀ (k i : Nat), d < k → i + d = l.length →
    impl_PlanShift.l0 k n b (l.length : Int) (i : Int) on l on (half b l i) = some (if (l.drop i).all (good n b) = true then (on, l.map (sh b), 0) else (on, l, 1)) := by
  induction d with
  | zero =>
    intro k i hk hi
    obtain ⟨k, rfl⟩ : ∃ m, k = m + 1 := ⟨k - 1, by omega⟩
    simp only [impl_PlanShift.l0]
    rw [if_neg (by omega), half, List.drop_of_length_le (by omega), List.take_of_length_le (by omega), List.append_nil]
    rfl
  | succ d ih =>
    intro k i hk hi
    obtain ⟨k, rfl⟩ : ∃ m, k = m + 1 := ⟨k - 1, by omega⟩
    have hil : i < l.length := by omega
    have hh := half_length b l i
    simp only [impl_PlanShift.l0]
    rw [if_pos (by omega), if_pos (by omega), if_pos (by omega), half_at b l i hil, Int.toNat_natCast]
    have e : (⟨wrap64 ((l[i]).f0 + b), (l[i]).f1⟩ : S32) = sh b l[i] := rfl
    rw [e, half_set b l i hil, Option.bind_some]
    have e2 : rd_T32 (half b l (i + 1)) (i : Int) = sh b l[i] := by
      rw [← half_set b l i hil, shiftB_at _ _ (by rw [List.length_set]; omega), List.getElem_set_self]
    rw [e2, List.drop_eq_getElem_cons hil, List.all_cons]
    have e3 : (sh b l[i]).f0 = wrap64 ((l[i]).f0 + b) := rfl
    rw [e3]
    by_cases h1 : wrap64 ((l[i]).f0 + b) ≤ n
    · rw [if_pos h1, copyI_at on l hl]
      have hg : good n b l[i] = false := by simp only [good, decide_eq_true h1, Bool.not_true, Bool.false_and]
      rw [hg, Bool.false_and]
      rfl
    · rw [if_neg h1]
      by_cases h2 : wrap64 ((l[i]).f0 + b) > 99999
      · rw [if_pos h2, copyI_at on l hl]
        have hg : good n b l[i] = false := by simp only [good, decide_eq_true h2, Bool.not_true, Bool.and_false]
        rw [hg, Bool.false_and]
        rfl
      · rw [if_neg h2]
        have hg : good n b l[i] = true := by simp only [good, decide_eq_false h1, decide_eq_false h2, Bool.not_false, Bool.and_self]
        rw [hg, Bool.true_and, up (by omega)]
        exact ih k (i + 1) (by omega) (by omega)
theorem specShift_l0 (n b : Int) (on : Bool) (l : List (S32)) (hl : l.length ≤ 1000000) (d : Nat) : ∀ (k i : Nat), d < k → i + d = l.length →
    spec_PlanShift.l0 k n b (i : Int) on l on (half b l i) = some (if (l.drop i).all (good n b) = true then (on, l.map (sh b), 0) else (on, l, 1)) := by
  induction d with
  | zero =>
    intro k i hk hi
    obtain ⟨k, rfl⟩ : ∃ m, k = m + 1 := ⟨k - 1, by omega⟩
    simp only [spec_PlanShift.l0]
    rw [if_neg (by omega), half, List.drop_of_length_le (by omega), List.take_of_length_le (by omega), List.append_nil]
    rfl
  | succ d ih =>
    intro k i hk hi
    obtain ⟨k, rfl⟩ : ∃ m, k = m + 1 := ⟨k - 1, by omega⟩
    have hil : i < l.length := by omega
    have hh := half_length b l i
    simp only [spec_PlanShift.l0]
    rw [if_pos (by omega), if_pos (by omega), if_pos (show (i : Int) < ((half b l i).length : Int) by omega), half_at b l i hil, shiftB_at l i hil, Int.toNat_natCast]
    have e : (⟨wrap64 ((l[i]).f0 + b), (l[i]).f1⟩ : S32) = sh b l[i] := rfl
    rw [e, half_set b l i hil, List.drop_eq_getElem_cons hil, List.all_cons]
    by_cases h1 : wrap64 ((l[i]).f0 + b) ≤ n
    · rw [if_pos h1, copyS_at on l hl]
      have hg : good n b l[i] = false := by simp only [good, decide_eq_true h1, Bool.not_true, Bool.false_and]
      rw [hg, Bool.false_and]
      rfl
    · rw [if_neg h1]
      by_cases h2 : wrap64 ((l[i]).f0 + b) > 99999
      · rw [if_pos h2, copyS_at on l hl]
        have hg : good n b l[i] = false := by simp only [good, decide_eq_true h2, Bool.not_true, Bool.and_false]
        rw [hg, Bool.false_and]
        rfl
      · rw [if_neg h2]
        have hg : good n b l[i] = true := by simp only [good, decide_eq_false h1, decide_eq_false h2, Bool.not_false, Bool.and_self]
        rw [hg, Bool.true_and, up (by omega)]
        exact ih k (i + 1) (by omega) (by omega)
theorem half_zero (b : Int) (l : List (S32)) : half b l 0 = l := by simp [half]
theorem planOk_len {l : List (S32)} (h : planOk l = true) : l.length ≤ 6 := by
  simp only [planOk, Bool.and_eq_true, decide_eq_true_eq] at h
  omega
theorem implPlanShift_at (k : Nat) (on : Bool) (l : List (S32)) (n b : Int) (hk : 2 * l.length + 10 < k) (hl : l.length ≤ 9223372036854775807) : impl_PlanShift.f k on l n b = some (planShift on l n b) := by
  obtain ⟨k, rfl⟩ : ∃ m, k = m + 1 := ⟨k - 1, by omega⟩
  unfold impl_PlanShift.f planShift
  rw [implPlanOk_at (k + 1) on l (by omega) hl]
  cases h : planOk l with
  | false => rfl
  | true =>
    have h6 := planOk_len h
    simp only [Option.bind_some, if_true, within_at]
    have hbad : impl_PlanShift.j0 (k + 1) n b true on l = some (on, l, 3) := by
      simp only [impl_PlanShift.j0, if_true]
      rw [copyI_at on l (by omega)]
      rfl
    by_cases h1 : 0 ≤ n ∧ n ≤ 99999
    · rw [if_pos (decide_eq_true h1)]
      by_cases h2 : b < -99999
      · rw [if_pos h2, hbad, if_neg (by omega)]
      · rw [if_neg h2]
        by_cases h3 : b > 99999
        · rw [decide_eq_true h3, hbad, if_neg (by omega)]
        · rw [decide_eq_false h3, if_pos ⟨h1, by omega, by omega⟩]
          simp only [impl_PlanShift.j0, Bool.false_eq_true, if_false]
          rw [copyI_at on l (by omega)]
          simp only [Option.bind_some]
          have h0 := implShift_l0 n b on l (by omega) l.length k 0 (by omega) (by omega)
          rw [half_zero] at h0
          exact h0
    · rw [if_neg (by simpa using h1), hbad, if_neg (fun h => h1 h.1)]
theorem specPlanShift_at (k : Nat) (on : Bool) (l : List (S32)) (n b : Int) (hk : 2 * l.length + 10 < k) (hl : l.length ≤ 9223372036854775807) : spec_PlanShift.f k on l n b = some (planShift on l n b) := by
  obtain ⟨k, rfl⟩ : ∃ m, k = m + 1 := ⟨k - 1, by omega⟩
  unfold spec_PlanShift.f planShift
  rw [specPlanOk_at (k + 1) on l (by omega) hl]
  cases h : planOk l with
  | false => rfl
  | true =>
    have h6 := planOk_len h
    simp only [Option.bind_some, if_true, l1In_at]
    rw [copyS_at on l (by omega)]
    simp only [Option.bind_some]
    have hbad : spec_PlanShift.j0 (k + 1) n b true on l on l = some (on, l, 3) := by
      simp only [spec_PlanShift.j0, if_true]
    by_cases h1 : 0 ≤ n ∧ n ≤ 99999
    · rw [if_pos (decide_eq_true h1)]
      by_cases h2 : -99999 ≤ b ∧ b ≤ 99999
      · rw [decide_eq_true h2, if_pos ⟨h1, h2⟩]
        simp only [spec_PlanShift.j0, Bool.not_true, Bool.false_eq_true, if_false]
        have h0 := specShift_l0 n b on l (by omega) l.length k 0 (by omega) (by omega)
        rw [half_zero] at h0
        exact h0
      · rw [decide_eq_false h2, if_neg (fun h => h2 h.2), Bool.not_false, hbad]
    · rw [if_neg (by simpa using h1), hbad, if_neg (fun h => h1 h.1)]
theorem planShift_length (on : Bool) (l : List (S32)) (n b : Int) : (planShift on l n b).2.1.length ≤ 6 := by
  unfold planShift
  split
  · rename_i h
    have := planOk_len h
    split
    · split
      · show (l.map (sh b)).length ≤ 6
        rw [List.length_map]
        omega
      · exact this
    · exact this
  · simp
theorem markText_l0 (m : Nat) : ∀ (n : Int) (s : ByteArray), n.toNat ≤ m → n ≤ 4611686018427387904 → s.size + n.toNat ≤ 4611686018427387904 → ∃ r, laws_markText.l0 (m + 1) n s = some r := by
  induction m with
  | zero =>
    intro n s hm h1 hs
    simp only [laws_markText.l0]
    rw [if_neg (by omega), if_pos (by omega)]
    exact ⟨_, rfl⟩
  | succ m ih =>
    intro n s hm h1 hs
    have hsz : (strOfNums [(wrap64 (48 + (Int.tmod n 10))) % 256]).size = 1 := by rw [strOfNums_size]; rfl
    rw [laws_markText.l0]
    by_cases h : n > 0
    · rw [if_pos h]
      simp only [Option.bind_some]
      rw [if_pos (by omega), tdivp (by omega), w64 (x := n / 10) (by omega) (by omega)]
      exact ih _ _ (by omega) (by omega) (by rw [ByteArray.size_append]; omega)
    · rw [if_neg h, if_pos (by omega)]
      exact ⟨_, rfl⟩
/-- The text that stands for a number in a mark. -/
def markT (n : Int) : ByteArray := (laws_markText.f (n.toNat + 1) n).getD ⟨#[]⟩
theorem markText_at (k : Nat) (n : Int) (hk : n.toNat + 1 ≤ k) (h1 : n ≤ 4611686018427387904) : laws_markText.f k n = some (markT n) := by
  refine at_rounds (laws_markText.mono n) hk ?_
  have h : ∃ r, laws_markText.f (n.toNat + 1) n = some r := by
    unfold laws_markText.f
    by_cases h : n ≤ 0
    · rw [if_pos h]
      exact ⟨_, rfl⟩
    · rw [if_neg h]
      exact markText_l0 n.toNat n _ (Nat.le_refl _) h1 (by show 0 + _ ≤ _; omega)
  obtain ⟨r, hr⟩ := h
  rw [markT, hr]
  rfl
/-- The marked item that a number stands for. -/
def mkI (c : Int) : S32 := ⟨c, markT (c + 1)⟩
theorem rdI_set (l : List (S32)) (i : Nat) (e : S32) (h : i < l.length) : rd_T32 (l.set i e) (i : Int) = e := by
  unfold rd_T32
  rw [Int.toNat_natCast, List.getD_eq_getElem?_getD, List.getElem?_set_self h]
  rfl
theorem rdI_at (l : List (S32)) (i : Nat) (h : i < l.length) : rd_T32 l (i : Int) = l[i] := by
  unfold rd_T32
  rw [Int.toNat_natCast, List.getD_eq_getElem?_getD, List.getElem?_eq_getElem h]
  rfl
theorem two (c : Int) (h0 : 0 ≤ c) (h1 : c ≤ 100000000) : wrap64 (c + 1) = c + 1 ∧ wrap64 (c + 1 + 1) = c + 2 := by
  refine ⟨?_, ?_⟩ <;> (rw [w64 (by omega) (by omega)]; try omega)
theorem markItemS_step (k i : Nat) (l : List (S32)) (c : Int) (hi : i < l.length) (hl : l.length ≤ 1048577) (h0 : 0 ≤ c) (h1 : c ≤ 100000000) (hk : c.toNat + 10 ≤ k) :
    laws_markItemS.l0 (k + 1) l c (i : Int) = laws_markItemS.l0 k (l.set i (mkI c)) (c + 2) ((i + 1 : Nat) : Int) := by
  obtain ⟨s1, s2⟩ := two c h0 h1
  simp only [laws_markItemS.l0]
  rw [if_pos (by omega), if_pos (by omega)]
  simp only [s1, s2, Int.toNat_natCast, Option.bind_some, rdI_set _ _ _ hi, List.set_set]
  rw [markText_at k (c + 1) (by omega) (by omega)]
  simp only [Option.bind_some, up (show i < 9223372036854775807 by omega)]
  rfl
theorem heldItemS_step (k i : Nat) (l : List (S32)) (c : Int) (hi : i < l.length) (hl : l.length ≤ 1048577) (h0 : 0 ≤ c) (h1 : c ≤ 100000000) (hk : c.toNat + 10 ≤ k) (he : l[i] = mkI c) :
    laws_heldItemS.l0 (k + 1) l c (i : Int) = laws_heldItemS.l0 k l (c + 2) ((i + 1 : Nat) : Int) := by
  obtain ⟨s1, s2⟩ := two c h0 h1
  simp only [laws_heldItemS.l0]
  rw [if_pos (by omega), if_pos (by omega), rdI_at l i hi, he]
  simp only [s1, s2, mkI, if_true]
  rw [markText_at k (c + 1) (by omega) (by omega)]
  simp only [Option.bind_some, if_true, up (show i < 9223372036854775807 by omega)]
/-- Marked items, one behind the other. -/
def mkIs : Nat → Int → List (S32)
  | 0, _ => []
  | d + 1, c => mkI c :: mkIs d (c + 2)
theorem mkIs_length (d : Nat) : ∀ c, (mkIs d c).length = d := by
  induction d with
  | zero => intro c; rfl
  | succ d ih => intro c; simp [mkIs, ih]
theorem markItemS_l0 (d : Nat) : ∀ (k i : Nat) (l : List (S32)) (c : Int), c.toNat + 3 * d + 20 ≤ k → l.length ≤ 1048577 → i + d = l.length → 0 ≤ c → c ≤ 100000000 - 2 * d →
    laws_markItemS.l0 k l c (i : Int) = some (c + 2 * d, l.take i ++ mkIs d c) := by
  induction d with
  | zero =>
    intro k i l c hk hl hi h0 h1
    obtain ⟨k, rfl⟩ : ∃ m, k = m + 1 := ⟨k - 1, by omega⟩
    simp only [laws_markItemS.l0]
    rw [if_neg (by omega), List.take_of_length_le (by omega)]
    simp [mkIs]
  | succ d ih =>
    intro k i l c hk hl hi h0 h1
    obtain ⟨k, rfl⟩ : ∃ m, k = m + 1 := ⟨k - 1, by omega⟩
    have hil : i < l.length := by omega
    rw [markItemS_step k i l c hil hl h0 (by omega) (by omega)]
    rw [ih k (i + 1) _ (c + 2) (by omega) (by rw [List.length_set]; exact hl) (by rw [List.length_set]; omega) (by omega) (by omega)]
    have h2 : (l.set i (mkI c)).take (i + 1) = l.take i ++ [mkI c] := by
      rw [List.take_succ_eq_append_getElem (by rw [List.length_set]; exact hil), List.getElem_set_self, List.take_set_of_le (Nat.le_refl _)]
    rw [h2, mkIs, List.append_assoc]
    congr 2
    omega
theorem heldItemS_l0 (d : Nat) : ∀ (k i : Nat) (l : List (S32)) (c : Int), c.toNat + 3 * d + 20 ≤ k → l.length ≤ 1048577 → i + d = l.length → 0 ≤ c → c ≤ 100000000 - 2 * d → l.drop i = mkIs d c →
    laws_heldItemS.l0 k l c (i : Int) = some (c + 2 * d) := by
  induction d with
  | zero =>
    intro k i l c hk hl hi h0 h1 he
    obtain ⟨k, rfl⟩ : ∃ m, k = m + 1 := ⟨k - 1, by omega⟩
    simp only [laws_heldItemS.l0]
    rw [if_neg (by omega)]
    simp
  | succ d ih =>
    intro k i l c hk hl hi h0 h1 he
    obtain ⟨k, rfl⟩ : ∃ m, k = m + 1 := ⟨k - 1, by omega⟩
    have hil : i < l.length := by omega
    rw [List.drop_eq_getElem_cons hil, mkIs, List.cons.injEq] at he
    rw [heldItemS_step k i l c hil hl h0 (by omega) (by omega) he.1]
    rw [ih k (i + 1) l (c + 2) (by omega) hl (by omega) (by omega) (by omega) he.2]
    congr 1
    omega
theorem markI_at (l : List (S32)) (k : Nat) (hk : 3 * l.length + 30 ≤ k) (hl : l.length ≤ 1048577) : laws_markItemS.f k l 1 = some (1 + 2 * (l.length : Int), mkIs l.length 1) := by
  unfold laws_markItemS.f
  have h := markItemS_l0 l.length k 0 l 1 (by omega) hl (by omega) (by omega) (by omega)
  simpa using h
theorem heldI_at (n : Nat) (k : Nat) (hk : 3 * n + 30 ≤ k) (hl : n ≤ 1048577) : laws_heldItemS.f k (mkIs n 1) 1 = some (1 + 2 * (n : Int)) := by
  unfold laws_heldItemS.f
  have h := heldItemS_l0 n k 0 (mkIs n 1) 1 (by omega) (by rw [mkIs_length]; exact hl) (by rw [mkIs_length]; omega) (by omega) (by omega) rfl
  simpa using h
end FnExactPlanShiftL
open FnExactPlanShiftL

theorem FnExactPlanShift (on : Bool) (l : List (S61)) (a b : Int) (hl : l.length ≤ 9223372036854775807) (hg : ∀ a ∈ l, a.f1.size ≤ 9223372036854775807) (_ : (Lit.int .i64 a).wf = true) (_ : (Lit.int .i64 b).wf = true) : ∃ k, laws_FnExactPlanShift.f k on l a b = some true := by
  obtain ⟨t, hlen, hsz⟩ := szItemS_at l hl hg
  refine ⟨10 * l.length + 100 + 3, ?_⟩
  generalize hk : 10 * l.length + 100 = k
  unfold laws_FnExactPlanShift.f laws_szPlan.f
  rw [hsz (k + 3) (by omega)]
  simp only [Option.bind_some]
  by_cases h0 : t < 0
  · rw [if_pos h0]
    rfl
  rw [if_neg h0]
  simp only [Option.bind_some]
  rw [if_neg h0]
  have hl' := hlen (by omega)
  have hm : (l.map conv).length = l.length := List.length_map _
  have hdl := planShift_length on (l.map conv) a b
  have e1 := toItemS_at (k + 3) l (by omega) hl'
  have e1' := toItemS_at (k + 2) l (by omega) hl'
  have e1'' := toItemS_at (k + 1) l (by omega) hl'
  have e2 := specPlanShift_at (k + 3) on (l.map conv) a b (by omega) (by omega)
  have e3 := implPlanShift_at (k + 3) on (l.map conv) a b (by omega) (by omega)
  have e3'' := implPlanShift_at (k + 1) on (l.map conv) a b (by omega) (by omega)
  have e4 := eqItemS_at (k + 2) (l.map conv) (by omega) (by omega)
  have e5 := eqItemS_at (k + 3) (planShift on (l.map conv) a b).2.1 (by omega) (by omega)
  have e5' := eqItemS_at (k + 2) (planShift on (l.map conv) a b).2.1 (by omega) (by omega)
  have e5'' := eqItemS_at (k + 1) (planShift on (l.map conv) a b).2.1 (by omega) (by omega)
  have e6 := markI_at (l.map conv) (k + 2) (by omega) (by omega)
  have e7 := markI_at (planShift on (l.map conv) a b).2.1 (k + 1) (by omega) (by omega)
  have e8 := heldI_at (planShift on (l.map conv) a b).2.1.length (k + 1) (by omega) (by omega)
  have e9 := heldI_at (planShift on (l.map conv) a b).2.1.length k (by omega) (by omega)
  generalize planShift on (l.map conv) a b = P at *
  obtain ⟨p1, p2, p3⟩ := P
  simp only at e5 e5' e5'' e7 e8 e9 hdl
  simp only [laws_toPlan.f, laws_eqPlan.f, e1, e2, e3, e5, Option.bind_some, if_true, bne_self_eq_false, Bool.false_eq_true, if_false]
  simp only [laws_FnExactPlanShift.j0, laws_toPlan.f, laws_eqPlan.f, laws_markPlan.f, e1', e4, e5', e6, Option.bind_some, if_true, bne_self_eq_false, Bool.false_eq_true, if_false]
  rw [if_neg (by omega)]
  simp only [laws_FnExactPlanShift.j1, laws_toPlan.f, laws_eqPlan.f, laws_markPlan.f, laws_heldPlan.f, e1'', e3'', e5'', e7, e8, Option.bind_some, if_true, Bool.false_eq_true, if_false, bne_self_eq_false]
  rw [if_neg (by omega)]
  simp only [Option.bind_some, if_true]
  rw [if_neg (by omega)]
  simp only [laws_FnExactPlanShift.j2, laws_heldPlan.f, e9, Bool.false_eq_true, if_false, Option.bind_some]
  rw [if_neg (by omega)]
  simp only [Option.bind_some, if_true]
  rw [if_neg (by omega)]

end Go.Proofs.Ythiddhipphaacaa.Pure
