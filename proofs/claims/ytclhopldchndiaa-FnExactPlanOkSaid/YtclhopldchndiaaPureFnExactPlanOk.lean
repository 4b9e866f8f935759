/- FnExactPlanOk: the program's PlanOk and the reference's answer alike and leave what they are handed alone. No conditions but that the texts are such as a machine holds. -/
import Derived.Test.YtclhopldchndiaaPFnExactPlanOkx4
import Derived.Test.YtclhopldchndiaaAux
namespace Go.Proofs.Ytclhopldchndiaa.Pure
open Go Go.RowKit Go.Proofs.Ytclhopldchndiaa.PFnExactPlanOk Go.Proofs.YtclhopldchndiaaW.PrintWords Go.Proofs.YtclhopldchndiaaW.PrintLast Go.Proofs.YtclhopldchndiaaW.PrintMore Go.Proofs.Ytclhopldchndiaa.Aux

namespace FnExactPlanOkL
theorem l1In_at (a b c : Int) : spec_l1In.f a b c = some (decide (b ≤ a ∧ a ≤ c)) := by
  unfold spec_l1In.f
  by_cases h : b ≤ a
  · rw [if_pos h]
    simp [h]
  · rw [if_neg h]
    simp [h]
theorem within_at (a c : Int) : impl_within.f a c = some (decide (0 ≤ a ∧ a ≤ c)) := by
  unfold impl_within.f
  by_cases h : 0 ≤ a
  · rw [if_pos h]
    simp [h]
  · rw [if_neg h]
    simp [h]
theorem up {i : Nat} (h : i < 9223372036854775807) : wrap64 ((i : Int) + 1) = ((i + 1 : Nat) : Int) := by
  rw [w64 (by omega) (by omega)]
  omega
theorem rdOf_at {α : Type} (d : α) (l : List α) (i : Nat) (h : i < l.length) : rdOf d l (i : Int) = l[i] := by
  unfold rdOf
  rw [Int.toNat_natCast, List.getD_eq_getElem?_getD, List.getElem?_eq_getElem h]
  rfl
/-- A list that is filled from its begin on. -/
theorem fill_take {α : Type} (l ys : List α) (i : Nat) (hi : i < l.length) (hl : ys.length = l.length) (h : ys.take i = l.take i) : (ys.set i l[i]).take (i + 1) = l.take (i + 1) := by
  have h1 : i < (ys.set i l[i]).length := by rw [List.length_set]; omega
  rw [List.take_succ_eq_append_getElem h1, List.take_succ_eq_append_getElem hi, List.getElem_set_self, List.take_set_of_le (Nat.le_refl _), h]
/-- An item as the program has it. -/
def conv (x : S122) : S107 := ⟨x.f0, x.f1⟩
theorem rdA_at (l : List (S122)) (i : Nat) (h : i < l.length) : rd_T122 l (i : Int) = l[i] := by
  unfold rd_T122
  rw [Int.toNat_natCast, List.getD_eq_getElem?_getD, List.getElem?_eq_getElem h]
  rfl
theorem rdB_at (l : List (S107)) (i : Nat) (h : i < l.length) : rd_T107 l (i : Int) = l[i] := by
  unfold rd_T107
  rw [Int.toNat_natCast, List.getD_eq_getElem?_getD, List.getElem?_eq_getElem h]
  rfl
theorem szItemS_l0 (d : Nat) : ∀ (i : Nat) (l : List (S122)) (x : Int), l.length ≤ 9223372036854775807 → (∀ a ∈ l, a.f1.size ≤ 9223372036854775807) → i + d = l.length → 0 ≤ x → x ≤ 1048576 →
    ∃ t, ∀ j, d < j → laws_szItemS.l0 j l x (i : Int) = some t := by
  induction d with
  | zero =>
    intro i l x hl hg hi h0 h1
    refine ⟨x, fun j hj => ?_⟩
    obtain ⟨j, rfl⟩ : ∃ m, j = m + 1 := ⟨j - 1, by omega⟩
    simp only [laws_szItemS.l0]
    rw [if_neg (by omega)]
  | succ d ih =>
    intro i l x hl hg hi h0 h1
    have hil : i < l.length := by omega
    have hs := hg _ (List.getElem_mem hil)
    by_cases h : x - (l[i].f1.size : Int) < 0
    · refine ⟨-1, fun j hj => ?_⟩
      obtain ⟨j, rfl⟩ : ∃ m, j = m + 1 := ⟨j - 1, by omega⟩
      simp only [laws_szItemS.l0, laws_szItem.f]
      rw [if_pos (by omega), if_pos (by omega), rdA_at _ _ hil, w64 (by omega) (by omega), if_pos h]
      simp only [Option.bind_some]
      rw [if_pos (by omega)]
    · obtain ⟨t, hj⟩ := ih (i + 1) l (x - (l[i].f1.size : Int)) hl hg (by omega) (by omega) (by omega)
      refine ⟨t, fun j hk => ?_⟩
      obtain ⟨j, rfl⟩ : ∃ m, j = m + 1 := ⟨j - 1, by omega⟩
      simp only [laws_szItemS.l0, laws_szItem.f]
      rw [if_pos (by omega), if_pos (by omega), rdA_at _ _ hil, w64 (by omega) (by omega), if_neg h]
      simp only [Option.bind_some]
      rw [if_neg h, up (by omega)]
      exact hj j (by omega)
theorem szItemS_at (l : List (S122)) (hl : l.length ≤ 9223372036854775807) (hg : ∀ a ∈ l, a.f1.size ≤ 9223372036854775807) :
    ∃ t, (0 ≤ t → l.length ≤ 1048576) ∧ ∀ k, l.length < k → laws_szItemS.f k l 1048576 = some t := by
  by_cases h : (1048576 : Int) - (l.length : Int) < 0
  · refine ⟨-1, by omega, fun k _ => ?_⟩
    unfold laws_szItemS.f
    rw [w64 (by omega) (by omega), if_pos h]
  · obtain ⟨t, hj⟩ := szItemS_l0 l.length 0 l (1048576 - (l.length : Int)) hl hg (by omega) (by omega) (by omega)
    refine ⟨t, fun _ => by omega, fun k hk => ?_⟩
    unfold laws_szItemS.f
    rw [w64 (by omega) (by omega), if_neg h]
    exact hj k hk
theorem toItemS_l0 (d : Nat) : ∀ (k i : Nat) (l : List (S122)) (ys : List (S107)), d < k → l.length ≤ 1048576 → i + d = l.length → ys.length = l.length → ys.take i = (l.map conv).take i →
    laws_toItemS.l0 k l ys (i : Int) = some (l.map conv) := by
  induction d with
  | zero =>
    intro k i l ys hk hl hi hy ht
    obtain ⟨k, rfl⟩ : ∃ m, k = m + 1 := ⟨k - 1, by omega⟩
    simp only [laws_toItemS.l0]
    rw [if_neg (by omega)]
    rw [List.take_of_length_le (by omega), List.take_of_length_le (by rw [List.length_map]; omega)] at ht
    rw [ht]
  | succ d ih =>
    intro k i l ys hk hl hi hy ht
    obtain ⟨k, rfl⟩ : ∃ m, k = m + 1 := ⟨k - 1, by omega⟩
    have hil : i < l.length := by omega
    have hc : (⟨l[i].f0, l[i].f1⟩ : S107) = (l.map conv)[i]'(by rw [List.length_map]; exact hil) := by rw [List.getElem_map]; rfl
    simp only [laws_toItemS.l0, laws_toItem.f, Option.bind_some]
    rw [if_pos (by omega), if_pos (by omega), if_pos (by omega), rdA_at _ _ hil, Int.toNat_natCast, up (by omega), hc]
    exact ih k (i + 1) l _ (by omega) hl (by omega) (by rw [List.length_set, hy]) (fill_take (l.map conv) ys i (by rw [List.length_map]; exact hil) (by rw [List.length_map]; exact hy) ht)
theorem toItemS_at (k : Nat) (l : List (S122)) (hk : l.length < k) (hl : l.length ≤ 1048576) : laws_toItemS.f k l = some (l.map conv) := by
  unfold laws_toItemS.f
  rw [if_pos (by omega), if_pos (by omega)]
  exact toItemS_l0 l.length k 0 l _ hk hl (by omega) (by rw [List.length_replicate, Int.toNat_natCast]) rfl
theorem eqItemS_l0 (d : Nat) : ∀ (k i : Nat) (l : List (S107)), d < k → l.length ≤ 9223372036854775807 → i + d = l.length → laws_eqItemS.l0 k l l (i : Int) = some true := by
  induction d with
  | zero =>
    intro k i l hk hl hi
    obtain ⟨k, rfl⟩ : ∃ m, k = m + 1 := ⟨k - 1, by omega⟩
    simp only [laws_eqItemS.l0]
    rw [if_neg (by omega)]
  | succ d ih =>
    intro k i l hk hl hi
    obtain ⟨k, rfl⟩ : ∃ m, k = m + 1 := ⟨k - 1, by omega⟩
    simp only [laws_eqItemS.l0, laws_eqItem.f, if_true, Option.bind_some]
    rw [if_pos (by omega), if_pos (by omega), if_pos (by omega), up (by omega)]
    exact ih k (i + 1) l (by omega) hl (by omega)
theorem eqItemS_at (k : Nat) (l : List (S107)) (hk : l.length < k) (hl : l.length ≤ 9223372036854775807) : laws_eqItemS.f k l l = some true := by
  unfold laws_eqItemS.f
  rw [if_pos rfl]
  exact eqItemS_l0 l.length k 0 l hk hl (by omega)
theorem planTextOk_at (s : ByteArray) : impl_planTextOk.f s = some (decide (1 ≤ (s.size : Int) ∧ (s.size : Int) ≤ 60)) := by
  unfold impl_planTextOk.f
  by_cases h : 1 ≤ (s.size : Int)
  · rw [if_pos h]
    simp [h]
  · rw [if_neg h]
    simp [h]
/-- Is item i within limits, and not ahead of the one before it? -/
def okAt (l : List (S107)) (i : Nat) : Bool := decide (0 ≤ (rd_T107 l (i : Int)).f0 ∧ (rd_T107 l (i : Int)).f0 ≤ 99999) && (decide (1 ≤ (((rd_T107 l (i : Int)).f1).size : Int) ∧ (((rd_T107 l (i : Int)).f1).size : Int) ≤ 60) &&
  (!decide ((i : Int) > 0) || !decide ((rd_T107 l ((i : Int) - 1)).f0 > (rd_T107 l (i : Int)).f0)))
/-- Are the next so many from item i on? -/
def okFrom (l : List (S107)) : Nat → Nat → Bool
  | 0, _ => true
  | d + 1, i => okAt l i && okFrom l d (i + 1)
/-- PlanOk's answer. -/
def planOk (l : List (S107)) : Bool := okFrom l l.length 0 && decide ((l.length : Int) ≤ 6)
theorem specPlanOk_step (k i : Nat) (on : Bool) (l : List (S107)) (hl : l.length ≤ 9223372036854775807) (hil : i < l.length) :
    spec_PlanOk.l0 (k + 1) (i : Int) on l = if okAt l i = true then spec_PlanOk.l0 k ((i + 1 : Nat) : Int) on l else some false := by
  simp only [spec_PlanOk.l0, l1In_at, Option.bind_some]
  rw [if_pos (by omega), if_pos (by omega), up (by omega), w64 (x := (i : Int) - 1) (by omega) (by omega), okAt]
  generalize decide (0 ≤ (rd_T107 l (i : Int)).f0 ∧ (rd_T107 l (i : Int)).f0 ≤ 99999) = b1
  generalize decide (1 ≤ (((rd_T107 l (i : Int)).f1).size : Int) ∧ (((rd_T107 l (i : Int)).f1).size : Int) ≤ 60) = b2
  by_cases h : (i : Int) > 0
  · simp only [if_pos h, if_pos (show 0 ≤ (i : Int) - 1 by omega), if_pos (show (i : Int) - 1 < (l.length : Int) by omega), decide_eq_true h]
    by_cases h2 : (rd_T107 l ((i : Int) - 1)).f0 > (rd_T107 l (i : Int)).f0
    · simp only [if_pos h2, decide_eq_true h2]
      cases b1 <;> cases b2 <;> rfl
    · simp only [if_neg h2, decide_eq_false h2]
      cases b1 <;> cases b2 <;> rfl
  · simp only [if_neg h, decide_eq_false h]
    cases b1 <;> cases b2 <;> rfl
theorem specPlanOk_l0 (d : Nat) : ∀ (k i : Nat) (on : Bool) (l : List (S107)), d < k → l.length ≤ 9223372036854775807 → i + d = l.length →
    spec_PlanOk.l0 k (i : Int) on l = some (okFrom l d i && decide ((l.length : Int) ≤ 6)) := by
  induction d with
  | zero =>
    intro k i on l hk hl hi
    obtain ⟨k, rfl⟩ : ∃ m, k = m + 1 := ⟨k - 1, by omega⟩
    simp only [spec_PlanOk.l0]
    rw [if_neg (by omega)]
    rfl
  | succ d ih =>
    intro k i on l hk hl hi
    obtain ⟨k, rfl⟩ : ∃ m, k = m + 1 := ⟨k - 1, by omega⟩
    rw [specPlanOk_step k i on l hl (by omega), okFrom]
    cases h : okAt l i with
    | false => rfl
    | true => rw [if_pos rfl, ih k (i + 1) on l (by omega) hl (by omega), Bool.true_and]
theorem specPlanOk_at (k : Nat) (on : Bool) (l : List (S107)) (hk : l.length < k) (hl : l.length ≤ 9223372036854775807) : spec_PlanOk.f k on l = some (planOk l) := by
  unfold spec_PlanOk.f planOk
  exact specPlanOk_l0 l.length k 0 on l hk hl (by omega)
theorem implPlanOk_step (k i : Nat) (on : Bool) (l : List (S107)) (hl : l.length ≤ 9223372036854775807) (hil : i < l.length) :
    impl_PlanOk.l0 (k + 2) l (l.length : Int) (i : Int) on l = if okAt l i = true then impl_PlanOk.l0 k l (l.length : Int) ((i + 1 : Nat) : Int) on l else some false := by
  simp only [impl_PlanOk.l0, within_at, planTextOk_at, Option.bind_some, impl_PlanOk.j1]
  rw [if_pos (by omega), if_pos (by omega), if_pos (by omega), up (by omega), w64 (x := (i : Int) - 1) (by omega) (by omega), okAt]
  generalize decide (0 ≤ (rd_T107 l (i : Int)).f0 ∧ (rd_T107 l (i : Int)).f0 ≤ 99999) = b1
  generalize decide (1 ≤ (((rd_T107 l (i : Int)).f1).size : Int) ∧ (((rd_T107 l (i : Int)).f1).size : Int) ≤ 60) = b2
  by_cases h : (i : Int) > 0
  · simp only [if_pos h, if_pos (show 0 ≤ (i : Int) - 1 by omega), if_pos (show (i : Int) - 1 < (l.length : Int) by omega), decide_eq_true h]
    by_cases h2 : (rd_T107 l ((i : Int) - 1)).f0 > (rd_T107 l (i : Int)).f0
    · simp only [if_pos (show (rd_T107 l (i : Int)).f0 < (rd_T107 l ((i : Int) - 1)).f0 from h2), decide_eq_true h2]
      cases b1 <;> cases b2 <;> rfl
    · simp only [if_neg (show ¬ (rd_T107 l (i : Int)).f0 < (rd_T107 l ((i : Int) - 1)).f0 from h2), decide_eq_false h2]
      cases b1 <;> cases b2 <;> rfl
  · simp only [if_neg h, decide_eq_false h]
    cases b1 <;> cases b2 <;> rfl
theorem implPlanOk_l0 (d : Nat) : ∀ (k i : Nat) (on : Bool) (l : List (S107)), 2 * d < k → l.length ≤ 9223372036854775807 → i + d = l.length →
    impl_PlanOk.l0 k l (l.length : Int) (i : Int) on l = some (okFrom l d i) := by
  induction d with
  | zero =>
    intro k i on l hk hl hi
    obtain ⟨k, rfl⟩ : ∃ m, k = m + 1 := ⟨k - 1, by omega⟩
    simp only [impl_PlanOk.l0]
    rw [if_neg (by omega)]
    rfl
  | succ d ih =>
    intro k i on l hk hl hi
    obtain ⟨k, rfl⟩ : ∃ m, k = m + 2 := ⟨k - 2, by omega⟩
    rw [implPlanOk_step k i on l hl (by omega), okFrom]
    cases h : okAt l i with
    | false => rfl
    | true => rw [if_pos rfl, ih k (i + 1) on l (by omega) hl (by omega), Bool.true_and]
theorem implPlanOk_at (k : Nat) (on : Bool) (l : List (S107)) (hk : 2 * l.length < k) (hl : l.length ≤ 9223372036854775807) : impl_PlanOk.f k on l = some (planOk l) := by
  have h0 : impl_PlanOk.l0 k l (l.length : Int) 0 on l = some (okFrom l l.length 0) := implPlanOk_l0 l.length k 0 on l hk hl (by omega)
  unfold impl_PlanOk.f planOk
  by_cases h : (l.length : Int) > 6
  · rw [if_pos h, decide_eq_false (by omega), Bool.and_false]
  · rw [if_neg h, h0, decide_eq_true (by omega), Bool.and_true]
end FnExactPlanOkL
open FnExactPlanOkL

theorem FnExactPlanOk (on : Bool) (l : List (S122)) (hl : l.length ≤ 9223372036854775807) (hg : ∀ a ∈ l, a.f1.size ≤ 9223372036854775807) : ∃ k, laws_FnExactPlanOk.f k on l = some true := by
  obtain ⟨t, hlen, hsz⟩ := szItemS_at l hl hg
  refine ⟨2 * l.length + 20, ?_⟩
  generalize hk : 2 * l.length + 20 = k
  unfold laws_FnExactPlanOk.f laws_szPlan.f
  rw [hsz k (by omega)]
  simp only [Option.bind_some]
  by_cases h0 : t < 0
  · rw [if_pos h0]
    rfl
  rw [if_neg h0]
  simp only [Option.bind_some]
  rw [if_neg h0]
  have hl' := hlen (by omega)
  have hm : (l.map conv).length = l.length := List.length_map _
  have e1 := toItemS_at k l (by omega) hl'
  have e2 := specPlanOk_at k on (l.map conv) (by omega) (by omega)
  have e3 := implPlanOk_at k on (l.map conv) (by omega) (by omega)
  have e5 := eqItemS_at k (l.map conv) (by omega) (by omega)
  simp only [laws_toPlan.f, laws_eqPlan.f, e1, e2, e3, e5, Option.bind_some, if_true, bne_self_eq_false, Bool.false_eq_true, if_false]

end Go.Proofs.Ytclhopldchndiaa.Pure
