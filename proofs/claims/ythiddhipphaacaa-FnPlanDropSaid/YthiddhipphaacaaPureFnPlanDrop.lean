/- FnPlanDrop: what is forgotten is what is of those times, and nothing else; forgotten twice is forgotten once. For all bytes from which a plan is drawn; no condition. -/
import Derived.Test.YthiddhipphaacaaPFnPlanDropx8
import Derived.Test.YthiddhipphaacaaAux
namespace Go.Proofs.Ythiddhipphaacaa.Pure
open Go Go.RowKit Go.Proofs.Ythiddhipphaacaa.PFnPlanDrop Go.Proofs.YthiddhipphaacaaW.PrintWords Go.Proofs.YthiddhipphaacaaW.PrintLast Go.Proofs.YthiddhipphaacaaW.PrintMore Go.Proofs.Ythiddhipphaacaa.Aux

namespace FnPlanDropL
theorem l1In_at (a b c : Int) : spec_l1In.f a b c = some (decide (b ≤ a ∧ a ≤ c)) := by
  unfold spec_l1In.f
  by_cases h : b ≤ a
  · rw [if_pos h]
    simp [h]
  · rw [if_neg h]
    simp [h]
theorem within_at (a c : Int) : impl_within.f a c = some (decide (0 ≤ a ∧ a ≤ c)) := by
  unfold impl_within.f
  by_cases h : 0 ≤ a
  · rw [if_pos h]
    simp [h]
  · rw [if_neg h]
    simp [h]
theorem up {i : Nat} (h : i < 9223372036854775807) : wrap64 ((i : Int) + 1) = ((i + 1 : Nat) : Int) := by
  rw [w64 (by omega) (by omega)]
  omega
theorem rdOf_at {α : Type} (d : α) (l : List α) (i : Nat) (h : i < l.length) : rdOf d l (i : Int) = l[i] := by
  unfold rdOf
  rw [Int.toNat_natCast, List.getD_eq_getElem?_getD, List.getElem?_eq_getElem h]
  rfl
/-- A list that is filled from its begin on. -/
theorem fill_take {α : Type} (l ys : List α) (i : Nat) (hi : i < l.length) (hl : ys.length = l.length) (h : ys.take i = l.take i) : (ys.set i l[i]).take (i + 1) = l.take (i + 1) := by
  have h1 : i < (ys.set i l[i]).length := by rw [List.length_set]; omega
  rw [List.take_succ_eq_append_getElem h1, List.take_succ_eq_append_getElem hi, List.getElem_set_self, List.take_set_of_le (Nat.le_refl _), h]
theorem planTextOk_at (s : ByteArray) : impl_planTextOk.f s = some (decide (1 ≤ (s.size : Int) ∧ (s.size : Int) ≤ 60)) := by
  unfold impl_planTextOk.f
  by_cases h : 1 ≤ (s.size : Int)
  · rw [if_pos h]
    simp [h]
  · rw [if_neg h]
    simp [h]
/-- Is item i within limits, and not ahead of the one before it? -/
def okAt (l : List (S32)) (i : Nat) : Bool := decide (0 ≤ (rd_T32 l (i : Int)).f0 ∧ (rd_T32 l (i : Int)).f0 ≤ 99999) && (decide (1 ≤ (((rd_T32 l (i : Int)).f1).size : Int) ∧ (((rd_T32 l (i : Int)).f1).size : Int) ≤ 60) &&
  (!decide ((i : Int) > 0) || !decide ((rd_T32 l ((i : Int) - 1)).f0 > (rd_T32 l (i : Int)).f0)))
/-- Are the next so many from item i on? -/
def okFrom (l : List (S32)) : Nat → Nat → Bool
  | 0, _ => true
  | d + 1, i => okAt l i && okFrom l d (i + 1)
/-- PlanOk's answer. -/
def planOk (l : List (S32)) : Bool := okFrom l l.length 0 && decide ((l.length : Int) ≤ 6)
theorem specPlanOk_step (k i : Nat) (on : Bool) (l : List (S32)) (hl : l.length ≤ 9223372036854775807) (hil : i < l.length) :
    spec_PlanOk.l0 (k + 1) (i : Int) on l = if okAt l i = true then spec_PlanOk.l0 k ((i + 1 : Nat) : Int) on l else some false := by
  simp only [spec_PlanOk.l0, l1In_at, Option.bind_some]
  rw [if_pos (by omega), if_pos (by omega), up (by omega), w64 (x := (i : Int) - 1) (by omega) (by omega), okAt]
  generalize decide (0 ≤ (rd_T32 l (i : Int)).f0 ∧ (rd_T32 l (i : Int)).f0 ≤ 99999) = b1
  generalize decide (1 ≤ (((rd_T32 l (i : Int)).f1).size : Int) ∧ (((rd_T32 l (i : Int)).f1).size : Int) ≤ 60) = b2
  by_cases h : (i : Int) > 0
  · simp only [if_pos h, if_pos (show 0 ≤ (i : Int) - 1 by omega), if_pos (show (i : Int) - 1 < (l.length : Int) by omega), decide_eq_true h]
    by_cases h2 : (rd_T32 l ((i : Int) - 1)).f0 > (rd_T32 l (i : Int)).f0
    · simp only [if_pos h2, decide_eq_true h2]
      cases b1 <;> cases b2 <;> rfl
    · simp only [if_neg h2, decide_eq_false h2]
      cases b1 <;> cases b2 <;> rfl
  · simp only [if_neg h, decide_eq_false h]
    cases b1 <;> cases b2 <;> rfl
theorem specPlanOk_l0 (d : Nat) : ∀ (k i : Nat) (on : Bool) (l : List (S32)), d < k → l.length ≤ 9223372036854775807 → i + d = l.length →
    spec_PlanOk.l0 k (i : Int) on l = some (okFrom l d i && decide ((l.length : Int) ≤ 6)) := by
  induction d with
  | zero =>
    intro k i on l hk hl hi
    obtain ⟨k, rfl⟩ : ∃ m, k = m + 1 := ⟨k - 1, by omega⟩
    simp only [spec_PlanOk.l0]
    rw [if_neg (by omega)]
    rfl
  | succ d ih =>
    intro k i on l hk hl hi
    obtain ⟨k, rfl⟩ : ∃ m, k = m + 1 := ⟨k - 1, by omega⟩
    rw [specPlanOk_step k i on l hl (by omega), okFrom]
    cases h : okAt l i with
    | false => rfl
    | true => rw [if_pos rfl, ih k (i + 1) on l (by omega) hl (by omega), Bool.true_and]
theorem specPlanOk_at (k : Nat) (on : Bool) (l : List (S32)) (hk : l.length < k) (hl : l.length ≤ 9223372036854775807) : spec_PlanOk.f k on l = some (planOk l) := by
  unfold spec_PlanOk.f planOk
  exact specPlanOk_l0 l.length k 0 on l hk hl (by omega)
theorem implPlanOk_step (k i : Nat) (on : Bool) (l : List (S32)) (hl : l.length ≤ 9223372036854775807) (hil : i < l.length) :
    impl_PlanOk.l0 (k + 2) l (l.length : Int) (i : Int) on l = if okAt l i = true then impl_PlanOk.l0 k l (l.length : Int) ((i + 1 : Nat) : Int) on l else some false := by
  simp only [impl_PlanOk.l0, within_at, planTextOk_at, Option.bind_some, impl_PlanOk.j1]
  rw [if_pos (by omega), if_pos (by omega), if_pos (by omega), up (by omega), w64 (x := (i : Int) - 1) (by omega) (by omega), okAt]
  generalize decide (0 ≤ (rd_T32 l (i : Int)).f0 ∧ (rd_T32 l (i : Int)).f0 ≤ 99999) = b1
  generalize decide (1 ≤ (((rd_T32 l (i : Int)).f1).size : Int) ∧ (((rd_T32 l (i : Int)).f1).size : Int) ≤ 60) = b2
  by_cases h : (i : Int) > 0
  · simp only [if_pos h, if_pos (show 0 ≤ (i : Int) - 1 by omega), if_pos (show (i : Int) - 1 < (l.length : Int) by omega), decide_eq_true h]
    by_cases h2 : (rd_T32 l ((i : Int) - 1)).f0 > (rd_T32 l (i : Int)).f0
    · simp only [if_pos (show (rd_T32 l (i : Int)).f0 < (rd_T32 l ((i : Int) - 1)).f0 from h2), decide_eq_true h2]
      cases b1 <;> cases b2 <;> rfl
    · simp only [if_neg (show ¬ (rd_T32 l (i : Int)).f0 < (rd_T32 l ((i : Int) - 1)).f0 from h2), decide_eq_false h2]
      cases b1 <;> cases b2 <;> rfl
  · simp only [if_neg h, decide_eq_false h]
    cases b1 <;> cases b2 <;> rfl
theorem implPlanOk_l0 (d : Nat) : ∀ (k i : Nat) (on : Bool) (l : List (S32)), 2 * d < k → l.length ≤ 9223372036854775807 → i + d = l.length →
    impl_PlanOk.l0 k l (l.length : Int) (i : Int) on l = some (okFrom l d i) := by
  induction d with
  | zero =>
    intro k i on l hk hl hi
    obtain ⟨k, rfl⟩ : ∃ m, k = m + 1 := ⟨k - 1, by omega⟩
    simp only [impl_PlanOk.l0]
    rw [if_neg (by omega)]
    rfl
  | succ d ih =>
    intro k i on l hk hl hi
    obtain ⟨k, rfl⟩ : ∃ m, k = m + 2 := ⟨k - 2, by omega⟩
    rw [implPlanOk_step k i on l hl (by omega), okFrom]
    cases h : okAt l i with
    | false => rfl
    | true => rw [if_pos rfl, ih k (i + 1) on l (by omega) hl (by omega), Bool.true_and]
theorem implPlanOk_at (k : Nat) (on : Bool) (l : List (S32)) (hk : 2 * l.length < k) (hl : l.length ≤ 9223372036854775807) : impl_PlanOk.f k on l = some (planOk l) := by
  have h0 : impl_PlanOk.l0 k l (l.length : Int) 0 on l = some (okFrom l l.length 0) := implPlanOk_l0 l.length k 0 on l hk hl (by omega)
  unfold impl_PlanOk.f planOk
  by_cases h : (l.length : Int) > 6
  · rw [if_pos h, decide_eq_false (by omega), Bool.and_false]
  · rw [if_neg h, h0, decide_eq_true (by omega), Bool.and_true]
/-- Does an item stay? -/
def stays (a b : Int) (x : S32) : Bool := !decide (a ≤ x.f0 ∧ x.f0 ≤ b)
/-- PlanDrop's answer. -/
def planDrop (on : Bool) (l : List (S32)) (a b : Int) : Bool × List (S32) := if planOk l = true then (on, l.filter (stays a b)) else (false, [])
theorem dropB_at (l : List (S32)) (i : Nat) (h : i < l.length) : rd_T32 l (i : Int) = l[i] := by
  unfold rd_T32
  rw [Int.toNat_natCast, List.getD_eq_getElem?_getD, List.getElem?_eq_getElem h]
  rfl
theorem implDrop_l0 (a b : Int) (on : Bool) (l : List (S32)) (hl : l.length ≤ 1000000) (d : Nat) : ∀ (k i : Nat) (acc : List (S32)), d < k → i + d = l.length → acc.length ≤ i →
    impl_PlanDrop.l0 k a b l (l.length : Int) (i : Int) on acc = some (on, acc ++ (l.drop i).filter (stays a b)) := by
  induction d with
  | zero =>
    intro k i acc hk hi ha
    obtain ⟨k, rfl⟩ : ∃ m, k = m + 1 := ⟨k - 1, by omega⟩
    simp only [impl_PlanDrop.l0]
    rw [if_neg (by omega), List.drop_of_length_le (by omega)]
    simp
  | succ d ih =>
    intro k i acc hk hi ha
    obtain ⟨k, rfl⟩ : ∃ m, k = m + 1 := ⟨k - 1, by omega⟩
    have hil : i < l.length := by omega
    have e := List.drop_eq_getElem_cons hil
    simp only [impl_PlanDrop.l0]
    rw [if_pos (by omega), if_pos (by omega), if_pos (by omega), dropB_at l i hil, up (by omega), if_pos (show acc.length < 5864062014805 by omega), e]
    by_cases h1 : (l[i]).f0 < a
    · have hs : stays a b l[i] = true := by simp only [stays, Bool.not_eq_true', decide_eq_false_iff_not]; omega
      rw [if_pos h1, ih k (i + 1) _ (by omega) (by omega) (by rw [List.length_append, List.length_singleton]; omega), List.filter_cons_of_pos hs, List.append_assoc]
      rfl
    · rw [if_neg h1]
      by_cases h2 : (l[i]).f0 > b
      · have hs : stays a b l[i] = true := by simp only [stays, Bool.not_eq_true', decide_eq_false_iff_not]; omega
        rw [if_pos h2, ih k (i + 1) _ (by omega) (by omega) (by rw [List.length_append, List.length_singleton]; omega), List.filter_cons_of_pos hs, List.append_assoc]
        rfl
      · have hs : ¬ stays a b l[i] = true := by simp only [stays, Bool.not_eq_true', decide_eq_false_iff_not, Classical.not_not]; omega
        rw [if_neg h2, ih k (i + 1) _ (by omega) (by omega) (by omega), List.filter_cons_of_neg hs]
theorem specDrop_l0 (a b : Int) (on on2 : Bool) (l : List (S32)) (hl : l.length ≤ 1000000) (d : Nat) : ∀ (k i : Nat) (acc : List (S32)), d < k → i + d = l.length → acc.length ≤ i →
    spec_PlanDrop.l0 k a b (i : Int) on l on2 acc = some (on2, acc ++ (l.drop i).filter (stays a b)) := by
  induction d with
  | zero =>
    intro k i acc hk hi ha
    obtain ⟨k, rfl⟩ : ∃ m, k = m + 1 := ⟨k - 1, by omega⟩
    simp only [spec_PlanDrop.l0]
    rw [if_neg (by omega), List.drop_of_length_le (by omega)]
    simp
  | succ d ih =>
    intro k i acc hk hi ha
    obtain ⟨k, rfl⟩ : ∃ m, k = m + 1 := ⟨k - 1, by omega⟩
    have hil : i < l.length := by omega
    have e := List.drop_eq_getElem_cons hil
    simp only [spec_PlanDrop.l0, l1In_at, Option.bind_some]
    rw [if_pos (by omega), if_pos (by omega), dropB_at l i hil, up (by omega), if_pos (show (acc.length : Nat) < 5864062014805 by omega), e]
    by_cases h1 : a ≤ (l[i]).f0 ∧ (l[i]).f0 ≤ b
    · have hs : ¬ stays a b l[i] = true := by simp only [stays, Bool.not_eq_true', decide_eq_false_iff_not, Classical.not_not]; exact h1
      rw [if_pos (decide_eq_true h1), ih k (i + 1) _ (by omega) (by omega) (by omega), List.filter_cons_of_neg hs]
    · have hs : stays a b l[i] = true := by simp only [stays, Bool.not_eq_true', decide_eq_false_iff_not]; exact h1
      rw [if_neg (by simpa using h1), ih k (i + 1) _ (by omega) (by omega) (by rw [List.length_append, List.length_singleton]; omega), List.filter_cons_of_pos hs, List.append_assoc]
      rfl
theorem planOk_length {l : List (S32)} (h : planOk l = true) : l.length ≤ 6 := by
  simp only [planOk, Bool.and_eq_true, decide_eq_true_eq] at h
  omega
theorem implPlanDrop_at (k : Nat) (on : Bool) (l : List (S32)) (a b : Int) (hk : 2 * l.length + 8 < k) (hl : l.length ≤ 9223372036854775807) : impl_PlanDrop.f k on l a b = some (planDrop on l a b) := by
  unfold impl_PlanDrop.f planDrop
  rw [implPlanOk_at k on l (by omega) hl]
  cases h : planOk l with
  | false => rfl
  | true =>
    have := planOk_length h
    simp only [Option.bind_some, if_true]
    have h0 := implDrop_l0 a b on l (by omega) l.length k 0 [] (by omega) (by omega) (by simp)
    simpa using h0
theorem specPlanDrop_at (k : Nat) (on : Bool) (l : List (S32)) (a b : Int) (hk : l.length + 8 < k) (hl : l.length ≤ 9223372036854775807) : spec_PlanDrop.f k on l a b = some (planDrop on l a b) := by
  unfold spec_PlanDrop.f planDrop
  rw [specPlanOk_at k on l (by omega) hl]
  cases h : planOk l with
  | false => rfl
  | true =>
    have := planOk_length h
    simp only [Option.bind_some, if_true]
    have h0 := specDrop_l0 a b on on l (by omega) l.length k 0 [] (by omega) (by omega) (by simp)
    simpa using h0
theorem planDrop_length (on : Bool) (l : List (S32)) (a b : Int) : (planDrop on l a b).2.length ≤ 6 := by
  unfold planDrop
  split
  · rename_i h
    have := planOk_length h
    have := List.length_filter_le (stays a b) l
    show (l.filter (stays a b)).length ≤ 6
    omega
  · simp
/-- Is an item within limits? -/
def itemOk (x : S32) : Prop := (0 ≤ x.f0 ∧ x.f0 ≤ 99999) ∧ 1 ≤ (x.f1.size : Int) ∧ (x.f1.size : Int) ≤ 60
theorem okFrom_iff (l : List (S32)) (d : Nat) : ∀ i, okFrom l d i = true ↔ ∀ j, i ≤ j → j < i + d → okAt l j = true := by
  induction d with
  | zero => intro i; simp only [okFrom, true_iff]; intro j h1 h2; omega
  | succ d ih =>
    intro i
    simp only [okFrom, Bool.and_eq_true, ih]
    constructor
    · rintro ⟨h1, h2⟩ j hj1 hj2
      by_cases e : j = i
      · rw [e]; exact h1
      · exact h2 j (by omega) (by omega)
    · intro h
      exact ⟨h i (by omega) (by omega), fun j h1 h2 => h j (by omega) (by omega)⟩
theorem okAt_iff (l : List (S32)) (i : Nat) (hi : i < l.length) : okAt l i = true ↔ itemOk l[i] ∧ ∀ h : 0 < i, (l[i - 1]'(by omega)).f0 ≤ (l[i]).f0 := by
  unfold okAt itemOk
  rw [dropB_at l i hi]
  by_cases h : 0 < i
  · have e : (i : Int) - 1 = ((i - 1 : Nat) : Int) := by omega
    rw [e, dropB_at l (i - 1) (by omega), decide_eq_true (show (i : Int) > 0 by omega)]
    simp only [Bool.and_eq_true, decide_eq_true_eq, Bool.not_true, Bool.false_or, Bool.not_eq_true', decide_eq_false_iff_not, Int.not_lt, and_assoc]
    constructor
    · rintro ⟨a, b, c, d, e⟩; exact ⟨a, b, c, d, fun _ => by omega⟩
    · rintro ⟨a, b, c, d, e⟩; exact ⟨a, b, c, d, by have := e h; omega⟩
  · rw [decide_eq_false (show ¬ (i : Int) > 0 by omega)]
    simp only [Bool.and_eq_true, decide_eq_true_eq, Bool.not_false, Bool.true_or, and_true, and_assoc]
    constructor
    · rintro ⟨a, b, c, d⟩; exact ⟨a, b, c, d, fun h2 => absurd h2 h⟩
    · rintro ⟨a, b, c, d, _⟩; exact ⟨a, b, c, d⟩
/-- A plan is ok: at most six, each within limits, by time. -/
theorem planOk_iff (l : List (S32)) : planOk l = true ↔ (∀ x ∈ l, itemOk x) ∧ l.Pairwise (fun x y => x.f0 ≤ y.f0) ∧ l.length ≤ 6 := by
  unfold planOk
  rw [Bool.and_eq_true, okFrom_iff, decide_eq_true_eq]
  constructor
  · rintro ⟨h, hl⟩
    have h' : ∀ i (hi : i < l.length), itemOk l[i] ∧ ∀ h : 0 < i, (l[i - 1]'(by omega)).f0 ≤ (l[i]).f0 := fun i hi => (okAt_iff l i hi).1 (h i (by omega) (by omega))
    refine ⟨fun x hx => ?_, List.pairwise_iff_getElem.2 fun i j hi hj hij => ?_, by omega⟩
    · obtain ⟨i, hi, rfl⟩ := List.mem_iff_getElem.1 hx
      exact (h' i hi).1
    · have step : ∀ d (hd : i + d < l.length), (l[i]).f0 ≤ (l[i + d]).f0 := by
        intro d
        induction d with
        | zero => intro _; exact Int.le_refl _
        | succ d ih =>
          intro hd
          have h1 := ih (by omega)
          have h2 := (h' (i + (d + 1)) hd).2 (by omega)
          exact Int.le_trans h1 h2
      have h3 := step (j - i) (by omega)
      have e : i + (j - i) = j := by omega
      simpa only [e] using h3
  · rintro ⟨h1, h2, h3⟩
    refine ⟨fun j _ hj => ?_, by omega⟩
    have hj' : j < l.length := by omega
    exact (okAt_iff l j hj').2 ⟨h1 _ (List.getElem_mem hj'), fun h => List.pairwise_iff_getElem.1 h2 (j - 1) j (by omega) hj' (by omega)⟩
theorem planOk_filter (l : List (S32)) (p : S32 → Bool) (h : planOk l = true) : planOk (l.filter p) = true := by
  obtain ⟨h1, h2, h3⟩ := (planOk_iff l).1 h
  exact (planOk_iff _).2 ⟨fun x hx => h1 x (List.mem_filter.1 hx).1, h2.filter p, Nat.le_trans (List.length_filter_le p l) h3⟩
/-- What is read from: at most 2000 bytes. -/
def Bytes (xs : List Int) : Prop := xs.length ≤ 2000 ∧ ∀ x ∈ xs, 0 ≤ x ∧ x ≤ 255
theorem rd_rng {xs : List Int} (h : Bytes xs) (i : Int) : 0 ≤ rd xs i ∧ rd xs i ≤ 255 := by
  unfold rd
  rw [List.getD_eq_getElem?_getD]
  cases hx : xs[i.toNat]? with
  | none => simp
  | some x => exact h.2 x (List.mem_of_getElem? hx)
theorem u8_rng {x : Int} (h : (Lit.int .u8 x).wf = true) : 0 ≤ x ∧ x ≤ 255 := by
  simpa [Lit.wf, IntKind.min, IntKind.max, IntKind.bits, IntKind.signed] using h
/-- Opening what came: its first 2000 bytes. -/
theorem open_at (l : List Int) (hl : l.length ≤ 140737488351232) (h : ∀ x ∈ l, (Lit.int .u8 x).wf = true) : spec_l1Open.f l = some (l.take 2000, 0) ∧ Bytes (l.take 2000) := by
  refine ⟨?_, by rw [List.length_take]; omega, fun x hx => u8_rng (h x (List.mem_of_mem_take hx))⟩
  unfold spec_l1Open.f
  by_cases h2 : (l.length : Int) > 2000
  · rw [if_pos h2, if_pos (by omega)]
  · rw [if_neg h2, List.take_of_length_le (by omega)]
theorem xor_rng {x y : Int} (hx0 : 0 ≤ x) (hx1 : x < 4611686018427387904) (hy0 : 0 ≤ y) (hy1 : y < 4611686018427387904) : 0 ≤ bits .xor .i64 x y ∧ bits .xor .i64 x y < 4611686018427387904 := by
  obtain ⟨a, rfl⟩ := Int.eq_ofNat_of_zero_le hx0
  obtain ⟨b, rfl⟩ := Int.eq_ofNat_of_zero_le hy0
  have h : a ^^^ b < 2 ^ 62 := Nat.xor_lt_two_pow (by omega) (by omega)
  have e : bits .xor .i64 (a : Int) (b : Int) = ((a ^^^ b : Nat) : Int) := by
    show IntKind.i64.wrap ((BitVec.ofInt 64 (a : Int) ^^^ BitVec.ofInt 64 (b : Int)).toNat : Int) = _
    rw [BitVec.toNat_xor, BitVec.ofInt_natCast, BitVec.ofInt_natCast, BitVec.toNat_ofNat, BitVec.toNat_ofNat, Nat.mod_eq_of_lt (by omega), Nat.mod_eq_of_lt (by omega)]
    exact wraps_i64 _ (by omega) (by omega)
  rw [e]
  omega
/-- The number that is reckoned where what came is at its end. -/
theorem mix_rng {a b p q : Int} (ha0 : 0 ≤ a) (ha1 : a ≤ 255) (hb0 : 0 ≤ b) (hb1 : b ≤ 255) (hp0 : 0 ≤ p) (hp1 : p ≤ 1099511627776) (hq0 : 0 ≤ q) (hq1 : q ≤ 1099511627776) :
    ∃ v, wrap64 (wrap64 (wrap64 (wrap64 (wrap64 a * 131) + wrap64 (wrap64 b * 1117)) + wrap64 (p * 29)) + wrap64 (wrap64 q * 53)) = v ∧ 0 ≤ v ∧ v < 4611686018427387904 := by
  refine ⟨a * 131 + b * 1117 + p * 29 + q * 53, ?_, by omega, by omega⟩
  rw [w64 (x := a) (by omega) (by omega), w64 (x := b) (by omega) (by omega), w64 (x := q) (by omega) (by omega), w64 (x := a * 131) (by omega) (by omega), w64 (x := b * 1117) (by omega) (by omega), w64 (x := p * 29) (by omega) (by omega), w64 (x := q * 53) (by omega) (by omega),
    w64 (x := a * 131 + b * 1117) (by omega) (by omega), w64 (x := a * 131 + b * 1117 + p * 29) (by omega) (by omega), w64 (by omega) (by omega)]
theorem tmod_rng {x m : Int} (h0 : 0 ≤ x) (hm : 1 ≤ m) : 0 ≤ Int.tmod x m ∧ Int.tmod x m < m := by
  rw [tmodp h0]
  exact ⟨Int.emod_nonneg _ (by omega), Int.emod_lt_of_pos _ (by omega)⟩
/-- One pick: a number below m. -/
theorem pick_at {xs : List Int} (h : Bytes xs) (p m : Int) (hp0 : 0 ≤ p) (hp1 : p ≤ 1000000) (hm : 1 ≤ m) :
    ∃ r, 0 ≤ r ∧ r < m ∧ ∀ k, 2 ≤ k → spec_l1Rd_pick.f k xs p m = some (r, p + 1) := by
  have hlen := h.1
  have e1 : wrap64 (p + 1) = p + 1 := w64 (by omega) (by omega)
  have e2 : wrap64 (p + 1 - 1) = p := by rw [w64 (by omega) (by omega)]; omega
  have n1 : ¬ m < 1 := by omega
  have n2 : ¬ m = 0 := by omega
  by_cases hz : xs.length = 0
  · refine ⟨0, by omega, by omega, fun k hk => ?_⟩
    obtain ⟨k, rfl⟩ : ∃ q, k = q + 1 := ⟨k - 1, by omega⟩
    have hb : ((xs.length : Int) == 0) = true := by rw [hz]; rfl
    unfold spec_l1Rd_pick.f
    rw [if_neg n1, hb, e1]
    simp only [spec_l1Rd_pick.j0, if_true]
  have hb : ((xs.length : Int) == 0) = false := beq_eq_false_iff_ne.mpr (by omega)
  by_cases hlt : p < (xs.length : Int)
  · have hr := rd_rng h p
    have e3 : wrap64 (rd xs p) = rd xs p := w64 (by omega) (by omega)
    obtain ⟨t0, t1⟩ := tmod_rng (x := rd xs p) (m := m) hr.1 hm
    refine ⟨Int.tmod (rd xs p) m, t0, t1, fun k hk => ?_⟩
    obtain ⟨k, rfl⟩ : ∃ q, k = q + 1 := ⟨k - 1, by omega⟩
    unfold spec_l1Rd_pick.f
    rw [if_neg n1, hb, e1]
    simp only [spec_l1Rd_pick.j0, Bool.false_eq_true, if_false, e2]
    rw [if_pos hlt, if_pos hp0, if_neg n2, e3]
  · have hl1 : 1 ≤ (xs.length : Int) := by omega
    have m1 := tmod_rng (x := p) (m := (xs.length : Int)) hp0 hl1
    have e4 : wrap64 (wrap64 (p * 7) + 3) = p * 7 + 3 := by rw [w64 (x := p * 7) (by omega) (by omega), w64 (by omega) (by omega)]
    have m2 := tmod_rng (x := p * 7 + 3) (m := (xs.length : Int)) (by omega) hl1
    have r1 := rd_rng h (Int.tmod p (xs.length : Int))
    have r2 := rd_rng h (Int.tmod (p * 7 + 3) (xs.length : Int))
    have q0 : 0 ≤ Int.tdiv p (xs.length : Int) := by rw [tdivp hp0]; exact Int.ediv_nonneg hp0 (by omega)
    have q1 : Int.tdiv p (xs.length : Int) ≤ 1000000 := by rw [tdivp hp0]; exact Int.le_trans (Int.ediv_le_self _ hp0) hp1
    obtain ⟨v, hv, v0, v1⟩ := mix_rng (p := p) (q := Int.tdiv p (xs.length : Int)) r1.1 r1.2 r2.1 r2.2 hp0 (by omega) q0 (by omega)
    have d1 : wrap64 (Int.tdiv v 64) = v / 64 := by rw [tdivp v0, w64 (by omega) (by omega)]
    obtain ⟨x0, x1⟩ := xor_rng (x := v) (y := v / 64) v0 v1 (by omega) (by omega)
    obtain ⟨t0, t1⟩ := tmod_rng (x := bits .xor .i64 v (v / 64)) (m := m) x0 hm
    refine ⟨Int.tmod (bits .xor .i64 v (v / 64)) m, t0, t1, fun k hk => ?_⟩
    obtain ⟨k, rfl⟩ : ∃ q, k = q + 1 := ⟨k - 1, by omega⟩
    unfold spec_l1Rd_pick.f
    rw [if_neg n1, hb, e1]
    simp only [spec_l1Rd_pick.j0, Bool.false_eq_true, if_false, e2, e4]
    rw [if_neg hlt, if_neg (show ¬ (xs.length : Int) = 0 by omega), if_pos m1.1, if_pos m1.2, if_pos m2.1, if_pos m2.2, if_neg n2, hv, d1]
theorem text_l0 {xs : List Int} (h : Bytes xs) (d : Nat) : ∀ (acc : List Int) (p : Int), acc.length + d ≤ 1000 → 0 ≤ p → p + 3 * d ≤ 500000 →
    ∃ t q, t.size = acc.length + d ∧ p ≤ q ∧ q ≤ p + 3 * d ∧ ∀ k, d + 2 < k → spec_l15Text.l0 k acc (d : Int) xs p = some (t, q) := by
  induction d with
  | zero =>
    intro acc p ha hp0 hp1
    refine ⟨strOfNums acc, p, strOfNums_size acc, by omega, by omega, fun k hk => ?_⟩
    obtain ⟨k, rfl⟩ : ∃ m, k = m + 1 := ⟨k - 1, by omega⟩
    simp only [spec_l15Text.l0]
    rw [if_neg (by omega)]
  | succ d ih =>
    intro acc p ha hp0 hp1
    obtain ⟨r1, a1, b1, c1⟩ := pick_at h p 256 hp0 (by omega) (by omega)
    obtain ⟨r2, a2, b2, c2⟩ := pick_at h (p + 1) 4 (by omega) (by omega) (by omega)
    obtain ⟨r3, a3, b3, c3⟩ := pick_at h (p + 1 + 1) 5 (by omega) (by omega) (by omega)
    obtain ⟨t, q, ht, hq0, hq1, hk⟩ := ih (acc ++ [(rd [r1, r2, 85, 235, 144] r3) % 256]) (p + 1 + 1 + 1) (by rw [List.length_append, List.length_singleton]; omega) (by omega) (by omega)
    refine ⟨t, q, by rw [ht, List.length_append, List.length_singleton]; omega, by omega, by omega, fun k hkk => ?_⟩
    obtain ⟨k, rfl⟩ : ∃ m, k = m + 1 := ⟨k - 1, by omega⟩
    have e : wrap64 (((d + 1 : Nat) : Int) - 1) = (d : Int) := by rw [w64 (by omega) (by omega)]; omega
    simp only [spec_l15Text.l0]
    rw [if_pos (by omega), c1 k (by omega)]
    simp only [Option.bind_some]
    rw [c2 k (by omega)]
    simp only [Option.bind_some]
    rw [c3 k (by omega)]
    simp only [Option.bind_some]
    rw [if_pos a3, if_pos (by show r3 < 5; omega), if_pos (by omega), e]
    exact hk k (by omega)
/-- A text that is drawn: at most n bytes. -/
theorem text_at {xs : List Int} (h : Bytes xs) (p : Int) (n : Nat) (hp0 : 0 ≤ p) (hp1 : p ≤ 100000) (hn : n ≤ 900) :
    ∃ t q, t.size ≤ n ∧ p ≤ q ∧ q ≤ p + 1 + 3 * n ∧ ∀ k, n + 10 < k → spec_l15Text.f k xs p (n : Int) = some (t, q) := by
  obtain ⟨r, a, b, c⟩ := pick_at h p ((n : Int) + 1) hp0 (by omega) (by omega)
  obtain ⟨d, rfl⟩ := Int.eq_ofNat_of_zero_le a
  obtain ⟨t, q, ht, hq0, hq1, hk⟩ := text_l0 h d [] (p + 1) (by rw [List.length_nil]; omega) (by omega) (by omega)
  refine ⟨t, q, by rw [ht, List.length_nil]; omega, by omega, by omega, fun k hkk => ?_⟩
  unfold spec_l15Text.f
  rw [w64 (x := (n : Int) + 1) (by omega) (by omega), c k (by omega)]
  simp only [Option.bind_some]
  exact hk k (by omega)
theorem bnd {α β : Type} {o : Option α} {f : α → Option β} {b : β} (a : α) (h : o = some a) (h2 : f a = some b) : o.bind f = some b := Option.bind_eq_some_iff.2 ⟨a, h, h2⟩
theorem l9Put_l0 (on : Bool) (l : List (S32)) (t : Int) (s : ByteArray) (hl : l.length ≤ 1000000) (d : Nat) : ∀ (i : Nat), i + d = l.length → ∃ r, r.length = l.length + 1 ∧ ∀ k, d < k → spec_l9Put.l0 k (i : Int) on l t s = some (on, r) := by
  induction d with
  | zero =>
    intro i hi
    refine ⟨(([] ++ l.take i) ++ [⟨t, s⟩]) ++ l.drop i, ?_, fun k hk => ?_⟩
    · simp only [List.length_append, List.length_nil, List.length_singleton, List.length_take, List.length_drop]
      omega
    · obtain ⟨k, rfl⟩ : ∃ m, k = m + 1 := ⟨k - 1, by omega⟩
      simp only [spec_l9Put.l0]
      rw [if_neg (by omega)]
      simp only [Option.bind_some, Int.toNat_natCast]
      rw [if_pos (by omega), if_pos (by omega), if_pos (by simp only [List.length_nil, List.length_take]; omega)]
      rw [if_pos (by simp only [List.length_append, List.length_nil, List.length_singleton, List.length_take]; omega), if_pos (by simp only [List.length_append, List.length_nil, List.length_singleton, List.length_take, List.length_drop]; omega)]
  | succ d ih =>
    intro i hi
    by_cases h : (rd_T32 l (i : Int)).f0 ≤ t
    · obtain ⟨r, hr, hk⟩ := ih (i + 1) (by omega)
      refine ⟨r, hr, fun k hkk => ?_⟩
      obtain ⟨k, rfl⟩ : ∃ m, k = m + 1 := ⟨k - 1, by omega⟩
      simp only [spec_l9Put.l0]
      rw [if_pos (by omega), if_pos (by omega), if_pos h, up (by omega)]
      exact hk k (by omega)
    · refine ⟨(([] ++ l.take i) ++ [⟨t, s⟩]) ++ l.drop i, ?_, fun k hk => ?_⟩
      · simp only [List.length_append, List.length_nil, List.length_singleton, List.length_take, List.length_drop]
        omega
      · obtain ⟨k, rfl⟩ : ∃ m, k = m + 1 := ⟨k - 1, by omega⟩
        simp only [spec_l9Put.l0]
        rw [if_pos (by omega), if_pos (by omega), if_neg h]
        simp only [Option.bind_some, Int.toNat_natCast]
        rw [if_pos (by omega), if_pos (by simp only [List.length_nil, List.length_take]; omega)]
        rw [if_pos (by simp only [List.length_append, List.length_nil, List.length_singleton, List.length_take]; omega), if_pos (by simp only [List.length_append, List.length_nil, List.length_singleton, List.length_take, List.length_drop]; omega)]
theorem copy_at (on : Bool) (l : List (S32)) (hl : l.length ≤ 1000000) : spec_l9Copy.f on l = some (on, l) := by
  unfold spec_l9Copy.f
  simp only [Option.bind_some]
  rw [if_pos (by simp only [List.length_nil]; omega)]
  rfl
theorem planPut_at (on : Bool) (l : List (S32)) (a b : Int) (s : ByteArray) (hl : l.length ≤ 1000) : ∃ on2 r c, r.length ≤ l.length + 1 ∧ ∀ k, l.length + 20 ≤ k → spec_PlanPut.f k on l a b s = some (on2, r, c) := by
  cases hok : planOk l with
  | false =>
    refine ⟨false, [], 3, by simp, fun k hk => ?_⟩
    unfold spec_PlanPut.f
    rw [specPlanOk_at k on l (by omega) (by omega), hok]
    rfl
  | true =>
    by_cases hj : (0 ≤ a ∧ a ≤ 99999) ∧ (0 ≤ b ∧ b ≤ 99999) ∧ 1 ≤ (s.size : Int) ∧ (s.size : Int) ≤ 60
    · obtain ⟨h1, h2, h3⟩ := hj
      by_cases h4 : b ≤ a
      · refine ⟨on, l, 1, by omega, fun k hk => ?_⟩
        obtain ⟨k, rfl⟩ : ∃ m, k = m + 1 := ⟨k - 1, by omega⟩
        unfold spec_PlanPut.f
        rw [specPlanOk_at (k + 1) on l (by omega) (by omega), hok]
        simp only [Option.bind_some, if_true, copy_at on l (by omega), l1In_at, decide_eq_true h1, decide_eq_true h2, decide_eq_true h3, Bool.not_true, spec_PlanPut.j0, Bool.false_eq_true, if_false]
        rw [if_pos h4]
      · by_cases h5 : (l.length : Int) ≥ 6
        · refine ⟨on, l, 2, by omega, fun k hk => ?_⟩
          obtain ⟨k, rfl⟩ : ∃ m, k = m + 1 := ⟨k - 1, by omega⟩
          unfold spec_PlanPut.f
          rw [specPlanOk_at (k + 1) on l (by omega) (by omega), hok]
          simp only [Option.bind_some, if_true, copy_at on l (by omega), l1In_at, decide_eq_true h1, decide_eq_true h2, decide_eq_true h3, Bool.not_true, spec_PlanPut.j0, Bool.false_eq_true, if_false]
          rw [if_neg h4, if_pos h5]
        · obtain ⟨r, hr, hk2⟩ := l9Put_l0 on l b s (by omega) l.length 0 (by omega)
          refine ⟨on, r, 0, by omega, fun k hk => ?_⟩
          obtain ⟨k, rfl⟩ : ∃ m, k = m + 1 := ⟨k - 1, by omega⟩
          have hq : spec_l9Put.f k on l b s = some (on, r) := hk2 k (by omega)
          unfold spec_PlanPut.f
          rw [specPlanOk_at (k + 1) on l (by omega) (by omega), hok]
          simp only [Option.bind_some, if_true, copy_at on l (by omega), l1In_at, decide_eq_true h1, decide_eq_true h2, decide_eq_true h3, Bool.not_true, spec_PlanPut.j0, Bool.false_eq_true, if_false]
          rw [if_neg h4, if_neg h5, hq]
          rfl
    · refine ⟨on, l, 3, by omega, fun k hk => ?_⟩
      obtain ⟨k, rfl⟩ : ∃ m, k = m + 1 := ⟨k - 1, by omega⟩
      unfold spec_PlanPut.f
      rw [specPlanOk_at (k + 1) on l (by omega) (by omega), hok]
      simp only [Option.bind_some, if_true, copy_at on l (by omega), l1In_at]
      by_cases h1 : 0 ≤ a ∧ a ≤ 99999
      · rw [if_pos (decide_eq_true h1)]
        by_cases h2 : 0 ≤ b ∧ b ≤ 99999
        · rw [if_pos (decide_eq_true h2)]
          have h3 : ¬ (1 ≤ (s.size : Int) ∧ (s.size : Int) ≤ 60) := fun h3 => hj ⟨h1, h2, h3⟩
          rw [decide_eq_false h3]
          simp only [Bool.not_false, spec_PlanPut.j0, if_true]
        · rw [if_neg (by simpa using h2)]
          simp only [spec_PlanPut.j0, if_true]
      · rw [if_neg (by simpa using h1)]
        simp only [spec_PlanPut.j0, if_true]
theorem plan_l0 {xs : List Int} (h : Bytes xs) (d : Nat) : ∀ (p : Int) (on : Bool) (l : List (S32)), l.length + d ≤ 100 → 0 ≤ p → p + 14 * d ≤ 10000 →
    ∃ on2 r q, r.length ≤ l.length + d ∧ p ≤ q ∧ q ≤ p + 14 * d ∧ ∀ k, l.length + 2 * d + 40 ≤ k → spec_l15Plan.l0 k (d : Int) xs p on l = some (on2, r, q) := by
  induction d with
  | zero =>
    intro p on l hl hp0 hp1
    refine ⟨on, l, p, by omega, by omega, by omega, fun k hk => ?_⟩
    obtain ⟨k, rfl⟩ : ∃ m, k = m + 1 := ⟨k - 1, by omega⟩
    simp only [spec_l15Plan.l0]
    rw [if_neg (by omega)]
  | succ d ih =>
    intro p on l hl hp0 hp1
    obtain ⟨r1, a1, b1, c1⟩ := pick_at h p 30 hp0 (by omega) (by omega)
    obtain ⟨t, q, ht, q0, q1, ck⟩ := text_at h (p + 1) 4 (by omega) (by omega) (by decide)
    obtain ⟨on2, r, c, hr, hput⟩ := planPut_at on l 0 (wrap64 (1 + r1)) ((⟨#[99]⟩ : ByteArray) ++ t) (by omega)
    obtain ⟨on3, r3, q3, hr3, q30, q31, hk3⟩ := ih q on2 r (by omega) (by omega) (by omega)
    refine ⟨on3, r3, q3, by omega, by omega, by omega, fun k hk => ?_⟩
    obtain ⟨k, rfl⟩ : ∃ m, k = m + 1 := ⟨k - 1, by omega⟩
    have f1 : r.length + 2 * d + 40 ≤ k := by omega
    have f2 : l.length + 20 ≤ k := by omega
    have f3 : 1 + t.size ≤ 9223372036854775807 := by omega
    have f4 : 4 + 10 < k := by omega
    have e : wrap64 (((d + 1 : Nat) : Int) - 1) = (d : Int) := by rw [w64 (by omega) (by omega)]; omega
    simp only [spec_l15Plan.l0]
    rw [if_pos (by omega), e]
    exact bnd _ (c1 k (by omega)) (bnd _ (ck k f4) ((if_pos f3).trans (bnd _ (hput k f2) (hk3 k f1))))
theorem plan_at {xs : List Int} (h : Bytes xs) (p : Int) (hp0 : 0 ≤ p) (hp1 : p ≤ 1000) : ∃ on l q, l.length ≤ 7 ∧ p ≤ q ∧ q ≤ p + 100 ∧ ∀ k, 60 ≤ k → spec_l15Plan.f k xs p = some (on, l, q) := by
  obtain ⟨r1, a1, b1, c1⟩ := pick_at h p 3 hp0 (by omega) (by omega)
  obtain ⟨r2, a2, b2, c2⟩ := pick_at h (p + 1) 8 (by omega) (by omega) (by omega)
  obtain ⟨d, rfl⟩ := Int.eq_ofNat_of_zero_le a2
  obtain ⟨on, l, q, hl, q0, q1, hk2⟩ := plan_l0 h d (p + 1 + 1) (decide (r1 > 0)) [] (by simp only [List.length_nil]; omega) (by omega) (by omega)
  simp only [List.length_nil] at hl hk2
  refine ⟨on, l, q, by omega, by omega, by omega, fun k hk => ?_⟩
  unfold spec_l15Plan.f
  exact bnd _ (c1 k (by omega)) (bnd _ (c2 k (by omega)) (hk2 k (by omega)))
theorem anyPlan_at {xs : List Int} (h : Bytes xs) (p : Int) (hp0 : 0 ≤ p) (hp1 : p ≤ 1000) : ∃ on l q, l.length ≤ 8 ∧ p ≤ q ∧ q ≤ p + 101 ∧ ∀ k, 60 ≤ k → spec_l15AnyPlan.f k xs p = some (on, l, q) := by
  obtain ⟨on, l, q, hl, q0, q1, hk⟩ := plan_at h p hp0 hp1
  obtain ⟨r, a, b, c⟩ := pick_at h q 20 (by omega) (by omega) (by omega)
  have hc := copy_at on l (by omega)
  by_cases h0 : r = 0
  · refine ⟨on, l ++ [⟨0, (⟨#[120]⟩ : ByteArray)⟩], q + 1, ?_, ?_, ?_, fun k hkk => ?_⟩
    rotate_left 3
    · unfold spec_l15AnyPlan.f
      exact bnd _ (hk k hkk) (bnd _ hc (bnd _ (c k (by omega)) ((if_pos h0).trans (if_pos (show l.length < 5864062014805 by omega)))))
    · simp only [List.length_append, List.length_singleton]
      omega
    · show p ≤ q + 1
      omega
    · show q + 1 ≤ p + 101
      omega
  by_cases h1 : r = 1
  · refine ⟨on, l ++ [⟨100000, (⟨#[120]⟩ : ByteArray)⟩], q + 1, ?_, ?_, ?_, fun k hkk => ?_⟩
    rotate_left 3
    · unfold spec_l15AnyPlan.f
      exact bnd _ (hk k hkk) (bnd _ hc (bnd _ (c k (by omega)) ((if_neg h0).trans ((if_pos h1).trans (if_pos (show l.length < 5864062014805 by omega))))))
    · simp only [List.length_append, List.length_singleton]
      omega
    · show p ≤ q + 1
      omega
    · show q + 1 ≤ p + 101
      omega
  by_cases h2 : r = 2
  · refine ⟨on, l ++ [⟨99999, (⟨#[]⟩ : ByteArray)⟩], q + 1, ?_, ?_, ?_, fun k hkk => ?_⟩
    rotate_left 3
    · unfold spec_l15AnyPlan.f
      exact bnd _ (hk k hkk) (bnd _ hc (bnd _ (c k (by omega)) ((if_neg h0).trans ((if_neg h1).trans ((if_pos h2).trans (if_pos (show l.length < 5864062014805 by omega)))))))
    · simp only [List.length_append, List.length_singleton]
      omega
    · show p ≤ q + 1
      omega
    · show q + 1 ≤ p + 101
      omega
  · refine ⟨on, l, q + 1, by omega, by omega, by omega, fun k hkk => ?_⟩
    unfold spec_l15AnyPlan.f
    exact bnd _ (hk k hkk) (bnd _ hc (bnd _ (c k (by omega)) ((if_neg h0).trans ((if_neg h1).trans ((if_neg h2).trans rfl)))))
theorem skPlan_l0 (on on2 : Bool) (l : List (S32)) (hl : l.length ≤ 1000000) (d : Nat) : ∀ (k i : Nat), d < k → i + d = l.length → laws_skPlan.l0 k (i : Int) on l on2 l = some true := by
  induction d with
  | zero =>
    intro k i hk hi
    obtain ⟨k, rfl⟩ : ∃ m, k = m + 1 := ⟨k - 1, by omega⟩
    simp only [laws_skPlan.l0]
    rw [if_neg (by omega)]
  | succ d ih =>
    intro k i hk hi
    obtain ⟨k, rfl⟩ : ∃ m, k = m + 1 := ⟨k - 1, by omega⟩
    simp only [laws_skPlan.l0]
    rw [if_pos (by omega), if_pos (by omega), if_pos (by omega), beq_self_eq_true, beq_self_eq_true, if_neg (by decide), up (by omega)]
    exact ih k (i + 1) (by omega) (by omega)
theorem skPlan_at (k : Nat) (on : Bool) (l : List (S32)) (hk : l.length + 1 < k) (hl : l.length ≤ 1000000) : laws_skPlan.f k on l on l = some true := by
  obtain ⟨k, rfl⟩ : ∃ m, k = m + 1 := ⟨k - 1, by omega⟩
  unfold laws_skPlan.f
  rw [bne_self_eq_false, if_neg (by decide), bne_self_eq_false]
  simp only [laws_skPlan.j0, Bool.false_eq_true, if_false]
  exact skPlan_l0 on on l hl l.length k 0 (by omega) (by omega)
theorem drawDrop (l : List Int) (hl : l.length ≤ 140737488351232) (hw : ∀ x ∈ l, (Lit.int .u8 x).wf = true) : ∃ on its a b, its.length ≤ 8 ∧ ∀ k, 60 ≤ k → spec_DrawPlanDrop.f k l = some (on, its, a, b) := by
  obtain ⟨ho, hB⟩ := open_at l hl hw
  obtain ⟨r1, a1, b1, c1⟩ := pick_at hB 0 30 (by decide) (by decide) (by decide)
  obtain ⟨on, its, q, hi, q0, q1, hk⟩ := anyPlan_at hB (0 + 1) (by decide) (by decide)
  obtain ⟨r2, a2, b2, c2⟩ := pick_at hB q 20 (by omega) (by omega) (by decide)
  refine ⟨on, its, r1, wrap64 (wrap64 (r1 + r2) - 2), hi, fun k hkk => ?_⟩
  unfold spec_DrawPlanDrop.f
  exact bnd _ ho (bnd _ (c1 k (by omega)) (bnd _ (hk k hkk) (bnd _ (c2 k (by omega)) rfl)))
/-- Comparing what stays, one by one. -/
theorem each_l0 (a b : Int) (on on2 : Bool) (l : List (S32)) (hok : planOk l = true) (d : Nat) : ∀ (k i : Nat), 2 * d + 40 < k → i + d = l.length →
    laws_FnPlanDrop.l0 k a b (((l.take i).filter (stays a b)).length : Int) (i : Int) on l on2 (l.filter (stays a b)) = some true := by
  have h6 := planOk_length hok
  have hf := List.length_filter_le (stays a b) l
  induction d with
  | zero =>
    intro k i hk hi
    obtain ⟨k, rfl⟩ : ∃ m, k = m + 1 := ⟨k - 1, by omega⟩
    have hff : (l.filter (stays a b)).filter (stays a b) = l.filter (stays a b) := by simp [List.filter_filter]
    have hpf := planOk_filter l (stays a b) hok
    simp only [laws_FnPlanDrop.l0]
    rw [if_neg (by omega), List.take_of_length_le (by omega), if_pos rfl, implPlanOk_at k on2 _ (by omega) (by omega), hpf]
    simp only [Option.bind_some, if_true]
    rw [implPlanDrop_at k on2 _ a b (by omega) (by omega), planDrop, if_pos hpf, hff]
    simp only [Option.bind_some]
    rw [skPlan_at k on2 _ (by omega) (by omega)]
    rfl
  | succ d ih =>
    intro k i hk hi
    obtain ⟨k, rfl⟩ : ∃ m, k = m + 2 := ⟨k - 2, by omega⟩
    have hil : i < l.length := by omega
    have ht : (l.take (i + 1)).filter (stays a b) = (l.take i).filter (stays a b) ++ [l[i]].filter (stays a b) := by
      rw [List.take_succ_eq_append_getElem hil, List.filter_append]
    have hj : ∀ x64 : Bool, x64 = decide (a ≤ (l[i]).f0 ∧ (l[i]).f0 ≤ b) → laws_FnPlanDrop.j2 (k + 1) a b (((l.take i).filter (stays a b)).length : Int) (i : Int) x64 on l on2 (l.filter (stays a b)) = some true := by
      rintro _ rfl
      by_cases h : a ≤ (l[i]).f0 ∧ (l[i]).f0 ≤ b
      · have hs : stays a b l[i] = false := by simp only [stays, Bool.not_eq_false', decide_eq_true_eq]; exact h
        have hn : [l[i]].filter (stays a b) = [] := by rw [List.filter_cons_of_neg (by rw [hs]; decide)]; rfl
        simp only [laws_FnPlanDrop.j2, decide_eq_true h, if_true]
        have h2 := ih k (i + 1) (by omega) (by omega)
        rw [ht, hn, List.append_nil] at h2
        rw [up (by omega)]
        exact h2
      · have hs : stays a b l[i] = true := by simp only [stays, Bool.not_eq_true', decide_eq_false_iff_not]; exact h
        have hn : [l[i]].filter (stays a b) = [l[i]] := by rw [List.filter_cons_of_pos hs]; rfl
        have hdrop : (l.drop i).filter (stays a b) = l[i] :: (l.drop (i + 1)).filter (stays a b) := by
          rw [List.drop_eq_getElem_cons hil, List.filter_cons_of_pos hs]
        have hall : l.filter (stays a b) = (l.take i).filter (stays a b) ++ l[i] :: (l.drop (i + 1)).filter (stays a b) := by
          rw [← hdrop, ← List.filter_append, List.take_append_drop]
        have hlen : ((l.take i).filter (stays a b)).length < (l.filter (stays a b)).length := by
          rw [hall]
          simp only [List.length_append, List.length_cons]
          omega
        have hat : (l.filter (stays a b))[((l.take i).filter (stays a b)).length]'hlen = l[i] := by
          simp only [hall]
          rw [List.getElem_append_right (Nat.le_refl _)]
          simp
        simp only [laws_FnPlanDrop.j2, decide_eq_false h, Bool.false_eq_true, if_false]
        rw [if_neg (by omega), if_pos (by omega), if_pos (by omega), if_pos (by omega), if_pos (by omega), dropB_at _ _ hlen, hat, dropB_at _ _ hil, beq_self_eq_true, beq_self_eq_true, if_neg (by decide)]
        have h2 := ih k (i + 1) (by omega) (by omega)
        rw [ht, hn, List.length_append, List.length_singleton] at h2
        rw [up (i := i) (by omega), up (by omega)]
        exact h2
    simp only [laws_FnPlanDrop.l0]
    rw [if_pos (by omega), if_pos (by omega), dropB_at _ _ hil]
    by_cases h : (l[i]).f0 ≥ a
    · rw [if_pos h]
      exact hj _ (by rw [Bool.eq_iff_iff]; simp only [decide_eq_true_eq]; omega)
    · rw [if_neg h]
      exact hj _ (by symm; rw [decide_eq_false_iff_not]; omega)
end FnPlanDropL
open FnPlanDropL

theorem FnPlanDrop : laws_FnPlanDrop.Pure := by
  intro l hl _ hw
  unfold maxLen at hl
  by_cases hbig : (l.length : Int) > 1048576
  · exact ⟨0, if_pos hbig⟩
  obtain ⟨on, its, a, b, hi, hd⟩ := drawDrop l (by omega) hw
  refine ⟨201, ?_⟩
  have e0 := hd 201 (by omega)
  have e1 := implPlanDrop_at 201 on its a b (by omega) (by omega)
  have e2 := specPlanDrop_at 201 on its a b (by omega) (by omega)
  have hlen := planDrop_length on its a b
  have e3 := skPlan_at 201 (planDrop on its a b).1 (planDrop on its a b).2 (by omega) (by omega)
  have e4 := specPlanOk_at 201 on its (by omega) (by omega)
  unfold laws_FnPlanDrop.f
  rw [if_neg hbig]
  refine bnd _ e0 (bnd _ e1 (bnd _ e2 (bnd _ e3 ((if_pos rfl).trans (bnd _ e4 ?_)))))
  have e5 := specPlanDrop_at 200 on its a b (by omega) (by omega)
  have e6 := skPlan_at 200 (planDrop on its a b).1 (planDrop on its a b).2 (by omega) (by omega)
  cases hok : planOk its with
  | false =>
    simp only [laws_FnPlanDrop.j0, Bool.not_false, if_true]
    exact bnd _ e5 (bnd _ e6 rfl)
  | true =>
    have h0 := each_l0 a b on on its hok its.length 200 0 (by omega) (by omega)
    simp only [laws_FnPlanDrop.j0, Bool.not_true, Bool.false_eq_true, if_false, planDrop, hok, if_true]
    simpa using h0

end Go.Proofs.Ythiddhipphaacaa.Pure
