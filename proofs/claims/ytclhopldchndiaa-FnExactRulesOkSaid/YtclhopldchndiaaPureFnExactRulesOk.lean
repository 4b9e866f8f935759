/- FnExactRulesOk: the program's RulesOk and the reference's answer alike and leave what they are handed alone. No conditions. -/
import Derived.Test.YtclhopldchndiaaPFnExactRulesOkx2
import Derived.Test.YtclhopldchndiaaAux
namespace Go.Proofs.Ytclhopldchndiaa.Pure
open Go Go.RowKit Go.Proofs.Ytclhopldchndiaa.PFnExactRulesOk Go.Proofs.YtclhopldchndiaaW.PrintWords Go.Proofs.YtclhopldchndiaaW.PrintLast Go.Proofs.YtclhopldchndiaaW.PrintMore Go.Proofs.Ytclhopldchndiaa.Aux

namespace FnExactRulesOkL
theorem l1In_at (a b c : Int) : spec_l1In.f a b c = some (decide (b ≤ a ∧ a ≤ c)) := by
  unfold spec_l1In.f
  by_cases h : b ≤ a
  · rw [if_pos h]
    simp [h]
  · rw [if_neg h]
    simp [h]
theorem within_at (a c : Int) : impl_within.f a c = some (decide (0 ≤ a ∧ a ≤ c)) := by
  unfold impl_within.f
  by_cases h : 0 ≤ a
  · rw [if_pos h]
    simp [h]
  · rw [if_neg h]
    simp [h]
theorem up {i : Nat} (h : i < 9223372036854775807) : wrap64 ((i : Int) + 1) = ((i + 1 : Nat) : Int) := by
  rw [w64 (by omega) (by omega)]
  omega
theorem rdOf_at {α : Type} (d : α) (l : List α) (i : Nat) (h : i < l.length) : rdOf d l (i : Int) = l[i] := by
  unfold rdOf
  rw [Int.toNat_natCast, List.getD_eq_getElem?_getD, List.getElem?_eq_getElem h]
  rfl
/-- A list that is filled from its begin on. -/
theorem fill_take {α : Type} (l ys : List α) (i : Nat) (hi : i < l.length) (hl : ys.length = l.length) (h : ys.take i = l.take i) : (ys.set i l[i]).take (i + 1) = l.take (i + 1) := by
  have h1 : i < (ys.set i l[i]).length := by rw [List.length_set]; omega
  rw [List.take_succ_eq_append_getElem h1, List.take_succ_eq_append_getElem hi, List.getElem_set_self, List.take_set_of_le (Nat.le_refl _), h]
/-- A rule as the program has it. -/
def conv (x : S98) : S96 := ⟨x.f0, x.f1, x.f2, x.f3, x.f4, x.f5⟩
theorem rdA_at (l : List (S98)) (i : Nat) (h : i < l.length) : rd_T98 l (i : Int) = l[i] := by
  unfold rd_T98
  rw [Int.toNat_natCast, List.getD_eq_getElem?_getD, List.getElem?_eq_getElem h]
  rfl
theorem rdB_at (l : List (S96)) (i : Nat) (h : i < l.length) : rd_T96 l (i : Int) = l[i] := by
  unfold rd_T96
  rw [Int.toNat_natCast, List.getD_eq_getElem?_getD, List.getElem?_eq_getElem h]
  rfl
theorem szRuleS_at (l : List (S98)) (hl : l.length ≤ 9223372036854775807) : ∃ t, (0 ≤ t → l.length ≤ 1048576) ∧ laws_szRuleS.f l 1048576 = some t := by
  unfold laws_szRuleS.f
  by_cases h : (1048576 : Int) - (l.length : Int) < 0
  · exact ⟨-1, by omega, by rw [w64 (by omega) (by omega), if_pos h]⟩
  · exact ⟨1048576 - (l.length : Int), by omega, by rw [w64 (by omega) (by omega), if_neg h]⟩
theorem toRuleS_l0 (d : Nat) : ∀ (k i : Nat) (l : List (S98)) (ys : List (S96)), d < k → l.length ≤ 1048576 → i + d = l.length → ys.length = l.length → ys.take i = (l.map conv).take i →
    laws_toRuleS.l0 k l ys (i : Int) = some (l.map conv) := by
  induction d with
  | zero =>
    intro k i l ys hk hl hi hy ht
    obtain ⟨k, rfl⟩ : ∃ m, k = m + 1 := ⟨k - 1, by omega⟩
    simp only [laws_toRuleS.l0]
    rw [if_neg (by omega)]
    rw [List.take_of_length_le (by omega), List.take_of_length_le (by rw [List.length_map]; omega)] at ht
    rw [ht]
  | succ d ih =>
    intro k i l ys hk hl hi hy ht
    obtain ⟨k, rfl⟩ : ∃ m, k = m + 1 := ⟨k - 1, by omega⟩
    have hil : i < l.length := by omega
    have hc : (⟨l[i].f0, l[i].f1, l[i].f2, l[i].f3, l[i].f4, l[i].f5⟩ : S96) = (l.map conv)[i]'(by rw [List.length_map]; exact hil) := by rw [List.getElem_map]; rfl
    simp only [laws_toRuleS.l0, laws_toRule.f, Option.bind_some]
    rw [if_pos (by omega), if_pos (by omega), if_pos (by omega), rdA_at _ _ hil, Int.toNat_natCast, up (by omega), hc]
    exact ih k (i + 1) l _ (by omega) hl (by omega) (by rw [List.length_set, hy]) (fill_take (l.map conv) ys i (by rw [List.length_map]; exact hil) (by rw [List.length_map]; exact hy) ht)
theorem toRuleS_at (k : Nat) (l : List (S98)) (hk : l.length < k) (hl : l.length ≤ 1048576) : laws_toRuleS.f k l = some (l.map conv) := by
  unfold laws_toRuleS.f
  rw [if_pos (by omega), if_pos (by omega)]
  exact toRuleS_l0 l.length k 0 l _ hk hl (by omega) (by rw [List.length_replicate, Int.toNat_natCast]) rfl
theorem eqRuleS_l0 (d : Nat) : ∀ (k i : Nat) (l : List (S96)), d < k → l.length ≤ 9223372036854775807 → i + d = l.length → laws_eqRuleS.l0 k l l (i : Int) = some true := by
  induction d with
  | zero =>
    intro k i l hk hl hi
    obtain ⟨k, rfl⟩ : ∃ m, k = m + 1 := ⟨k - 1, by omega⟩
    simp only [laws_eqRuleS.l0]
    rw [if_neg (by omega)]
  | succ d ih =>
    intro k i l hk hl hi
    obtain ⟨k, rfl⟩ : ∃ m, k = m + 1 := ⟨k - 1, by omega⟩
    simp only [laws_eqRuleS.l0, laws_eqRule.f, bne_self_eq_false, Bool.false_eq_true, if_false, if_true, Option.bind_some]
    rw [if_pos (by omega), if_pos (by omega), if_pos (by omega), up (by omega)]
    exact ih k (i + 1) l (by omega) hl (by omega)
theorem eqRuleS_at (k : Nat) (l : List (S96)) (hk : l.length < k) (hl : l.length ≤ 9223372036854775807) : laws_eqRuleS.f k l l = some true := by
  unfold laws_eqRuleS.f
  rw [if_pos rfl]
  exact eqRuleS_l0 l.length k 0 l hk hl (by omega)
/-- Is a rule within limits? -/
def okr (r : S96) : Bool := decide (0 ≤ r.f0 ∧ r.f0 ≤ 255) && (decide (0 ≤ r.f1 ∧ r.f1 ≤ 2047) && (decide (0 ≤ r.f2 ∧ r.f2 ≤ 255) && decide (0 ≤ r.f3 ∧ r.f3 ≤ 255)))
/-- RulesOk's answer. -/
def rulesOk (l : List (S96)) : Bool := l.all okr && decide ((l.length : Int) ≤ 12)
theorem l8Ok_at (r : S96) : spec_l8Ok.f r.f0 r.f1 r.f2 r.f3 r.f4 r.f5 = some (okr r) := by
  simp only [spec_l8Ok.f, l1In_at, Option.bind_some, okr]
  generalize decide (0 ≤ r.f0 ∧ r.f0 ≤ 255) = b1
  generalize decide (0 ≤ r.f1 ∧ r.f1 ≤ 2047) = b2
  generalize decide (0 ≤ r.f2 ∧ r.f2 ≤ 255) = b3
  cases b1 <;> cases b2 <;> cases b3 <;> rfl
theorem specRulesOk_l0 (d : Nat) : ∀ (k i : Nat) (l : List (S96)), d < k → l.length ≤ 9223372036854775807 → i + d = l.length →
    spec_RulesOk.l0 k l (i : Int) = some ((l.drop i).all okr && decide ((l.length : Int) ≤ 12)) := by
  induction d with
  | zero =>
    intro k i l hk hl hi
    obtain ⟨k, rfl⟩ : ∃ m, k = m + 1 := ⟨k - 1, by omega⟩
    simp only [spec_RulesOk.l0]
    rw [if_neg (by omega), List.drop_eq_nil_of_le (by omega)]
    rfl
  | succ d ih =>
    intro k i l hk hl hi
    obtain ⟨k, rfl⟩ : ∃ m, k = m + 1 := ⟨k - 1, by omega⟩
    have hil : i < l.length := by omega
    simp only [spec_RulesOk.l0]
    rw [if_pos (by omega), if_pos (by omega), rdB_at _ _ hil, l8Ok_at, List.drop_eq_getElem_cons hil, List.all_cons]
    simp only [Option.bind_some]
    cases h : okr l[i] with
    | false => rfl
    | true =>
      rw [if_pos rfl, up (by omega), ih k (i + 1) l (by omega) hl (by omega), Bool.true_and]
theorem specRulesOk_at (k : Nat) (l : List (S96)) (hk : l.length < k) (hl : l.length ≤ 9223372036854775807) : spec_RulesOk.f k l = some (rulesOk l) := by
  unfold spec_RulesOk.f rulesOk
  exact specRulesOk_l0 l.length k 0 l hk hl (by omega)
theorem implRulesOk_step (k i : Nat) (l : List (S96)) (hl : l.length ≤ 9223372036854775807) (hil : i < l.length) :
    impl_RulesOk.l0 (k + 1) l (l.length : Int) (i : Int) = if okr l[i] = true then impl_RulesOk.l0 k l (l.length : Int) ((i + 1 : Nat) : Int) else some false := by
  simp only [impl_RulesOk.l0, within_at, Option.bind_some]
  rw [if_pos (by omega), if_pos (by omega), if_pos (by omega), rdB_at _ _ hil, up (by omega), okr]
  generalize decide (0 ≤ l[i].f0 ∧ l[i].f0 ≤ 255) = b1
  generalize decide (0 ≤ l[i].f1 ∧ l[i].f1 ≤ 2047) = b2
  generalize decide (0 ≤ l[i].f2 ∧ l[i].f2 ≤ 255) = b3
  generalize decide (0 ≤ l[i].f3 ∧ l[i].f3 ≤ 255) = b4
  cases b1 <;> cases b2 <;> cases b3 <;> cases b4 <;> simp
theorem implRulesOk_l0 (d : Nat) : ∀ (k i : Nat) (l : List (S96)), d < k → l.length ≤ 9223372036854775807 → i + d = l.length →
    impl_RulesOk.l0 k l (l.length : Int) (i : Int) = some ((l.drop i).all okr) := by
  induction d with
  | zero =>
    intro k i l hk hl hi
    obtain ⟨k, rfl⟩ : ∃ m, k = m + 1 := ⟨k - 1, by omega⟩
    simp only [impl_RulesOk.l0]
    rw [if_neg (by omega), List.drop_eq_nil_of_le (by omega)]
    rfl
  | succ d ih =>
    intro k i l hk hl hi
    obtain ⟨k, rfl⟩ : ∃ m, k = m + 1 := ⟨k - 1, by omega⟩
    have hil : i < l.length := by omega
    rw [implRulesOk_step k i l hl hil, List.drop_eq_getElem_cons hil, List.all_cons]
    cases h : okr l[i] with
    | false => rfl
    | true =>
      rw [if_pos rfl, ih k (i + 1) l (by omega) hl (by omega), Bool.true_and]
theorem implRulesOk_at (k : Nat) (l : List (S96)) (hk : l.length < k) (hl : l.length ≤ 9223372036854775807) : impl_RulesOk.f k l = some (rulesOk l) := by
  have h0 : impl_RulesOk.l0 k l (l.length : Int) 0 = some (l.all okr) := implRulesOk_l0 l.length k 0 l hk hl (by omega)
  unfold impl_RulesOk.f rulesOk
  by_cases h : (l.length : Int) > 12
  · rw [if_pos h, decide_eq_false (by omega), Bool.and_false]
  · rw [if_neg h, h0, decide_eq_true (by omega), Bool.and_true]
end FnExactRulesOkL
open FnExactRulesOkL

theorem FnExactRulesOk (l : List (S98)) (hl : l.length ≤ 9223372036854775807) (_ : ∀ a ∈ l, True) : ∃ k, laws_FnExactRulesOk.f k l = some true := by
  obtain ⟨t, hlen, hsz⟩ := szRuleS_at l hl
  refine ⟨l.length + 20, ?_⟩
  generalize hk : l.length + 20 = k
  unfold laws_FnExactRulesOk.f
  rw [hsz]
  simp only [Option.bind_some]
  by_cases h0 : t < 0
  · rw [if_pos h0]
  rw [if_neg h0]
  have hl' := hlen (by omega)
  have hm : (l.map conv).length = l.length := List.length_map _
  have e1 := toRuleS_at k l (by omega) hl'
  have e2 := specRulesOk_at k (l.map conv) (by omega) (by omega)
  have e3 := implRulesOk_at k (l.map conv) (by omega) (by omega)
  have e5 := eqRuleS_at k (l.map conv) (by omega) (by omega)
  simp only [e1, e2, e3, e5, Option.bind_some, if_true, bne_self_eq_false, Bool.false_eq_true, if_false]

end Go.Proofs.Ytclhopldchndiaa.Pure
