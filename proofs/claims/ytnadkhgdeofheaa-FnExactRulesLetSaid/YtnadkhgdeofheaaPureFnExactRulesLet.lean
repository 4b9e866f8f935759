/- FnExactRulesLet: the program's RulesLet and the reference's answer alike and leave what they are handed alone. No conditions but that the numbers are ints. -/
import Derived.Test.YtnadkhgdeofheaaPFnExactRulesLetx4
import Derived.Test.YtnadkhgdeofheaaHRules
import Derived.Test.YtnadkhgdeofheaaAux
namespace Go.Proofs.Ytnadkhgdeofheaa.Pure
open Go Go.RowKit Go.Proofs.Ytnadkhgdeofheaa Go.Proofs.Ytnadkhgdeofheaa.PFnExactRulesLet Go.Proofs.YtnadkhgdeofheaaW.PrintWords Go.Proofs.YtnadkhgdeofheaaW.PrintLast Go.Proofs.YtnadkhgdeofheaaW.PrintMore Go.Proofs.Ytnadkhgdeofheaa.Aux

namespace FnExactRulesLetL
theorem l1In_at (a b c : Int) : spec_l1In.f a b c = some (decide (b ≤ a ∧ a ≤ c)) := by
  unfold spec_l1In.f
  by_cases h : b ≤ a
  · rw [if_pos h]
    simp [h]
  · rw [if_neg h]
    simp [h]
theorem within_at (a c : Int) : impl_within.f a c = some (decide (0 ≤ a ∧ a ≤ c)) := by
  unfold impl_within.f
  by_cases h : 0 ≤ a
  · rw [if_pos h]
    simp [h]
  · rw [if_neg h]
    simp [h]
theorem up {i : Nat} (h : i < 9223372036854775807) : wrap64 ((i : Int) + 1) = ((i + 1 : Nat) : Int) := by
  rw [w64 (by omega) (by omega)]
  omega
theorem rdOf_at {α : Type} (d : α) (l : List α) (i : Nat) (h : i < l.length) : rdOf d l (i : Int) = l[i] := by
  unfold rdOf
  rw [Int.toNat_natCast, List.getD_eq_getElem?_getD, List.getElem?_eq_getElem h]
  rfl
/-- A list that is filled from its begin on. -/
theorem fill_take {α : Type} (l ys : List α) (i : Nat) (hi : i < l.length) (hl : ys.length = l.length) (h : ys.take i = l.take i) : (ys.set i l[i]).take (i + 1) = l.take (i + 1) := by
  have h1 : i < (ys.set i l[i]).length := by rw [List.length_set]; omega
  rw [List.take_succ_eq_append_getElem h1, List.take_succ_eq_append_getElem hi, List.getElem_set_self, List.take_set_of_le (Nat.le_refl _), h]
/-- A rule as the program has it. -/
def conv (x : S62) : S31 := ⟨x.f0, x.f1, x.f2, x.f3, x.f4, x.f5⟩
theorem rdA_at (l : List (S62)) (i : Nat) (h : i < l.length) : rd_T62 l (i : Int) = l[i] := by
  unfold rd_T62
  rw [Int.toNat_natCast, List.getD_eq_getElem?_getD, List.getElem?_eq_getElem h]
  rfl
theorem rdB_at (l : List (S31)) (i : Nat) (h : i < l.length) : rd_T31 l (i : Int) = l[i] := by
  unfold rd_T31
  rw [Int.toNat_natCast, List.getD_eq_getElem?_getD, List.getElem?_eq_getElem h]
  rfl
theorem szRuleS_at (l : List (S62)) (hl : l.length ≤ 9223372036854775807) : ∃ t, (0 ≤ t → l.length ≤ 1048576) ∧ laws_szRuleS.f l 1048576 = some t := by
  unfold laws_szRuleS.f
  by_cases h : (1048576 : Int) - (l.length : Int) < 0
  · exact ⟨-1, by omega, by rw [w64 (by omega) (by omega), if_pos h]⟩
  · exact ⟨1048576 - (l.length : Int), by omega, by rw [w64 (by omega) (by omega), if_neg h]⟩
theorem toRuleS_l0 (d : Nat) : ∀ (k i : Nat) (l : List (S62)) (ys : List (S31)), d < k → l.length ≤ 1048576 → i + d = l.length → ys.length = l.length → ys.take i = (l.map conv).take i →
    laws_toRuleS.l0 k l ys (i : Int) = some (l.map conv) := by
  induction d with
  | zero =>
    intro k i l ys hk hl hi hy ht
    obtain ⟨k, rfl⟩ : ∃ m, k = m + 1 := ⟨k - 1, by omega⟩
    simp only [laws_toRuleS.l0]
    rw [if_neg (by omega)]
    rw [List.take_of_length_le (by omega), List.take_of_length_le (by rw [List.length_map]; omega)] at ht
    rw [ht]
  | succ d ih =>
    intro k i l ys hk hl hi hy ht
    obtain ⟨k, rfl⟩ : ∃ m, k = m + 1 := ⟨k - 1, by omega⟩
    have hil : i < l.length := by omega
    have hc : (⟨l[i].f0, l[i].f1, l[i].f2, l[i].f3, l[i].f4, l[i].f5⟩ : S31) = (l.map conv)[i]'(by rw [List.length_map]; exact hil) := by rw [List.getElem_map]; rfl
    simp only [laws_toRuleS.l0, laws_toRule.f, Option.bind_some]
    rw [if_pos (by omega), if_pos (by omega), if_pos (by omega), rdA_at _ _ hil, Int.toNat_natCast, up (by omega), hc]
    exact ih k (i + 1) l _ (by omega) hl (by omega) (by rw [List.length_set, hy]) (fill_take (l.map conv) ys i (by rw [List.length_map]; exact hil) (by rw [List.length_map]; exact hy) ht)
theorem toRuleS_at (k : Nat) (l : List (S62)) (hk : l.length < k) (hl : l.length ≤ 1048576) : laws_toRuleS.f k l = some (l.map conv) := by
  unfold laws_toRuleS.f
  rw [if_pos (by omega), if_pos (by omega)]
  exact toRuleS_l0 l.length k 0 l _ hk hl (by omega) (by rw [List.length_replicate, Int.toNat_natCast]) rfl
theorem eqRuleS_l0 (d : Nat) : ∀ (k i : Nat) (l : List (S31)), d < k → l.length ≤ 9223372036854775807 → i + d = l.length → laws_eqRuleS.l0 k l l (i : Int) = some true := by
  induction d with
  | zero =>
    intro k i l hk hl hi
    obtain ⟨k, rfl⟩ : ∃ m, k = m + 1 := ⟨k - 1, by omega⟩
    simp only [laws_eqRuleS.l0]
    rw [if_neg (by omega)]
  | succ d ih =>
    intro k i l hk hl hi
    obtain ⟨k, rfl⟩ : ∃ m, k = m + 1 := ⟨k - 1, by omega⟩
    simp only [laws_eqRuleS.l0, laws_eqRule.f, bne_self_eq_false, Bool.false_eq_true, if_false, if_true, Option.bind_some]
    rw [if_pos (by omega), if_pos (by omega), if_pos (by omega), up (by omega)]
    exact ih k (i + 1) l (by omega) hl (by omega)
theorem eqRuleS_at (k : Nat) (l : List (S31)) (hk : l.length < k) (hl : l.length ≤ 9223372036854775807) : laws_eqRuleS.f k l l = some true := by
  unfold laws_eqRuleS.f
  rw [if_pos rfl]
  exact eqRuleS_l0 l.length k 0 l hk hl (by omega)
/-- Is a rule within limits? -/
def okr (r : S31) : Bool := decide (0 ≤ r.f0 ∧ r.f0 ≤ 255) && (decide (0 ≤ r.f1 ∧ r.f1 ≤ 2047) && (decide (0 ≤ r.f2 ∧ r.f2 ≤ 255) && decide (0 ≤ r.f3 ∧ r.f3 ≤ 255)))
/-- RulesOk's answer. -/
def rulesOk (l : List (S31)) : Bool := l.all okr && decide ((l.length : Int) ≤ 12)
theorem l8Ok_at (r : S31) : spec_l8Ok.f r.f0 r.f1 r.f2 r.f3 r.f4 r.f5 = some (okr r) := by
  simp only [spec_l8Ok.f, l1In_at, Option.bind_some, okr]
  generalize decide (0 ≤ r.f0 ∧ r.f0 ≤ 255) = b1
  generalize decide (0 ≤ r.f1 ∧ r.f1 ≤ 2047) = b2
  generalize decide (0 ≤ r.f2 ∧ r.f2 ≤ 255) = b3
  cases b1 <;> cases b2 <;> cases b3 <;> rfl
theorem specRulesOk_l0 (d : Nat) : ∀ (k i : Nat) (l : List (S31)), d < k → l.length ≤ 9223372036854775807 → i + d = l.length →
    spec_RulesOk.l0 k l (i : Int) = some ((l.drop i).all okr && decide ((l.length : Int) ≤ 12)) := by
  induction d with
  | zero =>
    intro k i l hk hl hi
    obtain ⟨k, rfl⟩ : ∃ m, k = m + 1 := ⟨k - 1, by omega⟩
    simp only [spec_RulesOk.l0]
    rw [if_neg (by omega), List.drop_eq_nil_of_le (by omega)]
    rfl
  | succ d ih =>
    intro k i l hk hl hi
    obtain ⟨k, rfl⟩ : ∃ m, k = m + 1 := ⟨k - 1, by omega⟩
    have hil : i < l.length := by omega
    simp only [spec_RulesOk.l0]
    rw [if_pos (by omega), if_pos (by omega), rdB_at _ _ hil, l8Ok_at, List.drop_eq_getElem_cons hil, List.all_cons]
    simp only [Option.bind_some]
    cases h : okr l[i] with
    | false => rfl
    | true =>
      rw [if_pos rfl, up (by omega), ih k (i + 1) l (by omega) hl (by omega), Bool.true_and]
theorem specRulesOk_at (k : Nat) (l : List (S31)) (hk : l.length < k) (hl : l.length ≤ 9223372036854775807) : spec_RulesOk.f k l = some (rulesOk l) := by
  unfold spec_RulesOk.f rulesOk
  exact specRulesOk_l0 l.length k 0 l hk hl (by omega)
theorem implRulesOk_step (k i : Nat) (l : List (S31)) (hl : l.length ≤ 9223372036854775807) (hil : i < l.length) :
    impl_RulesOk.l0 (k + 1) l (l.length : Int) (i : Int) = if okr l[i] = true then impl_RulesOk.l0 k l (l.length : Int) ((i + 1 : Nat) : Int) else some false := by
  simp only [impl_RulesOk.l0, within_at, Option.bind_some]
  rw [if_pos (by omega), if_pos (by omega), if_pos (by omega), rdB_at _ _ hil, up (by omega), okr]
  generalize decide (0 ≤ l[i].f0 ∧ l[i].f0 ≤ 255) = b1
  generalize decide (0 ≤ l[i].f1 ∧ l[i].f1 ≤ 2047) = b2
  generalize decide (0 ≤ l[i].f2 ∧ l[i].f2 ≤ 255) = b3
  generalize decide (0 ≤ l[i].f3 ∧ l[i].f3 ≤ 255) = b4
  cases b1 <;> cases b2 <;> cases b3 <;> cases b4 <;> simp
theorem implRulesOk_l0 (d : Nat) : ∀ (k i : Nat) (l : List (S31)), d < k → l.length ≤ 9223372036854775807 → i + d = l.length →
    impl_RulesOk.l0 k l (l.length : Int) (i : Int) = some ((l.drop i).all okr) := by
  induction d with
  | zero =>
    intro k i l hk hl hi
    obtain ⟨k, rfl⟩ : ∃ m, k = m + 1 := ⟨k - 1, by omega⟩
    simp only [impl_RulesOk.l0]
    rw [if_neg (by omega), List.drop_eq_nil_of_le (by omega)]
    rfl
  | succ d ih =>
    intro k i l hk hl hi
    obtain ⟨k, rfl⟩ : ∃ m, k = m + 1 := ⟨k - 1, by omega⟩
    have hil : i < l.length := by omega
    rw [implRulesOk_step k i l hl hil, List.drop_eq_getElem_cons hil, List.all_cons]
    cases h : okr l[i] with
    | false => rfl
    | true =>
      rw [if_pos rfl, ih k (i + 1) l (by omega) hl (by omega), Bool.true_and]
theorem implRulesOk_at (k : Nat) (l : List (S31)) (hk : l.length < k) (hl : l.length ≤ 9223372036854775807) : impl_RulesOk.f k l = some (rulesOk l) := by
  have h0 : impl_RulesOk.l0 k l (l.length : Int) 0 = some (l.all okr) := implRulesOk_l0 l.length k 0 l hk hl (by omega)
  unfold impl_RulesOk.f rulesOk
  by_cases h : (l.length : Int) > 12
  · rw [if_pos h, decide_eq_false (by omega), Bool.and_false]
  · rw [if_neg h, h0, decide_eq_true (by omega), Bool.and_true]
/-- What the reference asks of a rule. -/
def hitS (mode : Int) (k : HMap.K4) (r : S31) : Bool := HRules.hit mode k (impl_RulesLet.to r)
theorem l8Of_at (r : S31) (c0 c1 c2 c3 c4 : Int) (s : ByteArray) : spec_l8Of.f r.f0 r.f1 r.f2 r.f3 r.f4 r.f5 c0 c1 c2 c3 c4 s = some (decide (HBook.key (impl_RulesLet.to r) = (c2, c0, c3, c4))) := by
  unfold spec_l8Of.f HBook.key impl_RulesLet.to
  simp only [Prod.mk.injEq]
  by_cases h0 : r.f0 = c2
  · by_cases h1 : r.f1 = c0
    · by_cases h2 : r.f2 = c3
      · by_cases h3 : r.f3 = c4
        · rw [if_pos h0, if_pos h1, if_pos h2, decide_eq_true ⟨h0, h1, h2, h3⟩, h3, beq_self_eq_true]
        · rw [if_pos h0, if_pos h1, if_pos h2, decide_eq_false (fun h => h3 h.2.2.2), beq_eq_false_iff_ne.2 h3]
      · rw [if_pos h0, if_pos h1, if_neg h2, decide_eq_false (fun h => h2 h.2.2.1)]
    · rw [if_pos h0, if_neg h1, decide_eq_false (fun h => h1 h.2.1)]
  · rw [if_neg h0, decide_eq_false (fun h => h0 h.1)]
theorem specLet_l0 (d : Nat) : ∀ (k i : Nat) (l : List (S31)) (mode c0 c1 c2 c3 c4 : Int) (s : ByteArray), d < k → l.length ≤ 9223372036854775807 → i + d = l.length →
    spec_l8Let.l0 k l mode (i : Int) c0 c1 c2 c3 c4 s = some ((l.drop i).any (hitS mode (c2, c0, c3, c4))) := by
  induction d with
  | zero =>
    intro k i l mode c0 c1 c2 c3 c4 s hk hl hi
    obtain ⟨k, rfl⟩ : ∃ m, k = m + 1 := ⟨k - 1, by omega⟩
    simp only [spec_l8Let.l0]
    rw [if_neg (by omega), List.drop_eq_nil_of_le (by omega)]
    rfl
  | succ d ih =>
    intro k i l mode c0 c1 c2 c3 c4 s hk hl hi
    obtain ⟨k, rfl⟩ : ∃ m, k = m + 1 := ⟨k - 1, by omega⟩
    have hil : i < l.length := by omega
    simp only [spec_l8Let.l0]
    rw [if_pos (by omega), if_pos (by omega), rdB_at _ _ hil, l8Of_at, up (by omega), ih k (i + 1) l mode c0 c1 c2 c3 c4 s (by omega) hl (by omega), List.drop_eq_getElem_cons hil, List.any_cons]
    generalize (List.drop (i + 1) l).any _ = R
    by_cases hd : HBook.key (impl_RulesLet.to l[i]) = (c2, c0, c3, c4)
    · have e : hitS mode (c2, c0, c3, c4) l[i] = HRules.lets mode (impl_RulesLet.to l[i]) := by
        unfold hitS HRules.hit
        rw [decide_eq_true hd, Bool.true_and]
      rw [decide_eq_true hd, e]
      simp only [Option.bind_some, HRules.lets, impl_RulesLet.to, if_true]
      generalize l[i].f4 = b4
      generalize l[i].f5 = b5
      by_cases h0 : mode = 0
      · have h1 : ¬ mode = 1 := by omega
        simp only [if_pos h0, if_neg h1]
        cases b4 <;> cases b5 <;> cases R <;> rfl
      · by_cases h1 : mode = 1
        · simp only [if_neg h0, if_pos h1]
          cases b4 <;> cases b5 <;> cases R <;> rfl
        · simp only [if_neg h0, if_neg h1]
          cases b4 <;> cases b5 <;> cases R <;> rfl
    · have e : hitS mode (c2, c0, c3, c4) l[i] = false := by
        unfold hitS HRules.hit
        rw [decide_eq_false hd, Bool.false_and]
      rw [decide_eq_false hd, e]
      simp only [Option.bind_some, Bool.false_eq_true, if_false, Bool.false_or]
/-- What both answer. -/
def rulesLet (l : List (S31)) (mode : Int) (k : HMap.K4) : Bool := rulesOk l && l.any (hitS mode k)
theorem specLet_at (k : Nat) (l : List (S31)) (mode c0 c1 c2 c3 c4 : Int) (s : ByteArray) (hk : l.length < k) (hl : l.length ≤ 9223372036854775807) : spec_RulesLet.f k l mode c0 c1 c2 c3 c4 s = some (rulesLet l mode (c2, c0, c3, c4)) := by
  have h0 : spec_l8Let.f k l mode c0 c1 c2 c3 c4 s = some (l.any (hitS mode (c2, c0, c3, c4))) := specLet_l0 l.length k 0 l mode c0 c1 c2 c3 c4 s hk hl (by omega)
  unfold spec_RulesLet.f rulesLet
  rw [specRulesOk_at k l hk hl]
  simp only [Option.bind_some, h0]
  cases rulesOk l <;> rfl
theorem byte_wf {n : Int} (h0 : 0 ≤ n) (h1 : n ≤ 2047) : (Lit.int .i64 n).wf = true := by
  simp [Lit.wf, IntKind.min, IntKind.max, IntKind.bits, IntKind.signed]
  omega
theorem rulesOk_true {l : List (S31)} (h : rulesOk l = true) : l.length ≤ 12 ∧ ∀ r ∈ l, (0 ≤ r.f0 ∧ r.f0 ≤ 255) ∧ (0 ≤ r.f1 ∧ r.f1 ≤ 2047) ∧ (0 ≤ r.f2 ∧ r.f2 ≤ 255) ∧ (0 ≤ r.f3 ∧ r.f3 ≤ 255) := by
  unfold rulesOk at h
  rw [Bool.and_eq_true] at h
  refine ⟨by have := of_decide_eq_true h.2; omega, fun r hr => ?_⟩
  have := List.all_eq_true.1 h.1 r hr
  simpa [okr, Bool.and_eq_true, decide_eq_true_eq] using this
theorem ruleWf_of {r : S31} (h : (0 ≤ r.f0 ∧ r.f0 ≤ 255) ∧ (0 ≤ r.f1 ∧ r.f1 ≤ 2047) ∧ (0 ≤ r.f2 ∧ r.f2 ≤ 255) ∧ (0 ≤ r.f3 ∧ r.f3 ≤ 255)) : HBook.RuleWf ⟨r.f0, r.f1, r.f2, r.f3, r.f4, r.f5⟩ :=
  ⟨byte_wf h.1.1 (by show r.f0 ≤ 2047; omega), byte_wf h.2.1.1 h.2.1.2, byte_wf h.2.2.1.1 (by show r.f2 ≤ 2047; omega), byte_wf h.2.2.2.1 (by show r.f3 ≤ 2047; omega)⟩
theorem any_to (l : List (S31)) (mode : Int) (k : HMap.K4) : (l.map impl_RulesLet.to).any (HRules.hit mode k) = l.any (hitS mode k) := by
  rw [List.any_map]
  rfl
theorem implLet_at (k : Nat) (l : List (S31)) (mode c0 c1 c2 c3 c4 : Int) (s : ByteArray) (hk : l.length < k) (hl : l.length ≤ 9223372036854775807) (hw : HMap.KeyWf (c2, c0, c3, c4)) : impl_RulesLet.f k l mode c0 c1 c2 c3 c4 s = some (rulesLet l mode (c2, c0, c3, c4)) := by
  unfold impl_RulesLet.f rulesLet
  rw [implRulesOk_at k l hk hl]
  simp only [Option.bind_some]
  cases h : rulesOk l with
  | false => rw [if_neg (by decide), Bool.false_and]
  | true =>
    obtain ⟨h1, h2⟩ := rulesOk_true h
    have hwf : ∀ y ∈ l.map impl_RulesLet.to, HBook.RuleWf y := by
      intro y hy
      obtain ⟨r, hr, rfl⟩ := List.mem_map.1 hy
      exact ruleWf_of (h2 r hr)
    rw [if_pos rfl, if_pos ⟨by omega, hwf, hw⟩, HRules.let_book mode _ _ hwf, any_to, Bool.true_and]
end FnExactRulesLetL
open FnExactRulesLetL

theorem FnExactRulesLet (l : List (S62)) (mode c0 c1 c2 c3 c4 : Int) (s : ByteArray) (hl : l.length ≤ 9223372036854775807) (_ : ∀ a ∈ l, True) (_ : (Lit.int .i64 mode).wf = true) (w0 : (Lit.int .i64 c0).wf = true) (_ : (Lit.int .i64 c1).wf = true) (w2 : (Lit.int .i64 c2).wf = true) (w3 : (Lit.int .i64 c3).wf = true) (w4 : (Lit.int .i64 c4).wf = true) (_ : s.size ≤ 9223372036854775807) : ∃ k, laws_FnExactRulesLet.f k l mode c0 c1 c2 c3 c4 s = some true := by
  obtain ⟨t, hlen, hsz⟩ := szRuleS_at l hl
  refine ⟨l.length + 20, ?_⟩
  generalize hk : l.length + 20 = k
  unfold laws_FnExactRulesLet.f
  rw [hsz]
  simp only [Option.bind_some]
  by_cases h0 : t < 0
  · rw [if_pos h0]
  rw [if_neg h0]
  have hl' := hlen (by omega)
  obtain ⟨t2, ht2⟩ : ∃ t2, laws_szCmd.f c0 c1 c2 c3 c4 s t = some t2 := by
    unfold laws_szCmd.f
    split
    · exact ⟨_, rfl⟩
    · exact ⟨_, rfl⟩
  rw [ht2]
  simp only [Option.bind_some]
  by_cases h1 : t2 < 0
  · rw [if_pos h1]
  rw [if_neg h1]
  have hm : (l.map conv).length = l.length := List.length_map _
  have e1 := toRuleS_at k l (by omega) hl'
  have e2 := specLet_at k (l.map conv) mode c0 c1 c2 c3 c4 s (by omega) (by omega)
  have e3 := implLet_at k (l.map conv) mode c0 c1 c2 c3 c4 s (by omega) (by omega) ⟨w2, w0, w3, w4⟩
  have e5 := eqRuleS_at k (l.map conv) (by omega) (by omega)
  simp only [e1, e2, e3, e5, laws_toCmd.f, Option.bind_some, if_true, bne_self_eq_false, Bool.false_eq_true, if_false]

end Go.Proofs.Ytnadkhgdeofheaa.Pure
