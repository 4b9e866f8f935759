/- FnExactRulesLess: the program's RulesLess and the reference's answer alike; what is answered is memory of its own. No conditions. -/
import Derived.Test.YtnadkhgdeofheaaPFnExactRulesLessx4
import Derived.Test.YtnadkhgdeofheaaHRules
import Derived.Test.YtnadkhgdeofheaaAux
namespace Go.Proofs.Ytnadkhgdeofheaa.Pure
open Go Go.RowKit Go.Proofs.Ytnadkhgdeofheaa Go.Proofs.Ytnadkhgdeofheaa.PFnExactRulesLess Go.Proofs.YtnadkhgdeofheaaW.PrintWords Go.Proofs.YtnadkhgdeofheaaW.PrintLast Go.Proofs.YtnadkhgdeofheaaW.PrintMore Go.Proofs.Ytnadkhgdeofheaa.Aux

namespace FnExactRulesLessL
theorem l1In_at (a b c : Int) : spec_l1In.f a b c = some (decide (b ≤ a ∧ a ≤ c)) := by
  unfold spec_l1In.f
  by_cases h : b ≤ a
  · rw [if_pos h]
    simp [h]
  · rw [if_neg h]
    simp [h]
theorem within_at (a c : Int) : impl_within.f a c = some (decide (0 ≤ a ∧ a ≤ c)) := by
  unfold impl_within.f
  by_cases h : 0 ≤ a
  · rw [if_pos h]
    simp [h]
  · rw [if_neg h]
    simp [h]
theorem up {i : Nat} (h : i < 9223372036854775807) : wrap64 ((i : Int) + 1) = ((i + 1 : Nat) : Int) := by
  rw [w64 (by omega) (by omega)]
  omega
theorem rdOf_at {α : Type} (d : α) (l : List α) (i : Nat) (h : i < l.length) : rdOf d l (i : Int) = l[i] := by
  unfold rdOf
  rw [Int.toNat_natCast, List.getD_eq_getElem?_getD, List.getElem?_eq_getElem h]
  rfl
/-- A list that is filled from its begin on. -/
theorem fill_take {α : Type} (l ys : List α) (i : Nat) (hi : i < l.length) (hl : ys.length = l.length) (h : ys.take i = l.take i) : (ys.set i l[i]).take (i + 1) = l.take (i + 1) := by
  have h1 : i < (ys.set i l[i]).length := by rw [List.length_set]; omega
  rw [List.take_succ_eq_append_getElem h1, List.take_succ_eq_append_getElem hi, List.getElem_set_self, List.take_set_of_le (Nat.le_refl _), h]
/-- A rule as the program has it. -/
def conv (x : S62) : S31 := ⟨x.f0, x.f1, x.f2, x.f3, x.f4, x.f5⟩
theorem rdA_at (l : List (S62)) (i : Nat) (h : i < l.length) : rd_T62 l (i : Int) = l[i] := by
  unfold rd_T62
  rw [Int.toNat_natCast, List.getD_eq_getElem?_getD, List.getElem?_eq_getElem h]
  rfl
theorem rdB_at (l : List (S31)) (i : Nat) (h : i < l.length) : rd_T31 l (i : Int) = l[i] := by
  unfold rd_T31
  rw [Int.toNat_natCast, List.getD_eq_getElem?_getD, List.getElem?_eq_getElem h]
  rfl
theorem szRuleS_at (l : List (S62)) (hl : l.length ≤ 9223372036854775807) : ∃ t, (0 ≤ t → l.length ≤ 1048576) ∧ laws_szRuleS.f l 1048576 = some t := by
  unfold laws_szRuleS.f
  by_cases h : (1048576 : Int) - (l.length : Int) < 0
  · exact ⟨-1, by omega, by rw [w64 (by omega) (by omega), if_pos h]⟩
  · exact ⟨1048576 - (l.length : Int), by omega, by rw [w64 (by omega) (by omega), if_neg h]⟩
theorem toRuleS_l0 (d : Nat) : ∀ (k i : Nat) (l : List (S62)) (ys : List (S31)), d < k → l.length ≤ 1048576 → i + d = l.length → ys.length = l.length → ys.take i = (l.map conv).take i →
    laws_toRuleS.l0 k l ys (i : Int) = some (l.map conv) := by
  induction d with
  | zero =>
    intro k i l ys hk hl hi hy ht
    obtain ⟨k, rfl⟩ : ∃ m, k = m + 1 := ⟨k - 1, by omega⟩
    simp only [laws_toRuleS.l0]
    rw [if_neg (by omega)]
    rw [List.take_of_length_le (by omega), List.take_of_length_le (by rw [List.length_map]; omega)] at ht
    rw [ht]
  | succ d ih =>
    intro k i l ys hk hl hi hy ht
    obtain ⟨k, rfl⟩ : ∃ m, k = m + 1 := ⟨k - 1, by omega⟩
    have hil : i < l.length := by omega
    have hc : (⟨l[i].f0, l[i].f1, l[i].f2, l[i].f3, l[i].f4, l[i].f5⟩ : S31) = (l.map conv)[i]'(by rw [List.length_map]; exact hil) := by rw [List.getElem_map]; rfl
    simp only [laws_toRuleS.l0, laws_toRule.f, Option.bind_some]
    rw [if_pos (by omega), if_pos (by omega), if_pos (by omega), rdA_at _ _ hil, Int.toNat_natCast, up (by omega), hc]
    exact ih k (i + 1) l _ (by omega) hl (by omega) (by rw [List.length_set, hy]) (fill_take (l.map conv) ys i (by rw [List.length_map]; exact hil) (by rw [List.length_map]; exact hy) ht)
theorem toRuleS_at (k : Nat) (l : List (S62)) (hk : l.length < k) (hl : l.length ≤ 1048576) : laws_toRuleS.f k l = some (l.map conv) := by
  unfold laws_toRuleS.f
  rw [if_pos (by omega), if_pos (by omega)]
  exact toRuleS_l0 l.length k 0 l _ hk hl (by omega) (by rw [List.length_replicate, Int.toNat_natCast]) rfl
theorem eqRuleS_l0 (d : Nat) : ∀ (k i : Nat) (l : List (S31)), d < k → l.length ≤ 9223372036854775807 → i + d = l.length → laws_eqRuleS.l0 k l l (i : Int) = some true := by
  induction d with
  | zero =>
    intro k i l hk hl hi
    obtain ⟨k, rfl⟩ : ∃ m, k = m + 1 := ⟨k - 1, by omega⟩
    simp only [laws_eqRuleS.l0]
    rw [if_neg (by omega)]
  | succ d ih =>
    intro k i l hk hl hi
    obtain ⟨k, rfl⟩ : ∃ m, k = m + 1 := ⟨k - 1, by omega⟩
    simp only [laws_eqRuleS.l0, laws_eqRule.f, bne_self_eq_false, Bool.false_eq_true, if_false, if_true, Option.bind_some]
    rw [if_pos (by omega), if_pos (by omega), if_pos (by omega), up (by omega)]
    exact ih k (i + 1) l (by omega) hl (by omega)
theorem eqRuleS_at (k : Nat) (l : List (S31)) (hk : l.length < k) (hl : l.length ≤ 9223372036854775807) : laws_eqRuleS.f k l l = some true := by
  unfold laws_eqRuleS.f
  rw [if_pos rfl]
  exact eqRuleS_l0 l.length k 0 l hk hl (by omega)
/-- Is a rule within limits? -/
def okr (r : S31) : Bool := decide (0 ≤ r.f0 ∧ r.f0 ≤ 255) && (decide (0 ≤ r.f1 ∧ r.f1 ≤ 2047) && (decide (0 ≤ r.f2 ∧ r.f2 ≤ 255) && decide (0 ≤ r.f3 ∧ r.f3 ≤ 255)))
/-- RulesOk's answer. -/
def rulesOk (l : List (S31)) : Bool := l.all okr && decide ((l.length : Int) ≤ 12)
theorem l8Ok_at (r : S31) : spec_l8Ok.f r.f0 r.f1 r.f2 r.f3 r.f4 r.f5 = some (okr r) := by
  simp only [spec_l8Ok.f, l1In_at, Option.bind_some, okr]
  generalize decide (0 ≤ r.f0 ∧ r.f0 ≤ 255) = b1
  generalize decide (0 ≤ r.f1 ∧ r.f1 ≤ 2047) = b2
  generalize decide (0 ≤ r.f2 ∧ r.f2 ≤ 255) = b3
  cases b1 <;> cases b2 <;> cases b3 <;> rfl
theorem specRulesOk_l0 (d : Nat) : ∀ (k i : Nat) (l : List (S31)), d < k → l.length ≤ 9223372036854775807 → i + d = l.length →
    spec_RulesOk.l0 k l (i : Int) = some ((l.drop i).all okr && decide ((l.length : Int) ≤ 12)) := by
  induction d with
  | zero =>
    intro k i l hk hl hi
    obtain ⟨k, rfl⟩ : ∃ m, k = m + 1 := ⟨k - 1, by omega⟩
    simp only [spec_RulesOk.l0]
    rw [if_neg (by omega), List.drop_eq_nil_of_le (by omega)]
    rfl
  | succ d ih =>
    intro k i l hk hl hi
    obtain ⟨k, rfl⟩ : ∃ m, k = m + 1 := ⟨k - 1, by omega⟩
    have hil : i < l.length := by omega
    simp only [spec_RulesOk.l0]
    rw [if_pos (by omega), if_pos (by omega), rdB_at _ _ hil, l8Ok_at, List.drop_eq_getElem_cons hil, List.all_cons]
    simp only [Option.bind_some]
    cases h : okr l[i] with
    | false => rfl
    | true =>
      rw [if_pos rfl, up (by omega), ih k (i + 1) l (by omega) hl (by omega), Bool.true_and]
theorem specRulesOk_at (k : Nat) (l : List (S31)) (hk : l.length < k) (hl : l.length ≤ 9223372036854775807) : spec_RulesOk.f k l = some (rulesOk l) := by
  unfold spec_RulesOk.f rulesOk
  exact specRulesOk_l0 l.length k 0 l hk hl (by omega)
theorem implRulesOk_step (k i : Nat) (l : List (S31)) (hl : l.length ≤ 9223372036854775807) (hil : i < l.length) :
    impl_RulesOk.l0 (k + 1) l (l.length : Int) (i : Int) = if okr l[i] = true then impl_RulesOk.l0 k l (l.length : Int) ((i + 1 : Nat) : Int) else some false := by
  simp only [impl_RulesOk.l0, within_at, Option.bind_some]
  rw [if_pos (by omega), if_pos (by omega), if_pos (by omega), rdB_at _ _ hil, up (by omega), okr]
  generalize decide (0 ≤ l[i].f0 ∧ l[i].f0 ≤ 255) = b1
  generalize decide (0 ≤ l[i].f1 ∧ l[i].f1 ≤ 2047) = b2
  generalize decide (0 ≤ l[i].f2 ∧ l[i].f2 ≤ 255) = b3
  generalize decide (0 ≤ l[i].f3 ∧ l[i].f3 ≤ 255) = b4
  cases b1 <;> cases b2 <;> cases b3 <;> cases b4 <;> simp
theorem implRulesOk_l0 (d : Nat) : ∀ (k i : Nat) (l : List (S31)), d < k → l.length ≤ 9223372036854775807 → i + d = l.length →
    impl_RulesOk.l0 k l (l.length : Int) (i : Int) = some ((l.drop i).all okr) := by
  induction d with
  | zero =>
    intro k i l hk hl hi
    obtain ⟨k, rfl⟩ : ∃ m, k = m + 1 := ⟨k - 1, by omega⟩
    simp only [impl_RulesOk.l0]
    rw [if_neg (by omega), List.drop_eq_nil_of_le (by omega)]
    rfl
  | succ d ih =>
    intro k i l hk hl hi
    obtain ⟨k, rfl⟩ : ∃ m, k = m + 1 := ⟨k - 1, by omega⟩
    have hil : i < l.length := by omega
    rw [implRulesOk_step k i l hl hil, List.drop_eq_getElem_cons hil, List.all_cons]
    cases h : okr l[i] with
    | false => rfl
    | true =>
      rw [if_pos rfl, ih k (i + 1) l (by omega) hl (by omega), Bool.true_and]
theorem implRulesOk_at (k : Nat) (l : List (S31)) (hk : l.length < k) (hl : l.length ≤ 9223372036854775807) : impl_RulesOk.f k l = some (rulesOk l) := by
  have h0 : impl_RulesOk.l0 k l (l.length : Int) 0 = some (l.all okr) := implRulesOk_l0 l.length k 0 l hk hl (by omega)
  unfold impl_RulesOk.f rulesOk
  by_cases h : (l.length : Int) > 12
  · rw [if_pos h, decide_eq_false (by omega), Bool.and_false]
  · rw [if_neg h, h0, decide_eq_true (by omega), Bool.and_true]
/-- The list that both answer. -/
def less (l : List (S31)) : List (S31) := if rulesOk l = true then (HBook.bookL (l.map impl_RulesLess.to)).map impl_RulesLess.of else []
theorem byte_wf {n : Int} (h0 : 0 ≤ n) (h1 : n ≤ 2047) : (Lit.int .i64 n).wf = true := by
  simp [Lit.wf, IntKind.min, IntKind.max, IntKind.bits, IntKind.signed]
  omega
theorem rulesOk_true {l : List (S31)} (h : rulesOk l = true) : l.length ≤ 12 ∧ ∀ r ∈ l, (0 ≤ r.f0 ∧ r.f0 ≤ 255) ∧ (0 ≤ r.f1 ∧ r.f1 ≤ 2047) ∧ (0 ≤ r.f2 ∧ r.f2 ≤ 255) ∧ (0 ≤ r.f3 ∧ r.f3 ≤ 255) := by
  unfold rulesOk at h
  rw [Bool.and_eq_true] at h
  refine ⟨by have := of_decide_eq_true h.2; omega, fun r hr => ?_⟩
  have := List.all_eq_true.1 h.1 r hr
  simpa [okr, Bool.and_eq_true, decide_eq_true_eq] using this
theorem ruleWf_of {r : S31} (h : (0 ≤ r.f0 ∧ r.f0 ≤ 255) ∧ (0 ≤ r.f1 ∧ r.f1 ≤ 2047) ∧ (0 ≤ r.f2 ∧ r.f2 ≤ 255) ∧ (0 ≤ r.f3 ∧ r.f3 ≤ 255)) : HBook.RuleWf ⟨r.f0, r.f1, r.f2, r.f3, r.f4, r.f5⟩ :=
  ⟨byte_wf h.1.1 (by show r.f0 ≤ 2047; omega), byte_wf h.2.1.1 h.2.1.2, byte_wf h.2.2.1.1 (by show r.f2 ≤ 2047; omega), byte_wf h.2.2.2.1 (by show r.f3 ≤ 2047; omega)⟩
theorem wf_all {l : List (S31)} (h : rulesOk l = true) : ∀ y ∈ l.map impl_RulesLess.to, HBook.RuleWf y := by
  intro y hy
  obtain ⟨r, hr, rfl⟩ := List.mem_map.1 hy
  exact ruleWf_of ((rulesOk_true h).2 r hr)
theorem implLess_at (k : Nat) (l : List (S31)) (hk : l.length < k) (hl : l.length ≤ 9223372036854775807) : impl_RulesLess.f k l = some (less l) := by
  unfold impl_RulesLess.f less
  rw [implRulesOk_at k l hk hl]
  simp only [Option.bind_some]
  cases h : rulesOk l with
  | false => rw [if_neg (by decide), if_neg (by decide)]
  | true => rw [if_pos rfl, if_pos rfl, if_pos ⟨by have := (rulesOk_true h).1; omega, wf_all h⟩]
theorem less_length (l : List (S31)) : (less l).length ≤ 12 := by
  unfold less
  split
  · rename_i h
    rw [List.length_map]
    have h1 := (HBook.good_book _ (wf_all h)).1
    rw [List.length_map] at h1
    have := (rulesOk_true h).1
    omega
  · simp
theorem rdLess_set (l : List (S31)) (i : Nat) (e : S31) (h : i < l.length) : rd_T31 (l.set i e) (i : Int) = e := by
  unfold rd_T31
  rw [Int.toNat_natCast, List.getD_eq_getElem?_getD, List.getElem?_set_self h]
  rfl
theorem addL_miss {xs : List HBook.Rl} {x : HBook.Rl} (h : ∀ y ∈ xs, HBook.key y ≠ HBook.key x) : HBook.addL xs x = xs ++ [x] := by
  rcases HBook.addL_cases xs x with ⟨_, e⟩ | ⟨i, y, hy, hk, _⟩
  · exact e
  · exact absurd hk (h y (List.mem_of_getElem? hy))
theorem addL_hit {xs : List HBook.Rl} {x : HBook.Rl} {j : Nat} (hj : j < xs.length) (he : HBook.key xs[j] = HBook.key x) (h : ∀ y ∈ xs.take j, HBook.key y ≠ HBook.key x) : HBook.addL xs x = xs.set j (HBook.merge xs[j] x) := by
  have hf : (xs.map HBook.key).findIdx? (fun k => decide (k = HBook.key x)) = some j := by
    rw [List.findIdx?_eq_some_iff_getElem]
    refine ⟨by rw [List.length_map]; exact hj, ?_, fun i hi => ?_⟩
    · rw [List.getElem_map]
      exact decide_eq_true he
    · rw [List.getElem_map]
      have hm : xs[i]'(by omega) ∈ xs.take j := by
        rw [List.mem_take_iff_getElem]
        exact ⟨i, by omega, rfl⟩
      have := h _ hm
      simp [this]
  unfold HBook.addL
  rw [hf]
  dsimp only
  rw [List.getD_eq_getElem?_getD, List.getElem?_eq_getElem hj]
  rfl
/-- Looking for a rule's key, and joining it to the list. -/
theorem search_at (K : Nat) (l : List (S31)) (xs : List HBook.Rl) (x : HBook.Rl) (i : Nat) (r : List (S31)) (hx : xs.length ≤ 1000)
    (hn : ∀ k, K ≤ k → spec_RulesLess.l0 k l ((HBook.addL xs x).map impl_RulesLess.of) ((i + 1 : Nat) : Int) = some r) (hi : i < 9223372036854775807) (d : Nat) :
    ∀ (j k : Nat), j + d = xs.length → (∀ y ∈ xs.take j, HBook.key y ≠ HBook.key x) → K + d < k →
      spec_RulesLess.l1 k l (xs.map impl_RulesLess.of) (i : Int) (j : Int) x.f0 x.f1 x.f2 x.f3 x.f4 x.f5 = some r := by
  have hlen : (xs.map impl_RulesLess.of).length = xs.length := List.length_map _
  induction d with
  | zero =>
    intro j k hj hno hk
    obtain ⟨k, rfl⟩ : ∃ m, k = m + 1 := ⟨k - 1, by omega⟩
    rw [List.take_of_length_le (by omega)] at hno
    have h := hn k (by omega)
    rw [addL_miss hno, List.map_append] at h
    simp only [spec_RulesLess.l1]
    rw [if_neg (by omega), if_pos (by omega), if_pos (by omega), up hi]
    exact h
  | succ d ih =>
    intro j k hj hno hk
    obtain ⟨k, rfl⟩ : ∃ m, k = m + 1 := ⟨k - 1, by omega⟩
    have hjl : j < xs.length := by omega
    have hg : rd_T31 (xs.map impl_RulesLess.of) (j : Int) = impl_RulesLess.of xs[j] := by
      rw [rdB_at _ _ (by omega), List.getElem_map]
    by_cases he : HBook.key xs[j] = HBook.key x
    · have h := hn k (by omega)
      rw [addL_hit hjl he hno, List.map_set] at h
      have he' := he
      simp only [HBook.key, Prod.mk.injEq] at he'
      obtain ⟨h0, h1, h2, h3⟩ : (impl_RulesLess.of xs[j]).f0 = x.f0 ∧ (impl_RulesLess.of xs[j]).f1 = x.f1 ∧ (impl_RulesLess.of xs[j]).f2 = x.f2 ∧ (impl_RulesLess.of xs[j]).f3 = x.f3 := he'
      have hm : impl_RulesLess.of (HBook.merge xs[j] x) = ⟨(impl_RulesLess.of xs[j]).f0, (impl_RulesLess.of xs[j]).f1, (impl_RulesLess.of xs[j]).f2, (impl_RulesLess.of xs[j]).f3, (impl_RulesLess.of xs[j]).f4 || x.f4, (impl_RulesLess.of xs[j]).f5 || x.f5⟩ := rfl
      have hjm : j < (xs.map impl_RulesLess.of).length := by omega
      rw [hm] at h
      clear hm he
      generalize impl_RulesLess.of xs[j] = o at h h0 h1 h2 h3 hg
      generalize xs.map impl_RulesLess.of = L at h hg hjm hlen ⊢
      simp only [spec_RulesLess.l1]
      rw [if_pos (by omega), if_pos (by omega), hg, if_pos h0, if_pos h1, if_pos h2, if_pos h3, if_neg (by omega), up hi]
      simp only [Int.toNat_natCast, Option.bind_some, rdLess_set _ _ _ hjm, List.set_set]
      cases h4 : o.f4 <;> cases h5 : o.f5 <;> simp only [h4, h5, Bool.false_eq_true, if_true, if_false, Bool.true_or, Bool.false_or] at h ⊢ <;> exact h
    · have hno' : ∀ y ∈ xs.take (j + 1), HBook.key y ≠ HBook.key x := by
        intro y hy
        rw [List.take_succ_eq_append_getElem hjl] at hy
        rcases List.mem_append.1 hy with hy | hy
        · exact hno y hy
        · rw [List.mem_singleton.1 hy]
          exact he
      have h := ih (j + 1) k (by omega) hno' (by omega)
      simp only [spec_RulesLess.l1]
      rw [if_pos (by omega), if_pos (by omega), hg, up (show j < 9223372036854775807 by omega)]
      have he2 : ¬ ((impl_RulesLess.of xs[j]).f0 = x.f0 ∧ (impl_RulesLess.of xs[j]).f1 = x.f1 ∧ (impl_RulesLess.of xs[j]).f2 = x.f2 ∧ (impl_RulesLess.of xs[j]).f3 = x.f3) := fun h => he (by simp only [HBook.key, Prod.mk.injEq]; exact h)
      generalize impl_RulesLess.of xs[j] = o at he2 hg ⊢
      by_cases h0 : o.f0 = x.f0
      · by_cases h1 : o.f1 = x.f1
        · by_cases h2 : o.f2 = x.f2
          · by_cases h3 : o.f3 = x.f3
            · exact absurd ⟨h0, h1, h2, h3⟩ he2
            · rw [if_pos h0, if_pos h1, if_pos h2, if_neg h3]
              exact h
          · rw [if_pos h0, if_pos h1, if_neg h2]
            exact h
        · rw [if_pos h0, if_neg h1]
          exact h
      · rw [if_neg h0]
        exact h
theorem specLess_l0 (l : List (S31)) (hok : rulesOk l = true) (d : Nat) : ∀ (i k : Nat), i + d = l.length → 20 * d < k →
    spec_RulesLess.l0 k l ((HBook.bookL ((l.take i).map impl_RulesLess.to)).map impl_RulesLess.of) (i : Int) = some ((HBook.bookL (l.map impl_RulesLess.to)).map impl_RulesLess.of) := by
  have h12 := (rulesOk_true hok).1
  induction d with
  | zero =>
    intro i k hi hk
    obtain ⟨k, rfl⟩ : ∃ m, k = m + 1 := ⟨k - 1, by omega⟩
    simp only [spec_RulesLess.l0]
    rw [if_neg (by omega), List.take_of_length_le (by omega)]
  | succ d ih =>
    intro i k hi hk
    obtain ⟨k, rfl⟩ : ∃ m, k = m + 2 := ⟨k - 2, by omega⟩
    have hil : i < l.length := by omega
    have hw : ∀ y ∈ (l.take i).map impl_RulesLess.to, HBook.RuleWf y := by
      intro y hy
      obtain ⟨r, hr, rfl⟩ := List.mem_map.1 hy
      exact ruleWf_of ((rulesOk_true hok).2 r (List.mem_of_mem_take hr))
    have hb := (HBook.good_book _ hw).1
    rw [List.length_map, List.length_take] at hb
    have ht : HBook.bookL ((l.take (i + 1)).map impl_RulesLess.to) = if (l[i].f4 || l[i].f5) = true then HBook.addL (HBook.bookL ((l.take i).map impl_RulesLess.to)) (impl_RulesLess.to l[i]) else HBook.bookL ((l.take i).map impl_RulesLess.to) := by
      rw [List.take_succ_eq_append_getElem hil, List.map_append, List.map_cons, List.map_nil, HBook.bookL_snoc]
      rfl
    simp only [spec_RulesLess.l0, rdB_at l i hil]
    rw [if_pos (by omega), if_pos (by omega)]
    by_cases hsay : (l[i].f4 || l[i].f5) = true
    · rw [if_pos hsay] at ht
      have hgo : spec_RulesLess.j1 (k + 1) l ((HBook.bookL ((l.take i).map impl_RulesLess.to)).map impl_RulesLess.of) (i : Int) false l[i].f0 l[i].f1 l[i].f2 l[i].f3 l[i].f4 l[i].f5 = some ((HBook.bookL (l.map impl_RulesLess.to)).map impl_RulesLess.of) := by
        simp only [spec_RulesLess.j1, Bool.false_eq_true, if_false]
        refine search_at (20 * d + 1) l _ (impl_RulesLess.to l[i]) i _ (by omega) ?_ (by omega) (HBook.bookL ((l.take i).map impl_RulesLess.to)).length 0 k (by omega) (fun y hy => absurd hy (by simp)) (by omega)
        intro k2 hk2
        rw [← ht]
        exact ih (i + 1) k2 (by omega) (by omega)
      cases h4 : l[i].f4 with
      | true =>
        rw [if_pos rfl]
        rw [h4] at hgo
        exact hgo
      | false =>
        rw [if_neg (by decide)]
        rw [h4, Bool.false_or] at hsay
        rw [h4] at hgo
        rw [hsay] at hgo ⊢
        exact hgo
    · rw [if_neg hsay] at ht
      have h4 : l[i].f4 = false := by
        cases h : l[i].f4
        · rfl
        · rw [h, Bool.true_or] at hsay
          exact absurd rfl hsay
      have h5 : l[i].f5 = false := by
        cases h : l[i].f5
        · rfl
        · rw [h, Bool.or_true] at hsay
          exact absurd rfl hsay
      rw [h4, h5, if_neg (by decide)]
      simp only [spec_RulesLess.j1, Bool.not_false, if_true]
      rw [up (by omega), ← ht]
      exact ih (i + 1) k (by omega) (by omega)
theorem specLess_at (k : Nat) (l : List (S31)) (hk : l.length + 300 < k) (hl : l.length ≤ 9223372036854775807) : spec_RulesLess.f k l = some (less l) := by
  unfold spec_RulesLess.f less
  simp only [Option.bind_some]
  rw [specRulesOk_at k l (by omega) hl]
  simp only [Option.bind_some]
  cases h : rulesOk l with
  | false => rw [if_neg (by decide), if_neg (by decide)]
  | true =>
    rw [if_pos rfl, if_pos rfl]
    have h12 := (rulesOk_true h).1
    exact specLess_l0 l h l.length 0 k (by omega) (by omega)
/-- The marked rule that a number stands for. -/
def mkF (c : Int) : S31 := ⟨c, c + 1, c + 2, c + 3, (Int.tmod (c + 4) 3 == 0), (Int.tmod (c + 5) 3 == 0)⟩
theorem rdT_set (l : List (S31)) (i : Nat) (e : S31) (h : i < l.length) : rd_T31 (l.set i e) (i : Int) = e := by
  unfold rd_T31
  rw [Int.toNat_natCast, List.getD_eq_getElem?_getD, List.getElem?_set_self h]
  rfl
theorem rdT_at (l : List (S31)) (i : Nat) (h : i < l.length) : rd_T31 l (i : Int) = l[i] := by
  unfold rd_T31
  rw [Int.toNat_natCast, List.getD_eq_getElem?_getD, List.getElem?_eq_getElem h]
  rfl
theorem six (c : Int) (h0 : 0 ≤ c) (h1 : c ≤ 100000000) : wrap64 (c + 1) = c + 1 ∧ wrap64 (c + 1 + 1) = c + 2 ∧ wrap64 (c + 2 + 1) = c + 3 ∧ wrap64 (c + 3 + 1) = c + 4 ∧ wrap64 (c + 4 + 1) = c + 5 ∧ wrap64 (c + 5 + 1) = c + 6 := by
  refine ⟨?_, ?_, ?_, ?_, ?_, ?_⟩ <;> (rw [w64 (by omega) (by omega)]; try omega)
theorem markRuleS_step (k i : Nat) (l : List (S31)) (c : Int) (hi : i < l.length) (hl : l.length ≤ 1048577) (h0 : 0 ≤ c) (h1 : c ≤ 100000000) (_ : c.toNat + 10 ≤ k) :
    laws_markRuleS.l0 (k + 1) l c (i : Int) = laws_markRuleS.l0 k (l.set i (mkF c)) (c + 6) ((i + 1 : Nat) : Int) := by
  obtain ⟨s1, s2, s3, s4, s5, s6⟩ := six c h0 h1
  simp only [laws_markRuleS.l0]
  rw [if_pos (by omega), if_pos (by omega)]
  simp only [s1, s2, s3, s4, s5, s6, Int.toNat_natCast, Option.bind_some, rdT_set _ _ _ hi, List.set_set]
  simp only [up (show i < 9223372036854775807 by omega)]
  rfl
theorem heldRuleS_step (k i : Nat) (l : List (S31)) (c : Int) (hi : i < l.length) (hl : l.length ≤ 1048577) (h0 : 0 ≤ c) (h1 : c ≤ 100000000) (_ : c.toNat + 10 ≤ k) (he : l[i] = mkF c) :
    laws_heldRuleS.l0 (k + 1) l c (i : Int) = laws_heldRuleS.l0 k l (c + 6) ((i + 1 : Nat) : Int) := by
  obtain ⟨s1, s2, s3, s4, s5, s6⟩ := six c h0 h1
  simp only [laws_heldRuleS.l0]
  rw [if_pos (by omega), if_pos (by omega), rdT_at l i hi, he]
  simp only [s1, s2, s3, s4, s5, s6, mkF, bne_self_eq_false, Bool.false_eq_true, if_false, if_true]
  simp only [up (show i < 9223372036854775807 by omega)]
/-- Marked rules, one behind the other. -/
def mkFs : Nat → Int → List (S31)
  | 0, _ => []
  | d + 1, c => mkF c :: mkFs d (c + 6)
theorem mkFs_length (d : Nat) : ∀ c, (mkFs d c).length = d := by
  induction d with
  | zero => intro c; rfl
  | succ d ih => intro c; simp [mkFs, ih]
theorem markRuleS_l0 (d : Nat) : ∀ (k i : Nat) (l : List (S31)) (c : Int), c.toNat + 7 * d + 20 ≤ k → l.length ≤ 1048577 → i + d = l.length → 0 ≤ c → c ≤ 100000000 - 6 * d →
    laws_markRuleS.l0 k l c (i : Int) = some (c + 6 * d, l.take i ++ mkFs d c) := by
  induction d with
  | zero =>
    intro k i l c hk hl hi h0 h1
    obtain ⟨k, rfl⟩ : ∃ m, k = m + 1 := ⟨k - 1, by omega⟩
    simp only [laws_markRuleS.l0]
    rw [if_neg (by omega), List.take_of_length_le (by omega)]
    simp [mkFs]
  | succ d ih =>
    intro k i l c hk hl hi h0 h1
    obtain ⟨k, rfl⟩ : ∃ m, k = m + 1 := ⟨k - 1, by omega⟩
    have hil : i < l.length := by omega
    rw [markRuleS_step k i l c hil hl h0 (by omega) (by omega)]
    rw [ih k (i + 1) _ (c + 6) (by omega) (by rw [List.length_set]; exact hl) (by rw [List.length_set]; omega) (by omega) (by omega)]
    have h2 : (l.set i (mkF c)).take (i + 1) = l.take i ++ [mkF c] := by
      rw [List.take_succ_eq_append_getElem (by rw [List.length_set]; exact hil), List.getElem_set_self, List.take_set_of_le (Nat.le_refl _)]
    rw [h2, mkFs, List.append_assoc]
    congr 2
    omega
theorem heldRuleS_l0 (d : Nat) : ∀ (k i : Nat) (l : List (S31)) (c : Int), c.toNat + 7 * d + 20 ≤ k → l.length ≤ 1048577 → i + d = l.length → 0 ≤ c → c ≤ 100000000 - 6 * d → l.drop i = mkFs d c →
    laws_heldRuleS.l0 k l c (i : Int) = some (c + 6 * d) := by
  induction d with
  | zero =>
    intro k i l c hk hl hi h0 h1 he
    obtain ⟨k, rfl⟩ : ∃ m, k = m + 1 := ⟨k - 1, by omega⟩
    simp only [laws_heldRuleS.l0]
    rw [if_neg (by omega)]
    simp
  | succ d ih =>
    intro k i l c hk hl hi h0 h1 he
    obtain ⟨k, rfl⟩ : ∃ m, k = m + 1 := ⟨k - 1, by omega⟩
    have hil : i < l.length := by omega
    rw [List.drop_eq_getElem_cons hil, mkFs, List.cons.injEq] at he
    rw [heldRuleS_step k i l c hil hl h0 (by omega) (by omega) he.1]
    rw [ih k (i + 1) l (c + 6) (by omega) hl (by omega) (by omega) (by omega) he.2]
    congr 1
    omega
/-- What is marked is held. -/
theorem markHeld (l : List (S31)) (hl : l.length ≤ 1048577) : ∃ g, g.length = l.length ∧ ∀ k, 7 * l.length + 30 ≤ k → laws_markRuleS.f k l 1 = some (1 + 6 * (l.length : Int), g) ∧ laws_heldRuleS.f k g 1 = some (1 + 6 * (l.length : Int)) := by
  refine ⟨mkFs l.length 1, mkFs_length _ _, fun k hk => ⟨?_, ?_⟩⟩
  · unfold laws_markRuleS.f
    have h := markRuleS_l0 l.length k 0 l 1 (by omega) hl (by omega) (by omega) (by omega)
    simpa using h
  · unfold laws_heldRuleS.f
    have h := heldRuleS_l0 l.length k 0 (mkFs l.length 1) 1 (by omega) (by rw [mkFs_length]; exact hl) (by rw [mkFs_length]; omega) (by omega) (by omega) rfl
    simpa using h
end FnExactRulesLessL
open FnExactRulesLessL

theorem FnExactRulesLess (l : List (S62)) (hl : l.length ≤ 9223372036854775807) (_ : ∀ a ∈ l, True) : ∃ k, laws_FnExactRulesLess.f k l = some true := by
  obtain ⟨t, hlen, hsz⟩ := szRuleS_at l hl
  refine ⟨100 * l.length + 1000 + 1, ?_⟩
  generalize hk : 100 * l.length + 1000 = k
  unfold laws_FnExactRulesLess.f
  rw [hsz]
  simp only [Option.bind_some]
  by_cases h0 : t < 0
  · rw [if_pos h0]
  rw [if_neg h0]
  have hl' := hlen (by omega)
  have hm : (l.map conv).length = l.length := List.length_map _
  have hfl := less_length (l.map conv)
  obtain ⟨g, hgl, hmh⟩ := markHeld (less (l.map conv)) (by omega)
  obtain ⟨g2, _, hmh2⟩ := markHeld (l.map conv) (by omega)
  have e1 := toRuleS_at (k + 1) l (by omega) hl'
  have e1' := toRuleS_at k l (by omega) hl'
  have e2 := specLess_at (k + 1) (l.map conv) (by omega) (by omega)
  have e3 := implLess_at (k + 1) (l.map conv) (by omega) (by omega)
  have e3' := implLess_at k (l.map conv) (by omega) (by omega)
  have e4 := eqRuleS_at (k + 1) (less (l.map conv)) (by omega) (by omega)
  have e4' := eqRuleS_at k (less (l.map conv)) (by omega) (by omega)
  have e5 := eqRuleS_at (k + 1) (l.map conv) (by omega) (by omega)
  have e6 := hmh k (by omega)
  have e7 := (hmh2 (k + 1) (by omega)).1
  simp only [e1, e2, e3, e4, e5, e7, Option.bind_some, if_true]
  rw [if_neg (by omega)]
  simp only [laws_FnExactRulesLess.j0, Bool.not_true, Bool.false_eq_true, e1', e3', e4', e6.1, e6.2, Option.bind_some, if_true, if_false]
  rw [if_neg (by omega), if_neg (by omega)]

end Go.Proofs.Ytnadkhgdeofheaa.Pure
