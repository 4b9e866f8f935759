/- FnRulesLess: of drawn rules those that are left are the reference's, each of a key of its own and saying something; less again is as long, and it lets the same. For all bytes; no condition. -/
import Derived.Test.YtnadkhgdeofheaaPFnRulesLessx6
import Derived.Test.YtnadkhgdeofheaaHRules
import Derived.Test.YtnadkhgdeofheaaAux
namespace Go.Proofs.Ytnadkhgdeofheaa.Pure
open Go Go.RowKit Go.Proofs.Ytnadkhgdeofheaa Go.Proofs.Ytnadkhgdeofheaa.PFnRulesLess Go.Proofs.YtnadkhgdeofheaaW.PrintWords Go.Proofs.YtnadkhgdeofheaaW.PrintLast Go.Proofs.YtnadkhgdeofheaaW.PrintMore Go.Proofs.Ytnadkhgdeofheaa.Aux

namespace FnRulesLessL
theorem l1In_at (a b c : Int) : spec_l1In.f a b c = some (decide (b ≤ a ∧ a ≤ c)) := by
  unfold spec_l1In.f
  by_cases h : b ≤ a
  · rw [if_pos h]
    simp [h]
  · rw [if_neg h]
    simp [h]
theorem within_at (a c : Int) : impl_within.f a c = some (decide (0 ≤ a ∧ a ≤ c)) := by
  unfold impl_within.f
  by_cases h : 0 ≤ a
  · rw [if_pos h]
    simp [h]
  · rw [if_neg h]
    simp [h]
theorem up {i : Nat} (h : i < 9223372036854775807) : wrap64 ((i : Int) + 1) = ((i + 1 : Nat) : Int) := by
  rw [w64 (by omega) (by omega)]
  omega
theorem rdOf_at {α : Type} (d : α) (l : List α) (i : Nat) (h : i < l.length) : rdOf d l (i : Int) = l[i] := by
  unfold rdOf
  rw [Int.toNat_natCast, List.getD_eq_getElem?_getD, List.getElem?_eq_getElem h]
  rfl
/-- A list that is filled from its begin on. -/
theorem fill_take {α : Type} (l ys : List α) (i : Nat) (hi : i < l.length) (hl : ys.length = l.length) (h : ys.take i = l.take i) : (ys.set i l[i]).take (i + 1) = l.take (i + 1) := by
  have h1 : i < (ys.set i l[i]).length := by rw [List.length_set]; omega
  rw [List.take_succ_eq_append_getElem h1, List.take_succ_eq_append_getElem hi, List.getElem_set_self, List.take_set_of_le (Nat.le_refl _), h]
theorem rdB_at (l : List (S31)) (i : Nat) (h : i < l.length) : rd_T31 l (i : Int) = l[i] := by
  unfold rd_T31
  rw [Int.toNat_natCast, List.getD_eq_getElem?_getD, List.getElem?_eq_getElem h]
  rfl
/-- Is a rule within limits? -/
def okr (r : S31) : Bool := decide (0 ≤ r.f0 ∧ r.f0 ≤ 255) && (decide (0 ≤ r.f1 ∧ r.f1 ≤ 2047) && (decide (0 ≤ r.f2 ∧ r.f2 ≤ 255) && decide (0 ≤ r.f3 ∧ r.f3 ≤ 255)))
/-- RulesOk's answer. -/
def rulesOk (l : List (S31)) : Bool := l.all okr && decide ((l.length : Int) ≤ 12)
theorem l8Ok_at (r : S31) : spec_l8Ok.f r.f0 r.f1 r.f2 r.f3 r.f4 r.f5 = some (okr r) := by
  simp only [spec_l8Ok.f, l1In_at, Option.bind_some, okr]
  generalize decide (0 ≤ r.f0 ∧ r.f0 ≤ 255) = b1
  generalize decide (0 ≤ r.f1 ∧ r.f1 ≤ 2047) = b2
  generalize decide (0 ≤ r.f2 ∧ r.f2 ≤ 255) = b3
  cases b1 <;> cases b2 <;> cases b3 <;> rfl
theorem specRulesOk_l0 (d : Nat) : ∀ (k i : Nat) (l : List (S31)), d < k → l.length ≤ 9223372036854775807 → i + d = l.length →
    spec_RulesOk.l0 k l (i : Int) = some ((l.drop i).all okr && decide ((l.length : Int) ≤ 12)) := by
  induction d with
  | zero =>
    intro k i l hk hl hi
    obtain ⟨k, rfl⟩ : ∃ m, k = m + 1 := ⟨k - 1, by omega⟩
    simp only [spec_RulesOk.l0]
    rw [if_neg (by omega), List.drop_eq_nil_of_le (by omega)]
    rfl
  | succ d ih =>
    intro k i l hk hl hi
    obtain ⟨k, rfl⟩ : ∃ m, k = m + 1 := ⟨k - 1, by omega⟩
    have hil : i < l.length := by omega
    simp only [spec_RulesOk.l0]
    rw [if_pos (by omega), if_pos (by omega), rdB_at _ _ hil, l8Ok_at, List.drop_eq_getElem_cons hil, List.all_cons]
    simp only [Option.bind_some]
    cases h : okr l[i] with
    | false => rfl
    | true =>
      rw [if_pos rfl, up (by omega), ih k (i + 1) l (by omega) hl (by omega), Bool.true_and]
theorem specRulesOk_at (k : Nat) (l : List (S31)) (hk : l.length < k) (hl : l.length ≤ 9223372036854775807) : spec_RulesOk.f k l = some (rulesOk l) := by
  unfold spec_RulesOk.f rulesOk
  exact specRulesOk_l0 l.length k 0 l hk hl (by omega)
theorem implRulesOk_step (k i : Nat) (l : List (S31)) (hl : l.length ≤ 9223372036854775807) (hil : i < l.length) :
    impl_RulesOk.l0 (k + 1) l (l.length : Int) (i : Int) = if okr l[i] = true then impl_RulesOk.l0 k l (l.length : Int) ((i + 1 : Nat) : Int) else some false := by
  simp only [impl_RulesOk.l0, within_at, Option.bind_some]
  rw [if_pos (by omega), if_pos (by omega), if_pos (by omega), rdB_at _ _ hil, up (by omega), okr]
  generalize decide (0 ≤ l[i].f0 ∧ l[i].f0 ≤ 255) = b1
  generalize decide (0 ≤ l[i].f1 ∧ l[i].f1 ≤ 2047) = b2
  generalize decide (0 ≤ l[i].f2 ∧ l[i].f2 ≤ 255) = b3
  generalize decide (0 ≤ l[i].f3 ∧ l[i].f3 ≤ 255) = b4
  cases b1 <;> cases b2 <;> cases b3 <;> cases b4 <;> simp
theorem implRulesOk_l0 (d : Nat) : ∀ (k i : Nat) (l : List (S31)), d < k → l.length ≤ 9223372036854775807 → i + d = l.length →
    impl_RulesOk.l0 k l (l.length : Int) (i : Int) = some ((l.drop i).all okr) := by
  induction d with
  | zero =>
    intro k i l hk hl hi
    obtain ⟨k, rfl⟩ : ∃ m, k = m + 1 := ⟨k - 1, by omega⟩
    simp only [impl_RulesOk.l0]
    rw [if_neg (by omega), List.drop_eq_nil_of_le (by omega)]
    rfl
  | succ d ih =>
    intro k i l hk hl hi
    obtain ⟨k, rfl⟩ : ∃ m, k = m + 1 := ⟨k - 1, by omega⟩
    have hil : i < l.length := by omega
    rw [implRulesOk_step k i l hl hil, List.drop_eq_getElem_cons hil, List.all_cons]
    cases h : okr l[i] with
    | false => rfl
    | true =>
      rw [if_pos rfl, ih k (i + 1) l (by omega) hl (by omega), Bool.true_and]
theorem implRulesOk_at (k : Nat) (l : List (S31)) (hk : l.length < k) (hl : l.length ≤ 9223372036854775807) : impl_RulesOk.f k l = some (rulesOk l) := by
  have h0 : impl_RulesOk.l0 k l (l.length : Int) 0 = some (l.all okr) := implRulesOk_l0 l.length k 0 l hk hl (by omega)
  unfold impl_RulesOk.f rulesOk
  by_cases h : (l.length : Int) > 12
  · rw [if_pos h, decide_eq_false (by omega), Bool.and_false]
  · rw [if_neg h, h0, decide_eq_true (by omega), Bool.and_true]
/-- The list that both answer. -/
def less (l : List (S31)) : List (S31) := if rulesOk l = true then (HBook.bookL (l.map impl_RulesLess.to)).map impl_RulesLess.of else []
theorem byte_wf {n : Int} (h0 : 0 ≤ n) (h1 : n ≤ 2047) : (Lit.int .i64 n).wf = true := by
  simp [Lit.wf, IntKind.min, IntKind.max, IntKind.bits, IntKind.signed]
  omega
theorem rulesOk_true {l : List (S31)} (h : rulesOk l = true) : l.length ≤ 12 ∧ ∀ r ∈ l, (0 ≤ r.f0 ∧ r.f0 ≤ 255) ∧ (0 ≤ r.f1 ∧ r.f1 ≤ 2047) ∧ (0 ≤ r.f2 ∧ r.f2 ≤ 255) ∧ (0 ≤ r.f3 ∧ r.f3 ≤ 255) := by
  unfold rulesOk at h
  rw [Bool.and_eq_true] at h
  refine ⟨by have := of_decide_eq_true h.2; omega, fun r hr => ?_⟩
  have := List.all_eq_true.1 h.1 r hr
  simpa [okr, Bool.and_eq_true, decide_eq_true_eq] using this
theorem ruleWf_of {r : S31} (h : (0 ≤ r.f0 ∧ r.f0 ≤ 255) ∧ (0 ≤ r.f1 ∧ r.f1 ≤ 2047) ∧ (0 ≤ r.f2 ∧ r.f2 ≤ 255) ∧ (0 ≤ r.f3 ∧ r.f3 ≤ 255)) : HBook.RuleWf ⟨r.f0, r.f1, r.f2, r.f3, r.f4, r.f5⟩ :=
  ⟨byte_wf h.1.1 (by show r.f0 ≤ 2047; omega), byte_wf h.2.1.1 h.2.1.2, byte_wf h.2.2.1.1 (by show r.f2 ≤ 2047; omega), byte_wf h.2.2.2.1 (by show r.f3 ≤ 2047; omega)⟩
theorem wf_all {l : List (S31)} (h : rulesOk l = true) : ∀ y ∈ l.map impl_RulesLess.to, HBook.RuleWf y := by
  intro y hy
  obtain ⟨r, hr, rfl⟩ := List.mem_map.1 hy
  exact ruleWf_of ((rulesOk_true h).2 r hr)
theorem implLess_at (k : Nat) (l : List (S31)) (hk : l.length < k) (hl : l.length ≤ 9223372036854775807) : impl_RulesLess.f k l = some (less l) := by
  unfold impl_RulesLess.f less
  rw [implRulesOk_at k l hk hl]
  simp only [Option.bind_some]
  cases h : rulesOk l with
  | false => rw [if_neg (by decide), if_neg (by decide)]
  | true => rw [if_pos rfl, if_pos rfl, if_pos ⟨by have := (rulesOk_true h).1; omega, wf_all h⟩]
theorem less_length (l : List (S31)) : (less l).length ≤ 12 := by
  unfold less
  split
  · rename_i h
    rw [List.length_map]
    have h1 := (HBook.good_book _ (wf_all h)).1
    rw [List.length_map] at h1
    have := (rulesOk_true h).1
    omega
  · simp
theorem rdLess_set (l : List (S31)) (i : Nat) (e : S31) (h : i < l.length) : rd_T31 (l.set i e) (i : Int) = e := by
  unfold rd_T31
  rw [Int.toNat_natCast, List.getD_eq_getElem?_getD, List.getElem?_set_self h]
  rfl
theorem addL_miss {xs : List HBook.Rl} {x : HBook.Rl} (h : ∀ y ∈ xs, HBook.key y ≠ HBook.key x) : HBook.addL xs x = xs ++ [x] := by
  rcases HBook.addL_cases xs x with ⟨_, e⟩ | ⟨i, y, hy, hk, _⟩
  · exact e
  · exact absurd hk (h y (List.mem_of_getElem? hy))
theorem addL_hit {xs : List HBook.Rl} {x : HBook.Rl} {j : Nat} (hj : j < xs.length) (he : HBook.key xs[j] = HBook.key x) (h : ∀ y ∈ xs.take j, HBook.key y ≠ HBook.key x) : HBook.addL xs x = xs.set j (HBook.merge xs[j] x) := by
  have hf : (xs.map HBook.key).findIdx? (fun k => decide (k = HBook.key x)) = some j := by
    rw [List.findIdx?_eq_some_iff_getElem]
    refine ⟨by rw [List.length_map]; exact hj, ?_, fun i hi => ?_⟩
    · rw [List.getElem_map]
      exact decide_eq_true he
    · rw [List.getElem_map]
      have hm : xs[i]'(by omega) ∈ xs.take j := by
        rw [List.mem_take_iff_getElem]
        exact ⟨i, by omega, rfl⟩
      have := h _ hm
      simp [this]
  unfold HBook.addL
  rw [hf]
  dsimp only
  rw [List.getD_eq_getElem?_getD, List.getElem?_eq_getElem hj]
  rfl
/-- Looking for a rule's key, and joining it to the list. -/
theorem search_at (K : Nat) (l : List (S31)) (xs : List HBook.Rl) (x : HBook.Rl) (i : Nat) (r : List (S31)) (hx : xs.length ≤ 1000)
    (hn : ∀ k, K ≤ k → spec_RulesLess.l0 k l ((HBook.addL xs x).map impl_RulesLess.of) ((i + 1 : Nat) : Int) = some r) (hi : i < 9223372036854775807) (d : Nat) :
    ∀ (j k : Nat), j + d = xs.length → (∀ y ∈ xs.take j, HBook.key y ≠ HBook.key x) → K + d < k →
      spec_RulesLess.l1 k l (xs.map impl_RulesLess.of) (i : Int) (j : Int) x.f0 x.f1 x.f2 x.f3 x.f4 x.f5 = some r := by
  have hlen : (xs.map impl_RulesLess.of).length = xs.length := List.length_map _
  induction d with
  | zero =>
    intro j k hj hno hk
    obtain ⟨k, rfl⟩ : ∃ m, k = m + 1 := ⟨k - 1, by omega⟩
    rw [List.take_of_length_le (by omega)] at hno
    have h := hn k (by omega)
    rw [addL_miss hno, List.map_append] at h
    simp only [spec_RulesLess.l1]
    rw [if_neg (by omega), if_pos (by omega), if_pos (by omega), up hi]
    exact h
  | succ d ih =>
    intro j k hj hno hk
    obtain ⟨k, rfl⟩ : ∃ m, k = m + 1 := ⟨k - 1, by omega⟩
    have hjl : j < xs.length := by omega
    have hg : rd_T31 (xs.map impl_RulesLess.of) (j : Int) = impl_RulesLess.of xs[j] := by
      rw [rdB_at _ _ (by omega), List.getElem_map]
    by_cases he : HBook.key xs[j] = HBook.key x
    · have h := hn k (by omega)
      rw [addL_hit hjl he hno, List.map_set] at h
      have he' := he
      simp only [HBook.key, Prod.mk.injEq] at he'
      obtain ⟨h0, h1, h2, h3⟩ : (impl_RulesLess.of xs[j]).f0 = x.f0 ∧ (impl_RulesLess.of xs[j]).f1 = x.f1 ∧ (impl_RulesLess.of xs[j]).f2 = x.f2 ∧ (impl_RulesLess.of xs[j]).f3 = x.f3 := he'
      have hm : impl_RulesLess.of (HBook.merge xs[j] x) = ⟨(impl_RulesLess.of xs[j]).f0, (impl_RulesLess.of xs[j]).f1, (impl_RulesLess.of xs[j]).f2, (impl_RulesLess.of xs[j]).f3, (impl_RulesLess.of xs[j]).f4 || x.f4, (impl_RulesLess.of xs[j]).f5 || x.f5⟩ := rfl
      have hjm : j < (xs.map impl_RulesLess.of).length := by omega
      rw [hm] at h
      clear hm he
      generalize impl_RulesLess.of xs[j] = o at h h0 h1 h2 h3 hg
      generalize xs.map impl_RulesLess.of = L at h hg hjm hlen ⊢
      simp only [spec_RulesLess.l1]
      rw [if_pos (by omega), if_pos (by omega), hg, if_pos h0, if_pos h1, if_pos h2, if_pos h3, if_neg (by omega), up hi]
      simp only [Int.toNat_natCast, Option.bind_some, rdLess_set _ _ _ hjm, List.set_set]
      cases h4 : o.f4 <;> cases h5 : o.f5 <;> simp only [h4, h5, Bool.false_eq_true, if_true, if_false, Bool.true_or, Bool.false_or] at h ⊢ <;> exact h
    · have hno' : ∀ y ∈ xs.take (j + 1), HBook.key y ≠ HBook.key x := by
        intro y hy
        rw [List.take_succ_eq_append_getElem hjl] at hy
        rcases List.mem_append.1 hy with hy | hy
        · exact hno y hy
        · rw [List.mem_singleton.1 hy]
          exact he
      have h := ih (j + 1) k (by omega) hno' (by omega)
      simp only [spec_RulesLess.l1]
      rw [if_pos (by omega), if_pos (by omega), hg, up (show j < 9223372036854775807 by omega)]
      have he2 : ¬ ((impl_RulesLess.of xs[j]).f0 = x.f0 ∧ (impl_RulesLess.of xs[j]).f1 = x.f1 ∧ (impl_RulesLess.of xs[j]).f2 = x.f2 ∧ (impl_RulesLess.of xs[j]).f3 = x.f3) := fun h => he (by simp only [HBook.key, Prod.mk.injEq]; exact h)
      generalize impl_RulesLess.of xs[j] = o at he2 hg ⊢
      by_cases h0 : o.f0 = x.f0
      · by_cases h1 : o.f1 = x.f1
        · by_cases h2 : o.f2 = x.f2
          · by_cases h3 : o.f3 = x.f3
            · exact absurd ⟨h0, h1, h2, h3⟩ he2
            · rw [if_pos h0, if_pos h1, if_pos h2, if_neg h3]
              exact h
          · rw [if_pos h0, if_pos h1, if_neg h2]
            exact h
        · rw [if_pos h0, if_neg h1]
          exact h
      · rw [if_neg h0]
        exact h
theorem specLess_l0 (l : List (S31)) (hok : rulesOk l = true) (d : Nat) : ∀ (i k : Nat), i + d = l.length → 20 * d < k →
    spec_RulesLess.l0 k l ((HBook.bookL ((l.take i).map impl_RulesLess.to)).map impl_RulesLess.of) (i : Int) = some ((HBook.bookL (l.map impl_RulesLess.to)).map impl_RulesLess.of) := by
  have h12 := (rulesOk_true hok).1
  induction d with
  | zero =>
    intro i k hi hk
    obtain ⟨k, rfl⟩ : ∃ m, k = m + 1 := ⟨k - 1, by omega⟩
    simp only [spec_RulesLess.l0]
    rw [if_neg (by omega), List.take_of_length_le (by omega)]
  | succ d ih =>
    intro i k hi hk
    obtain ⟨k, rfl⟩ : ∃ m, k = m + 2 := ⟨k - 2, by omega⟩
    have hil : i < l.length := by omega
    have hw : ∀ y ∈ (l.take i).map impl_RulesLess.to, HBook.RuleWf y := by
      intro y hy
      obtain ⟨r, hr, rfl⟩ := List.mem_map.1 hy
      exact ruleWf_of ((rulesOk_true hok).2 r (List.mem_of_mem_take hr))
    have hb := (HBook.good_book _ hw).1
    rw [List.length_map, List.length_take] at hb
    have ht : HBook.bookL ((l.take (i + 1)).map impl_RulesLess.to) = if (l[i].f4 || l[i].f5) = true then HBook.addL (HBook.bookL ((l.take i).map impl_RulesLess.to)) (impl_RulesLess.to l[i]) else HBook.bookL ((l.take i).map impl_RulesLess.to) := by
      rw [List.take_succ_eq_append_getElem hil, List.map_append, List.map_cons, List.map_nil, HBook.bookL_snoc]
      rfl
    simp only [spec_RulesLess.l0, rdB_at l i hil]
    rw [if_pos (by omega), if_pos (by omega)]
    by_cases hsay : (l[i].f4 || l[i].f5) = true
    · rw [if_pos hsay] at ht
      have hgo : spec_RulesLess.j1 (k + 1) l ((HBook.bookL ((l.take i).map impl_RulesLess.to)).map impl_RulesLess.of) (i : Int) false l[i].f0 l[i].f1 l[i].f2 l[i].f3 l[i].f4 l[i].f5 = some ((HBook.bookL (l.map impl_RulesLess.to)).map impl_RulesLess.of) := by
        simp only [spec_RulesLess.j1, Bool.false_eq_true, if_false]
        refine search_at (20 * d + 1) l _ (impl_RulesLess.to l[i]) i _ (by omega) ?_ (by omega) (HBook.bookL ((l.take i).map impl_RulesLess.to)).length 0 k (by omega) (fun y hy => absurd hy (by simp)) (by omega)
        intro k2 hk2
        rw [← ht]
        exact ih (i + 1) k2 (by omega) (by omega)
      cases h4 : l[i].f4 with
      | true =>
        rw [if_pos rfl]
        rw [h4] at hgo
        exact hgo
      | false =>
        rw [if_neg (by decide)]
        rw [h4, Bool.false_or] at hsay
        rw [h4] at hgo
        rw [hsay] at hgo ⊢
        exact hgo
    · rw [if_neg hsay] at ht
      have h4 : l[i].f4 = false := by
        cases h : l[i].f4
        · rfl
        · rw [h, Bool.true_or] at hsay
          exact absurd rfl hsay
      have h5 : l[i].f5 = false := by
        cases h : l[i].f5
        · rfl
        · rw [h, Bool.or_true] at hsay
          exact absurd rfl hsay
      rw [h4, h5, if_neg (by decide)]
      simp only [spec_RulesLess.j1, Bool.not_false, if_true]
      rw [up (by omega), ← ht]
      exact ih (i + 1) k (by omega) (by omega)
theorem specLess_at (k : Nat) (l : List (S31)) (hk : l.length + 300 < k) (hl : l.length ≤ 9223372036854775807) : spec_RulesLess.f k l = some (less l) := by
  unfold spec_RulesLess.f less
  simp only [Option.bind_some]
  rw [specRulesOk_at k l (by omega) hl]
  simp only [Option.bind_some]
  cases h : rulesOk l with
  | false => rw [if_neg (by decide), if_neg (by decide)]
  | true =>
    rw [if_pos rfl, if_pos rfl]
    have h12 := (rulesOk_true h).1
    exact specLess_l0 l h l.length 0 k (by omega) (by omega)
/-- What the reference asks of a rule. -/
def hitS (mode : Int) (k : HMap.K4) (r : S31) : Bool := HRules.hit mode k (impl_RulesLet.to r)
/-- What both answer. -/
def rulesLet (l : List (S31)) (mode : Int) (k : HMap.K4) : Bool := rulesOk l && l.any (hitS mode k)
theorem any_to (l : List (S31)) (mode : Int) (k : HMap.K4) : (l.map impl_RulesLet.to).any (HRules.hit mode k) = l.any (hitS mode k) := by
  rw [List.any_map]
  rfl
theorem implLet_at (k : Nat) (l : List (S31)) (mode c0 c1 c2 c3 c4 : Int) (s : ByteArray) (hk : l.length < k) (hl : l.length ≤ 9223372036854775807) (hw : HMap.KeyWf (c2, c0, c3, c4)) : impl_RulesLet.f k l mode c0 c1 c2 c3 c4 s = some (rulesLet l mode (c2, c0, c3, c4)) := by
  unfold impl_RulesLet.f rulesLet
  rw [implRulesOk_at k l hk hl]
  simp only [Option.bind_some]
  cases h : rulesOk l with
  | false => rw [if_neg (by decide), Bool.false_and]
  | true =>
    obtain ⟨h1, h2⟩ := rulesOk_true h
    have hwf : ∀ y ∈ l.map impl_RulesLet.to, HBook.RuleWf y := by
      intro y hy
      obtain ⟨r, hr, rfl⟩ := List.mem_map.1 hy
      exact ruleWf_of (h2 r hr)
    rw [if_pos rfl, if_pos ⟨by omega, hwf, hw⟩, HRules.let_book mode _ _ hwf, any_to, Bool.true_and]
/-- What is read from: at most 2000 bytes. -/
def Bytes (xs : List Int) : Prop := xs.length ≤ 2000 ∧ ∀ x ∈ xs, 0 ≤ x ∧ x ≤ 255
theorem rd_rng {xs : List Int} (h : Bytes xs) (i : Int) : 0 ≤ rd xs i ∧ rd xs i ≤ 255 := by
  unfold rd
  rw [List.getD_eq_getElem?_getD]
  cases hx : xs[i.toNat]? with
  | none => simp
  | some x => exact h.2 x (List.mem_of_getElem? hx)
theorem u8_rng {x : Int} (h : (Lit.int .u8 x).wf = true) : 0 ≤ x ∧ x ≤ 255 := by
  simpa [Lit.wf, IntKind.min, IntKind.max, IntKind.bits, IntKind.signed] using h
/-- Opening what came: its first 2000 bytes. -/
theorem open_at (l : List Int) (hl : l.length ≤ 140737488351232) (h : ∀ x ∈ l, (Lit.int .u8 x).wf = true) : spec_l1Open.f l = some (l.take 2000, 0) ∧ Bytes (l.take 2000) := by
  refine ⟨?_, by rw [List.length_take]; omega, fun x hx => u8_rng (h x (List.mem_of_mem_take hx))⟩
  unfold spec_l1Open.f
  by_cases h2 : (l.length : Int) > 2000
  · rw [if_pos h2, if_pos (by omega)]
  · rw [if_neg h2, List.take_of_length_le (by omega)]
theorem xor_rng {x y : Int} (hx0 : 0 ≤ x) (hx1 : x < 4611686018427387904) (hy0 : 0 ≤ y) (hy1 : y < 4611686018427387904) : 0 ≤ bits .xor .i64 x y ∧ bits .xor .i64 x y < 4611686018427387904 := by
  obtain ⟨a, rfl⟩ := Int.eq_ofNat_of_zero_le hx0
  obtain ⟨b, rfl⟩ := Int.eq_ofNat_of_zero_le hy0
  have h : a ^^^ b < 2 ^ 62 := Nat.xor_lt_two_pow (by omega) (by omega)
  have e : bits .xor .i64 (a : Int) (b : Int) = ((a ^^^ b : Nat) : Int) := by
    show IntKind.i64.wrap ((BitVec.ofInt 64 (a : Int) ^^^ BitVec.ofInt 64 (b : Int)).toNat : Int) = _
    rw [BitVec.toNat_xor, BitVec.ofInt_natCast, BitVec.ofInt_natCast, BitVec.toNat_ofNat, BitVec.toNat_ofNat, Nat.mod_eq_of_lt (by omega), Nat.mod_eq_of_lt (by omega)]
    exact wraps_i64 _ (by omega) (by omega)
  rw [e]
  omega
/-- The number that is reckoned where what came is at its end. -/
theorem mix_rng {a b p q : Int} (ha0 : 0 ≤ a) (ha1 : a ≤ 255) (hb0 : 0 ≤ b) (hb1 : b ≤ 255) (hp0 : 0 ≤ p) (hp1 : p ≤ 1099511627776) (hq0 : 0 ≤ q) (hq1 : q ≤ 1099511627776) :
    ∃ v, wrap64 (wrap64 (wrap64 (wrap64 (wrap64 a * 131) + wrap64 (wrap64 b * 1117)) + wrap64 (p * 29)) + wrap64 (wrap64 q * 53)) = v ∧ 0 ≤ v ∧ v < 4611686018427387904 := by
  refine ⟨a * 131 + b * 1117 + p * 29 + q * 53, ?_, by omega, by omega⟩
  rw [w64 (x := a) (by omega) (by omega), w64 (x := b) (by omega) (by omega), w64 (x := q) (by omega) (by omega), w64 (x := a * 131) (by omega) (by omega), w64 (x := b * 1117) (by omega) (by omega), w64 (x := p * 29) (by omega) (by omega), w64 (x := q * 53) (by omega) (by omega),
    w64 (x := a * 131 + b * 1117) (by omega) (by omega), w64 (x := a * 131 + b * 1117 + p * 29) (by omega) (by omega), w64 (by omega) (by omega)]
theorem tmod_rng {x m : Int} (h0 : 0 ≤ x) (hm : 1 ≤ m) : 0 ≤ Int.tmod x m ∧ Int.tmod x m < m := by
  rw [tmodp h0]
  exact ⟨Int.emod_nonneg _ (by omega), Int.emod_lt_of_pos _ (by omega)⟩
/-- One pick: a number below m. -/
theorem pick_at {xs : List Int} (h : Bytes xs) (p m : Int) (hp0 : 0 ≤ p) (hp1 : p ≤ 1000000) (hm : 1 ≤ m) :
    ∃ r, 0 ≤ r ∧ r < m ∧ ∀ k, 2 ≤ k → spec_l1Rd_pick.f k xs p m = some (r, p + 1) := by
  have hlen := h.1
  have e1 : wrap64 (p + 1) = p + 1 := w64 (by omega) (by omega)
  have e2 : wrap64 (p + 1 - 1) = p := by rw [w64 (by omega) (by omega)]; omega
  have n1 : ¬ m < 1 := by omega
  have n2 : ¬ m = 0 := by omega
  by_cases hz : xs.length = 0
  · refine ⟨0, by omega, by omega, fun k hk => ?_⟩
    obtain ⟨k, rfl⟩ : ∃ q, k = q + 1 := ⟨k - 1, by omega⟩
    have hb : ((xs.length : Int) == 0) = true := by rw [hz]; rfl
    unfold spec_l1Rd_pick.f
    rw [if_neg n1, hb, e1]
    simp only [spec_l1Rd_pick.j0, if_true]
  have hb : ((xs.length : Int) == 0) = false := beq_eq_false_iff_ne.mpr (by omega)
  by_cases hlt : p < (xs.length : Int)
  · have hr := rd_rng h p
    have e3 : wrap64 (rd xs p) = rd xs p := w64 (by omega) (by omega)
    obtain ⟨t0, t1⟩ := tmod_rng (x := rd xs p) (m := m) hr.1 hm
    refine ⟨Int.tmod (rd xs p) m, t0, t1, fun k hk => ?_⟩
    obtain ⟨k, rfl⟩ : ∃ q, k = q + 1 := ⟨k - 1, by omega⟩
    unfold spec_l1Rd_pick.f
    rw [if_neg n1, hb, e1]
    simp only [spec_l1Rd_pick.j0, Bool.false_eq_true, if_false, e2]
    rw [if_pos hlt, if_pos hp0, if_neg n2, e3]
  · have hl1 : 1 ≤ (xs.length : Int) := by omega
    have m1 := tmod_rng (x := p) (m := (xs.length : Int)) hp0 hl1
    have e4 : wrap64 (wrap64 (p * 7) + 3) = p * 7 + 3 := by rw [w64 (x := p * 7) (by omega) (by omega), w64 (by omega) (by omega)]
    have m2 := tmod_rng (x := p * 7 + 3) (m := (xs.length : Int)) (by omega) hl1
    have r1 := rd_rng h (Int.tmod p (xs.length : Int))
    have r2 := rd_rng h (Int.tmod (p * 7 + 3) (xs.length : Int))
    have q0 : 0 ≤ Int.tdiv p (xs.length : Int) := by rw [tdivp hp0]; exact Int.ediv_nonneg hp0 (by omega)
    have q1 : Int.tdiv p (xs.length : Int) ≤ 1000000 := by rw [tdivp hp0]; exact Int.le_trans (Int.ediv_le_self _ hp0) hp1
    obtain ⟨v, hv, v0, v1⟩ := mix_rng (p := p) (q := Int.tdiv p (xs.length : Int)) r1.1 r1.2 r2.1 r2.2 hp0 (by omega) q0 (by omega)
    have d1 : wrap64 (Int.tdiv v 64) = v / 64 := by rw [tdivp v0, w64 (by omega) (by omega)]
    obtain ⟨x0, x1⟩ := xor_rng (x := v) (y := v / 64) v0 v1 (by omega) (by omega)
    obtain ⟨t0, t1⟩ := tmod_rng (x := bits .xor .i64 v (v / 64)) (m := m) x0 hm
    refine ⟨Int.tmod (bits .xor .i64 v (v / 64)) m, t0, t1, fun k hk => ?_⟩
    obtain ⟨k, rfl⟩ : ∃ q, k = q + 1 := ⟨k - 1, by omega⟩
    unfold spec_l1Rd_pick.f
    rw [if_neg n1, hb, e1]
    simp only [spec_l1Rd_pick.j0, Bool.false_eq_true, if_false, e2, e4]
    rw [if_neg hlt, if_neg (show ¬ (xs.length : Int) = 0 by omega), if_pos m1.1, if_pos m1.2, if_pos m2.1, if_pos m2.2, if_neg n2, hv, d1]
theorem text_l0 {xs : List Int} (h : Bytes xs) (d : Nat) : ∀ (acc : List Int) (p : Int), acc.length + d ≤ 1000 → 0 ≤ p → p + 3 * d ≤ 500000 →
    ∃ t q, t.size = acc.length + d ∧ p ≤ q ∧ q ≤ p + 3 * d ∧ ∀ k, d + 2 < k → spec_l15Text.l0 k acc (d : Int) xs p = some (t, q) := by
  induction d with
  | zero =>
    intro acc p ha hp0 hp1
    refine ⟨strOfNums acc, p, strOfNums_size acc, by omega, by omega, fun k hk => ?_⟩
    obtain ⟨k, rfl⟩ : ∃ m, k = m + 1 := ⟨k - 1, by omega⟩
    simp only [spec_l15Text.l0]
    rw [if_neg (by omega)]
  | succ d ih =>
    intro acc p ha hp0 hp1
    obtain ⟨r1, a1, b1, c1⟩ := pick_at h p 256 hp0 (by omega) (by omega)
    obtain ⟨r2, a2, b2, c2⟩ := pick_at h (p + 1) 4 (by omega) (by omega) (by omega)
    obtain ⟨r3, a3, b3, c3⟩ := pick_at h (p + 1 + 1) 5 (by omega) (by omega) (by omega)
    obtain ⟨t, q, ht, hq0, hq1, hk⟩ := ih (acc ++ [(rd [r1, r2, 85, 235, 144] r3) % 256]) (p + 1 + 1 + 1) (by rw [List.length_append, List.length_singleton]; omega) (by omega) (by omega)
    refine ⟨t, q, by rw [ht, List.length_append, List.length_singleton]; omega, by omega, by omega, fun k hkk => ?_⟩
    obtain ⟨k, rfl⟩ : ∃ m, k = m + 1 := ⟨k - 1, by omega⟩
    have e : wrap64 (((d + 1 : Nat) : Int) - 1) = (d : Int) := by rw [w64 (by omega) (by omega)]; omega
    simp only [spec_l15Text.l0]
    rw [if_pos (by omega), c1 k (by omega)]
    simp only [Option.bind_some]
    rw [c2 k (by omega)]
    simp only [Option.bind_some]
    rw [c3 k (by omega)]
    simp only [Option.bind_some]
    rw [if_pos a3, if_pos (by show r3 < 5; omega), if_pos (by omega), e]
    exact hk k (by omega)
/-- A text that is drawn: at most n bytes. -/
theorem text_at {xs : List Int} (h : Bytes xs) (p : Int) (n : Nat) (hp0 : 0 ≤ p) (hp1 : p ≤ 100000) (hn : n ≤ 900) :
    ∃ t q, t.size ≤ n ∧ p ≤ q ∧ q ≤ p + 1 + 3 * n ∧ ∀ k, n + 10 < k → spec_l15Text.f k xs p (n : Int) = some (t, q) := by
  obtain ⟨r, a, b, c⟩ := pick_at h p ((n : Int) + 1) hp0 (by omega) (by omega)
  obtain ⟨d, rfl⟩ := Int.eq_ofNat_of_zero_le a
  obtain ⟨t, q, ht, hq0, hq1, hk⟩ := text_l0 h d [] (p + 1) (by rw [List.length_nil]; omega) (by omega) (by omega)
  refine ⟨t, q, by rw [ht, List.length_nil]; omega, by omega, by omega, fun k hkk => ?_⟩
  unfold spec_l15Text.f
  rw [w64 (x := (n : Int) + 1) (by omega) (by omega), c k (by omega)]
  simp only [Option.bind_some]
  exact hk k (by omega)
theorem many_half {n : Int} (h0 : 0 ≤ n) (h1 : n ≤ 1000000) : wrap64 (Int.tdiv n 2) = n / 2 := by rw [tdivp h0, w64 (by omega) (by omega)]
theorem many_l0 (d : Nat) : ∀ (x acc : ByteArray) (n : Int), 0 ≤ n → n < 2 ^ d → n ≤ 1000000 → acc.size + x.size * 2 ^ (d + 1) ≤ 1000000000 + x.size → ∃ r, r.size = acc.size + n.toNat * x.size ∧ ∀ k, d < k → spec_l1Many.l0 k x n acc = some r := by
  induction d with
  | zero =>
    intro x acc n h0 h1 _ hB
    obtain rfl : n = 0 := by rw [Int.pow_zero] at h1; omega
    refine ⟨acc, by simp, fun k hk => ?_⟩
    obtain ⟨k, rfl⟩ : ∃ m, k = m + 1 := ⟨k - 1, by omega⟩
    simp only [spec_l1Many.l0]
    rw [if_neg (by decide)]
  | succ d ih =>
    intro x acc n h0 h1 hm hB
    have hp : (2 : Int) ^ (d + 1) = 2 ^ d * 2 := Int.pow_succ _ _
    have hx : x.size ≤ x.size * 2 ^ (d + 1) := Nat.le_mul_of_pos_right _ (Nat.pow_pos (by decide))
    have hq : x.size * 2 ^ (d + 1 + 1) = x.size * 2 ^ (d + 1) + x.size * 2 ^ (d + 1) := by rw [Nat.pow_succ 2 (d + 1), ← Nat.mul_assoc]; omega
    have hs2 : (x ++ x).size = x.size + x.size := ByteArray.size_append
    have hxx : (x ++ x).size * 2 ^ (d + 1) = x.size * 2 ^ (d + 1) + x.size * 2 ^ (d + 1) := by rw [hs2, Nat.add_mul]
    have hsa : (acc ++ x).size = acc.size + x.size := ByteArray.size_append
    have g1 : x.size + x.size ≤ 9223372036854775807 := by omega
    have g2 : acc.size + x.size ≤ 9223372036854775807 := by omega
    have m1 : 0 ≤ n / 2 := by omega
    have m2 : n / 2 < 2 ^ d := by omega
    have m3 : n / 2 ≤ 1000000 := by omega
    by_cases ho : n % 2 = 1
    · have hn : n > 0 := by omega
      obtain ⟨r, hr, hk2⟩ := ih (x ++ x) (acc ++ x) (n / 2) m1 m2 m3 (by rw [hxx, hsa]; omega)
      refine ⟨r, ?_, fun k hk => ?_⟩
      · have e : n.toNat = 2 * (n / 2).toNat + 1 := by omega
        have e2 : (2 * (n / 2).toNat + 1) * x.size = (n / 2).toNat * (x.size + x.size) + x.size := by rw [Nat.add_mul, Nat.mul_add, Nat.mul_assoc, Nat.one_mul, Nat.two_mul]
        rw [hr, hs2, hsa, e, e2]
        omega
      · obtain ⟨k, rfl⟩ : ∃ m, k = m + 1 := ⟨k - 1, by omega⟩
        have gk : d < k := by omega
        simp only [spec_l1Many.l0]
        rw [if_pos hn, tmodp h0, if_pos ho, if_pos g2, if_pos g1, many_half h0 hm]
        exact hk2 k gk
    · by_cases hn : n > 0
      · obtain ⟨r, hr, hk2⟩ := ih (x ++ x) acc (n / 2) m1 m2 m3 (by rw [hxx]; omega)
        refine ⟨r, ?_, fun k hk => ?_⟩
        · have e : n.toNat = 2 * (n / 2).toNat := by omega
          have e2 : (2 * (n / 2).toNat) * x.size = (n / 2).toNat * (x.size + x.size) := by rw [Nat.mul_add, Nat.mul_assoc, Nat.two_mul]
          rw [hr, hs2, e, e2]
        · obtain ⟨k, rfl⟩ : ∃ m, k = m + 1 := ⟨k - 1, by omega⟩
          have gk : d < k := by omega
          simp only [spec_l1Many.l0]
          rw [if_pos hn, tmodp h0, if_neg ho, if_pos g1, many_half h0 hm]
          exact hk2 k gk
      · obtain rfl : n = 0 := by omega
        refine ⟨acc, by simp, fun k hk => ?_⟩
        obtain ⟨k, rfl⟩ : ∃ m, k = m + 1 := ⟨k - 1, by omega⟩
        simp only [spec_l1Many.l0]
        rw [if_neg hn]
/-- One byte, so many times. -/
theorem many_at (x : ByteArray) (hx : x.size = 1) (n : Int) (h0 : 0 ≤ n) (h1 : n ≤ 1000) : ∃ r, r.size = n.toNat ∧ ∀ k, 10 < k → spec_l1Many.f k x n = some r := by
  have e : (2 : Int) ^ 10 = 1024 := by decide
  obtain ⟨r, hr, hk⟩ := many_l0 10 x (⟨#[]⟩ : ByteArray) n h0 (by omega) (by omega) (by rw [hx]; decide)
  refine ⟨r, ?_, fun k hkk => hk k hkk⟩
  rw [hr, hx, Nat.mul_one]
  show 0 + _ = _
  omega
theorem rdS_le {B : Nat} (l : List ByteArray) (h : ∀ a ∈ l, a.size ≤ B) (i : Int) : (rdOf ByteArray.empty l i).size ≤ B := by
  unfold rdOf
  rw [List.getD_eq_getElem?_getD]
  cases hx : l[i.toNat]? with
  | none => exact Nat.zero_le _
  | some x => exact h x (List.mem_of_getElem? hx)
theorem bnd {α β : Type} {o : Option α} {f : α → Option β} {b : β} (a : α) (h : o = some a) (h2 : f a = some b) : o.bind f = some b := Option.bind_eq_some_iff.2 ⟨a, h, h2⟩
/-- One of a few: what is drawn is among them. -/
theorem one_in {xs : List Int} (h : Bytes xs) (p : Int) (ys : List Int) (hy : 1 ≤ ys.length) (hp0 : 0 ≤ p) (hp1 : p ≤ 100000) : ∃ v, v ∈ ys ∧ ∀ k, 2 ≤ k → spec_l1Rd_one.f k xs p ys = some (v, p + 1) := by
  obtain ⟨r0, a0, b0, c0⟩ := pick_at h p (ys.length : Int) (by omega) (by omega) (by omega)
  refine ⟨rd ys r0, ?_, fun k hk => ?_⟩
  · unfold rd
    rw [List.getD_eq_getElem?_getD, List.getElem?_eq_getElem (by omega)]
    exact List.getElem_mem _
  · unfold spec_l1Rd_one.f
    exact bnd _ (c0 k hk) ((if_pos a0).trans ((if_pos b0).trans rfl))
/-- Four numbers as rules and commands have them. -/
def Wf4 (a b c d : Int) : Prop := (0 ≤ a ∧ a ≤ 2047) ∧ (0 ≤ b ∧ b ≤ 2047) ∧ (0 ≤ c ∧ c ≤ 2047) ∧ (0 ≤ d ∧ d ≤ 2047)
def WfR (l : List (S31)) : Prop := ∀ r ∈ l, Wf4 r.f0 r.f1 r.f2 r.f3
theorem wfR_snoc {l : List (S31)} {a b c d : Int} {e f : Bool} (h : WfR l) (hr : Wf4 a b c d) : WfR (l ++ [⟨a, b, c, d, e, f⟩]) := by
  intro r hr'
  rcases List.mem_append.1 hr' with hr' | hr'
  · exact h r hr'
  · rw [List.mem_singleton.1 hr']
    exact hr
theorem rule_at {xs : List Int} (h : Bytes xs) (p : Int) (hp0 : 0 ≤ p) (hp1 : p ≤ 10000) : ∃ a b c d e f, Wf4 a b c d ∧ ∀ k, 2 ≤ k → spec_l15Rule.f k xs p = some (a, b, c, d, e, f, p + 6) := by
  obtain ⟨v1, m1, c1⟩ := one_in h p [1, 2] (by decide) hp0 (by omega)
  obtain ⟨v2, m2, c2⟩ := one_in h (p + 1) [0, 1, 7] (by decide) (by omega) (by omega)
  obtain ⟨v3, m3, c3⟩ := one_in h (p + 1 + 1) [8, 11, 17] (by decide) (by omega) (by omega)
  obtain ⟨r4, a4, b4, c4⟩ := pick_at h (p + 1 + 1 + 1) 5 (by omega) (by omega) (by decide)
  obtain ⟨r5, a5, b5, c5⟩ := pick_at h (p + 1 + 1 + 1 + 1) 3 (by omega) (by omega) (by decide)
  obtain ⟨r6, a6, b6, c6⟩ := pick_at h (p + 1 + 1 + 1 + 1 + 1) 3 (by omega) (by omega) (by decide)
  have e4 : wrap64 (1 + r4) = 1 + r4 := w64 (by omega) (by omega)
  have ep : p + 6 = p + 1 + 1 + 1 + 1 + 1 + 1 := by omega
  refine ⟨v1, v2, v3, wrap64 (1 + r4), decide (r5 > 0), (r6 == 0), ?_, fun k hk => ?_⟩
  · simp only [List.mem_cons, List.not_mem_nil, or_false] at m1 m2 m3
    refine ⟨?_, ?_, ?_, ?_⟩ <;> omega
  · rw [ep]
    unfold spec_l15Rule.f
    exact bnd _ (c1 k hk) (bnd _ (c2 k hk) (bnd _ (c3 k hk) (bnd _ (c4 k hk) (bnd _ (c5 k hk) (bnd _ (c6 k hk) rfl)))))
theorem rules_l1 {xs : List Int} (h : Bytes xs) (d : Nat) : ∀ (p : Int) (l : List (S31)), l.length + d = 13 → WfR l → 0 ≤ p → p + 7 * d ≤ 5000 →
    ∃ r q, r.length ≤ 13 ∧ WfR r ∧ p ≤ q ∧ q ≤ p + 7 * d + 1 ∧ ∀ k, d + 2 < k → spec_l15Rules.l1 k l xs p = some (r, q) := by
  induction d with
  | zero =>
    intro p l hl hw hp0 hp1
    obtain ⟨r1, a1, b1, c1⟩ := pick_at h p 2 hp0 (by omega) (by decide)
    have e : wrap64 (12 + r1) = 12 + r1 := w64 (by omega) (by omega)
    refine ⟨l, p + 1, by omega, hw, by omega, by omega, fun k hk => ?_⟩
    obtain ⟨k, rfl⟩ : ∃ m, k = m + 1 := ⟨k - 1, by omega⟩
    simp only [spec_l15Rules.l1]
    refine bnd _ (c1 k (by omega)) ?_
    dsimp only
    rw [e, if_neg (by omega)]
  | succ d ih =>
    intro p l hl hw hp0 hp1
    obtain ⟨r1, a1, b1, c1⟩ := pick_at h p 2 hp0 (by omega) (by decide)
    have e : wrap64 (12 + r1) = 12 + r1 := w64 (by omega) (by omega)
    by_cases hlt : (l.length : Int) < 12 + r1
    · obtain ⟨a, b, c, d', e', f, hr, cr⟩ := rule_at h (p + 1) (by omega) (by omega)
      obtain ⟨r, q, h1, h2, h3, h4, h5⟩ := ih (p + 1 + 6) (l ++ [⟨a, b, c, d', e', f⟩]) (by rw [List.length_append, List.length_singleton]; omega) (wfR_snoc hw hr) (by omega) (by omega)
      refine ⟨r, q, h1, h2, by omega, by omega, fun k hk => ?_⟩
      obtain ⟨k, rfl⟩ : ∃ m, k = m + 1 := ⟨k - 1, by omega⟩
      simp only [spec_l15Rules.l1]
      refine bnd _ (c1 k (by omega)) ?_
      dsimp only
      rw [e, if_pos hlt]
      exact bnd _ (cr k (by omega)) ((if_pos (by omega)).trans (h5 k (by omega)))
    · refine ⟨l, p + 1, by omega, hw, by omega, by omega, fun k hk => ?_⟩
      obtain ⟨k, rfl⟩ : ∃ m, k = m + 1 := ⟨k - 1, by omega⟩
      simp only [spec_l15Rules.l1]
      refine bnd _ (c1 k (by omega)) ?_
      dsimp only
      rw [e, if_neg hlt]
theorem rules_l0 {xs : List Int} (h : Bytes xs) (d : Nat) : ∀ (p : Int) (l : List (S31)), l.length + d ≤ 7 → WfR l → 0 ≤ p → p + 6 * d ≤ 4000 →
    ∃ r q, r.length ≤ 13 ∧ WfR r ∧ p ≤ q ∧ q ≤ p + 6 * d + 100 ∧ ∀ k, d + 30 < k → spec_l15Rules.l0 k l (d : Int) xs p = some (r, q) := by
  induction d with
  | zero =>
    intro p l hl hw hp0 hp1
    obtain ⟨r1, a1, b1, c1⟩ := pick_at h p 16 hp0 (by omega) (by decide)
    by_cases h0 : r1 = 0
    · obtain ⟨r, q, h1, h2, h3, h4, h5⟩ := rules_l1 h (13 - l.length) (p + 1) l (by omega) hw (by omega) (by omega)
      refine ⟨r, q, h1, h2, by omega, by omega, fun k hk => ?_⟩
      obtain ⟨k, rfl⟩ : ∃ m, k = m + 1 := ⟨k - 1, by omega⟩
      simp only [spec_l15Rules.l0]
      rw [if_neg (by omega)]
      exact bnd _ (c1 k (by omega)) ((if_pos h0).trans (h5 k (by omega)))
    by_cases h1 : r1 = 1
    · refine ⟨l ++ [⟨256, 0, 0, 0, false, false⟩], p + 1, by rw [List.length_append, List.length_singleton]; omega, wfR_snoc hw ⟨by decide, by decide, by decide, by decide⟩, by omega, by omega, fun k hk => ?_⟩
      obtain ⟨k, rfl⟩ : ∃ m, k = m + 1 := ⟨k - 1, by omega⟩
      simp only [spec_l15Rules.l0]
      rw [if_neg (by omega)]
      exact bnd _ (c1 k (by omega)) ((if_neg h0).trans ((if_pos h1).trans (if_pos (by omega))))
    · refine ⟨l, p + 1, by omega, hw, by omega, by omega, fun k hk => ?_⟩
      obtain ⟨k, rfl⟩ : ∃ m, k = m + 1 := ⟨k - 1, by omega⟩
      simp only [spec_l15Rules.l0]
      rw [if_neg (by omega)]
      exact bnd _ (c1 k (by omega)) ((if_neg h0).trans (if_neg h1))
  | succ d ih =>
    intro p l hl hw hp0 hp1
    obtain ⟨a, b, c, d', e', f, hr, cr⟩ := rule_at h p (by omega) (by omega)
    obtain ⟨r, q, h1, h2, h3, h4, h5⟩ := ih (p + 6) (l ++ [⟨a, b, c, d', e', f⟩]) (by rw [List.length_append, List.length_singleton]; omega) (wfR_snoc hw hr) (by omega) (by omega)
    refine ⟨r, q, h1, h2, by omega, by omega, fun k hk => ?_⟩
    obtain ⟨k, rfl⟩ : ∃ m, k = m + 1 := ⟨k - 1, by omega⟩
    have e : wrap64 (((d + 1 : Nat) : Int) - 1) = (d : Int) := by rw [w64 (by omega) (by omega)]; omega
    simp only [spec_l15Rules.l0]
    rw [if_pos (by omega), e]
    exact bnd _ (cr k (by omega)) ((if_pos (by omega)).trans (h5 k (by omega)))
theorem rules_at {xs : List Int} (h : Bytes xs) (p : Int) (hp0 : 0 ≤ p) (hp1 : p ≤ 3000) : ∃ l q, l.length ≤ 13 ∧ WfR l ∧ p ≤ q ∧ q ≤ p + 200 ∧ ∀ k, 50 ≤ k → spec_l15Rules.f k xs p = some (l, q) := by
  obtain ⟨r1, a1, b1, c1⟩ := pick_at h p 8 hp0 (by omega) (by decide)
  obtain ⟨d, rfl⟩ := Int.eq_ofNat_of_zero_le a1
  obtain ⟨l, q, h1, h2, h3, h4, h5⟩ := rules_l0 h d (p + 1) [] (by rw [List.length_nil]; omega) (fun r hr => absurd hr (by simp)) (by omega) (by omega)
  refine ⟨l, q, h1, h2, by omega, by omega, fun k hk => ?_⟩
  unfold spec_l15Rules.f
  exact bnd _ (c1 k (by omega)) (h5 k (by omega))
theorem cmd_at {xs : List Int} (h : Bytes xs) (p : Int) (hp0 : 0 ≤ p) (hp1 : p ≤ 3000) : ∃ c0 c1 c2 c3 c4 s q, Wf4 c2 c0 c3 c4 ∧ p ≤ q ∧ q ≤ p + 100 ∧ ∀ k, 30 ≤ k → spec_l15Cmd.f k xs p = some (c0, c1, c2, c3, c4, s, q) := by
  obtain ⟨v1, m1, c1⟩ := one_in h p [0, 1, 7] (by decide) hp0 (by omega)
  obtain ⟨r2, a2, b2, c2⟩ := pick_at h (p + 1) 256 (by omega) (by omega) (by decide)
  obtain ⟨v3, m3, c3⟩ := one_in h (p + 1 + 1) [r2, 16383] (by simp) (by omega) (by omega)
  obtain ⟨v4, m4, c4⟩ := one_in h (p + 1 + 1 + 1) [1, 2, 255] (by decide) (by omega) (by omega)
  obtain ⟨v5, m5, c5⟩ := one_in h (p + 1 + 1 + 1 + 1) [8, 11, 17, 0, 255] (by decide) (by omega) (by omega)
  obtain ⟨r6, a6, b6, c6⟩ := pick_at h (p + 1 + 1 + 1 + 1 + 1) 6 (by omega) (by omega) (by decide)
  obtain ⟨t, q, ht, q0, q1, c7⟩ := text_at h (p + 1 + 1 + 1 + 1 + 1 + 1) 12 (by omega) (by omega) (by decide)
  obtain ⟨z, hz, c8⟩ := many_at (⟨#[122]⟩ : ByteArray) rfl 60 (by decide) (by decide)
  obtain ⟨r9, a9, b9, c9⟩ := pick_at h q 3 (by omega) (by omega) (by decide)
  refine ⟨v1, v3, v4, v5, r6, rdOf ByteArray.empty [t, z, (⟨#[0, 7]⟩ : ByteArray)] r9, q + 1, ?_, by omega, by omega, fun k hk => ?_⟩
  · simp only [List.mem_cons, List.not_mem_nil, or_false] at m1 m4 m5
    refine ⟨?_, ?_, ?_, ?_⟩ <;> omega
  · unfold spec_l15Cmd.f
    exact bnd _ (c1 k (by omega)) (bnd _ (c2 k (by omega)) (bnd _ (c3 k (by omega)) (bnd _ (c4 k (by omega)) (bnd _ (c5 k (by omega)) (bnd _ (c6 k (by omega)) (bnd _ (c7 k (by omega)) (bnd _ (c8 k (by omega)) (bnd _ rfl (bnd _ (c9 k (by omega)) ((if_pos a9).trans (if_pos (show r9 < (([t, z, (⟨#[0, 7]⟩ : ByteArray)] : List ByteArray).length : Int) from b9))))))))))))
theorem rd_wf {l : List (S31)} (h : WfR l) (i : Int) : Wf4 (rd_T31 l i).f0 (rd_T31 l i).f1 (rd_T31 l i).f2 (rd_T31 l i).f3 := by
  unfold rd_T31
  rw [List.getD_eq_getElem?_getD]
  cases hx : l[i.toNat]? with
  | none => exact ⟨by decide, by decide, by decide, by decide⟩
  | some x => exact h x (List.mem_of_getElem? hx)
theorem drawLet_j0 {xs : List Int} (h : Bytes xs) (p : Int) (hp0 : 0 ≤ p) (hp1 : p ≤ 3000) (l : List (S31)) (hl : l.length ≤ 13) (hw : WfR l) (b : Bool) (hb : b = true → 0 < l.length) (c0 c1 c2 c3 c4 : Int) (s : ByteArray) (hc : Wf4 c2 c0 c3 c4) :
    ∃ m d0 d1 d2 d3 d4 u, Wf4 d2 d0 d3 d4 ∧ ∀ k, 10 ≤ k → spec_DrawRulesLet.j0 k l b xs p c0 c1 c2 c3 c4 s = some (l, m, d0, d1, d2, d3, d4, u) := by
  cases b with
  | true =>
    have := hb rfl
    obtain ⟨r1, a1, b1, e1⟩ := pick_at h p (l.length : Int) hp0 (by omega) (by omega)
    obtain ⟨m, _, e2⟩ := one_in h (p + 1) [0, 1, 0, 1, 2] (by decide) (by omega) (by omega)
    refine ⟨m, _, 0, _, _, _, (⟨#[]⟩ : ByteArray), rd_wf hw r1, fun k hk => ?_⟩
    obtain ⟨k, rfl⟩ : ∃ m, k = m + 1 := ⟨k - 1, by omega⟩
    simp only [spec_DrawRulesLet.j0, if_true]
    exact bnd _ (e1 k (by omega)) ((if_pos a1).trans ((if_pos b1).trans (bnd _ (e2 k (by omega)) rfl)))
  | false =>
    obtain ⟨m, _, e2⟩ := one_in h p [0, 1, 0, 1, 2] (by decide) (by omega) (by omega)
    refine ⟨m, c0, c1, c2, c3, c4, s, hc, fun k hk => ?_⟩
    obtain ⟨k, rfl⟩ : ∃ m, k = m + 1 := ⟨k - 1, by omega⟩
    simp only [spec_DrawRulesLet.j0, Bool.false_eq_true, if_false]
    exact bnd _ (e2 k (by omega)) rfl
theorem drawLet (l : List Int) (hl : l.length ≤ 140737488351232) (hw : ∀ x ∈ l, (Lit.int .u8 x).wf = true) : ∃ r m d0 d1 d2 d3 d4 u, r.length ≤ 13 ∧ Wf4 d2 d0 d3 d4 ∧ ∀ k, 60 ≤ k → spec_DrawRulesLet.f k l = some (r, m, d0, d1, d2, d3, d4, u) := by
  obtain ⟨ho, hB⟩ := open_at l hl hw
  obtain ⟨r, q, hr, hwr, q0, q1, e1⟩ := rules_at hB 0 (by decide) (by decide)
  obtain ⟨c0, c1, c2, c3, c4, s, q2, hc, q20, q21, e2⟩ := cmd_at hB q (by omega) (by omega)
  by_cases hp : (r.length : Int) > 0
  · obtain ⟨r3, a3, b3, e3⟩ := pick_at hB q2 4 (by omega) (by omega) (by decide)
    obtain ⟨m, d0, d1, d2, d3, d4, u, hd, e4⟩ := drawLet_j0 hB (q2 + 1) (by omega) (by omega) r hr hwr (decide (r3 > 0)) (fun _ => by omega) c0 c1 c2 c3 c4 s hc
    refine ⟨r, m, d0, d1, d2, d3, d4, u, hr, hd, fun k hk => ?_⟩
    unfold spec_DrawRulesLet.f
    exact bnd _ ho (bnd _ (e1 k (by omega)) (bnd _ (e2 k (by omega)) ((if_pos hp).trans (bnd _ (e3 k (by omega)) (e4 k (by omega))))))
  · obtain ⟨m, d0, d1, d2, d3, d4, u, hd, e4⟩ := drawLet_j0 hB q2 (by omega) (by omega) r hr hwr false (fun h => absurd h (by decide)) c0 c1 c2 c3 c4 s hc
    refine ⟨r, m, d0, d1, d2, d3, d4, u, hr, hd, fun k hk => ?_⟩
    unfold spec_DrawRulesLet.f
    exact bnd _ ho (bnd _ (e1 k (by omega)) (bnd _ (e2 k (by omega)) ((if_neg hp).trans (e4 k (by omega)))))
theorem key_wf {a b c d : Int} (h : Wf4 a b c d) : HMap.KeyWf (a, b, c, d) := ⟨byte_wf h.1.1 h.1.2, byte_wf h.2.1.1 h.2.1.2, byte_wf h.2.2.1.1 h.2.2.1.2, byte_wf h.2.2.2.1 h.2.2.2.2⟩
theorem drawLess (l : List Int) (hl : l.length ≤ 140737488351232) (hw : ∀ x ∈ l, (Lit.int .u8 x).wf = true) : ∃ r, r.length ≤ 13 ∧ ∀ k, 60 ≤ k → spec_DrawRulesLess.f k l = some r := by
  obtain ⟨ho, hB⟩ := open_at l hl hw
  obtain ⟨r, q, hr, hwr, q0, q1, e1⟩ := rules_at hB 0 (by decide) (by decide)
  refine ⟨r, hr, fun k hk => ?_⟩
  unfold spec_DrawRulesLess.f
  exact bnd _ ho (bnd _ (e1 k (by omega)) rfl)
/-- What holds of every rule's key holds of every key of the book. -/
theorem book_keys (P : HMap.K4 → Prop) (l : List HBook.Rl) : (∀ y ∈ l, P (HBook.key y)) → ∀ y ∈ HBook.bookL l, P (HBook.key y) := by
  refine HRules.snoc_ind (P := fun l => (∀ y ∈ l, P (HBook.key y)) → ∀ y ∈ HBook.bookL l, P (HBook.key y)) (fun _ y hy => absurd hy (by simp [HBook.bookL])) (fun xs x ih => ?_) l
  intro h z hz
  have ih' := ih (fun y hy => h y (by simp [hy]))
  rw [HBook.bookL_snoc] at hz
  by_cases hs : (x.f4 || x.f5) = true
  · rw [if_pos hs] at hz
    rcases HBook.addL_cases (HBook.bookL xs) x with ⟨_, e⟩ | ⟨i, y, hy, _, e⟩
    · rw [e] at hz
      rcases List.mem_append.1 hz with hz | hz
      · exact ih' z hz
      · rw [List.mem_singleton.1 hz]
        exact h x (by simp)
    · rw [e] at hz
      rcases List.mem_or_eq_of_mem_set hz with hz | rfl
      · exact ih' z hz
      · exact ih' y (List.mem_of_getElem? hy)
  · rw [if_neg hs] at hz
    exact ih' z hz
def okK (k : HMap.K4) : Prop := (0 ≤ k.1 ∧ k.1 ≤ 255) ∧ (0 ≤ k.2.1 ∧ k.2.1 ≤ 2047) ∧ (0 ≤ k.2.2.1 ∧ k.2.2.1 ≤ 255) ∧ (0 ≤ k.2.2.2 ∧ k.2.2.2 ≤ 255)
theorem okr_of (y : HBook.Rl) (h : okK (HBook.key y)) : okr (impl_RulesLess.of y) = true := by
  obtain ⟨h0, h1, h2, h3⟩ := h
  unfold okr
  rw [Bool.and_eq_true, Bool.and_eq_true, Bool.and_eq_true]
  exact ⟨decide_eq_true h0, decide_eq_true h1, decide_eq_true h2, decide_eq_true h3⟩
theorem to_of (l : List HBook.Rl) : (l.map impl_RulesLess.of).map impl_RulesLess.to = l := by
  rw [List.map_map]
  exact List.map_id'' (fun _ => rfl) l
theorem ok_less (l : List (S31)) : rulesOk (less l) = true := by
  cases h : rulesOk l with
  | false =>
    unfold less
    rw [h, if_neg (by decide)]
    rfl
  | true =>
    have hlen := less_length l
    have hall : (less l).all okr = true := by
      unfold less
      rw [if_pos h, List.all_map, List.all_eq_true]
      intro y hy
      refine okr_of y (book_keys okK _ ?_ y hy)
      intro z hz
      obtain ⟨r, hr, rfl⟩ := List.mem_map.1 hz
      exact (rulesOk_true h).2 r hr
    unfold rulesOk
    rw [hall, decide_eq_true (by omega)]
    rfl
theorem less_pos {l : List (S31)} (h : rulesOk l = true) : less l = (HBook.bookL (l.map impl_RulesLess.to)).map impl_RulesLess.of := by
  unfold less
  rw [if_pos h]
theorem less_less (l : List (S31)) : less (less l) = less l := by
  have h2 := ok_less l
  cases h : rulesOk l with
  | false =>
    have e : less l = [] := by
      unfold less
      rw [h, if_neg (by decide)]
    rw [e]
    unfold less
    split <;> rfl
  | true =>
    rw [less_pos h2, less_pos h, to_of, HRules.book_book _ (wf_all h)]
theorem less_parts (l : List (S31)) : (((less l).map impl_RulesLess.to).map HBook.key).Nodup ∧ ∀ r ∈ less l, (r.f4 || r.f5) = true := by
  unfold less
  split
  · rename_i h
    rw [to_of]
    refine ⟨(HBook.good_book _ (wf_all h)).2.2, fun r hr => ?_⟩
    obtain ⟨y, hy, rfl⟩ := List.mem_map.1 hr
    exact HRules.says_book _ y hy
  · exact ⟨by simp, fun r hr => absurd hr (by simp)⟩
theorem let_less (l : List (S31)) (mode : Int) (k : HMap.K4) (h : rulesOk l = true) : rulesLet (less l) mode k = rulesLet l mode k := by
  unfold rulesLet
  rw [ok_less, h, Bool.true_and, Bool.true_and, ← any_to, ← any_to]
  have e : (less l).map impl_RulesLet.to = HBook.bookL (l.map impl_RulesLet.to) := by
    unfold less
    rw [if_pos h]
    exact to_of _
  rw [e, HRules.hit_book]
/-- No two rules of a list are of one key. -/
def Apart (xs : List (S31)) : Prop := ∀ i j (hi : i < xs.length) (hj : j < i), ¬ ((xs[j]'(by omega)).f0 = xs[i].f0 ∧ (xs[j]'(by omega)).f1 = xs[i].f1 ∧ (xs[j]'(by omega)).f2 = xs[i].f2 ∧ (xs[j]'(by omega)).f3 = xs[i].f3)
theorem apart_less (l : List (S31)) : Apart (less l) := by
  intro i j hi hj h
  have hn := (less_parts l).1
  rw [List.map_map] at hn
  have hne := (List.pairwise_iff_getElem.1 hn) j i (by rw [List.length_map]; omega) (by rw [List.length_map]; exact hi) hj
  apply hne
  rw [List.getElem_map, List.getElem_map]
  obtain ⟨h0, h1, h2, h3⟩ := h
  simp only [Function.comp, impl_RulesLess.to, HBook.key, h0, h1, h2, h3]
theorem keys_l1 (x1 : List Int) (r xs : List (S31)) (i K : Nat) (hl : xs.length ≤ 1000) (hi : i < xs.length) (ha : Apart xs)
    (hn : ∀ k, K ≤ k → laws_FnRulesLess.l0 k x1 r xs xs ((i + 1 : Nat) : Int) = some true) (d : Nat) : ∀ (j k : Nat), j + d = i → K + d < k →
    laws_FnRulesLess.l1 k x1 r xs xs (i : Int) (j : Int) = some true := by
  induction d with
  | zero =>
    intro j k hj hk
    obtain ⟨k, rfl⟩ : ∃ m, k = m + 1 := ⟨k - 1, by omega⟩
    simp only [laws_FnRulesLess.l1]
    rw [if_neg (by omega), up (by omega)]
    exact hn k (by omega)
  | succ d ih =>
    intro j k hj hk
    obtain ⟨k, rfl⟩ : ∃ m, k = m + 1 := ⟨k - 1, by omega⟩
    have hji : j < i := by omega
    have hjl : j < xs.length := by omega
    have h := ih (j + 1) k (by omega) (by omega)
    have hne := ha i j hi hji
    simp only [laws_FnRulesLess.l1]
    rw [if_pos (by omega), if_pos (by omega), if_pos (by omega), if_pos (by omega), if_pos (by omega), rdB_at _ _ hi, rdB_at _ _ hjl, up (show j < 9223372036854775807 by omega)]
    by_cases h0 : xs[j].f0 = xs[i].f0
    · by_cases h1 : xs[j].f1 = xs[i].f1
      · by_cases h2 : xs[j].f2 = xs[i].f2
        · by_cases h3 : xs[j].f3 = xs[i].f3
          · exact absurd ⟨h0, h1, h2, h3⟩ hne
          · rw [if_pos h0, if_pos h1, if_pos h2, if_neg h3]
            exact h
        · rw [if_pos h0, if_pos h1, if_neg h2]
          exact h
      · rw [if_pos h0, if_neg h1]
        exact h
    · rw [if_neg h0]
      exact h
theorem end_at (x1 : List Int) (hx1 : x1.length ≤ 140737488351232) (hw1 : ∀ x ∈ x1, (Lit.int .u8 x).wf = true) (r : List (S31)) (hr : r.length ≤ 1000) (k : Nat) (hk : 2000 < k) :
    laws_FnRulesLess.l0 k x1 r (less r) (less r) ((less r).length : Int) = some true := by
  obtain ⟨k, rfl⟩ : ∃ m, k = m + 1 := ⟨k - 1, by omega⟩
  have hl := less_length r
  obtain ⟨y, m, d0, d1, d2, d3, d4, u, hy, hd, e1⟩ := drawLet x1 hx1 hw1
  have e2 := implLess_at k (less r) (by omega) (by omega)
  have e3 := specRulesOk_at k r (by omega) (by omega)
  have e4 := implLet_at k (less r) m d0 d1 d2 d3 d4 u (by omega) (by omega) (key_wf hd)
  have e5 := implLet_at k r m d0 d1 d2 d3 d4 u (by omega) (by omega) (key_wf hd)
  rw [less_less] at e2
  simp only [laws_FnRulesLess.l0]
  rw [if_neg (by omega)]
  refine bnd _ (e1 k (by omega)) (bnd _ e2 (bnd _ e3 ?_))
  cases h : rulesOk r with
  | false =>
    rw [if_neg (by decide), beq_self_eq_true]
  | true =>
    rw [let_less r m _ h] at e4
    rw [if_pos rfl]
    refine bnd _ e4 (bnd _ e5 ?_)
    rw [beq_self_eq_true, if_pos rfl, beq_self_eq_true]
theorem each_l0 (x1 : List Int) (hx1 : x1.length ≤ 140737488351232) (hw1 : ∀ x ∈ x1, (Lit.int .u8 x).wf = true) (r : List (S31)) (hr : r.length ≤ 1000) (d : Nat) : ∀ (i k : Nat), i + d = (less r).length → 2001 + 20 * d < k →
    laws_FnRulesLess.l0 k x1 r (less r) (less r) (i : Int) = some true := by
  have hl := less_length r
  have hap := apart_less r
  have hsays := (less_parts r).2
  induction d with
  | zero =>
    intro i k hi hk
    obtain rfl : i = (less r).length := by omega
    exact end_at x1 hx1 hw1 r hr k (by omega)
  | succ d ih =>
    intro i k hi hk
    obtain ⟨k, rfl⟩ : ∃ m, k = m + 2 := ⟨k - 2, by omega⟩
    have hil : i < (less r).length := by omega
    have hs := hsays _ (List.getElem_mem hil)
    have hgo : laws_FnRulesLess.j2 (k + 1) x1 r (less r) (less r) (i : Int) false = some true := by
      simp only [laws_FnRulesLess.j2, Bool.false_eq_true, if_false]
      exact keys_l1 x1 r (less r) i (2002 + 20 * d) (by omega) hil hap (fun k2 hk2 => ih (i + 1) k2 (by omega) (by omega)) i 0 k (by omega) (by omega)
    simp only [laws_FnRulesLess.l0]
    rw [if_pos (by omega), if_pos (by omega), if_pos (by omega), rdB_at _ _ hil]
    simp only [beq_self_eq_true, Bool.not_true, Bool.or_false, Bool.false_eq_true, if_false]
    cases h4 : (less r)[i].f4 with
    | true =>
      rw [if_pos rfl]
      exact hgo
    | false =>
      rw [h4, Bool.false_or] at hs
      rw [if_neg (by decide), hs]
      exact hgo
theorem tail_at (l l1 : List Int) (hl : l.length ≤ 140737488351232) (hw : ∀ x ∈ l, (Lit.int .u8 x).wf = true) (hl1 : l1.length ≤ 140737488351232) (hw1 : ∀ x ∈ l1, (Lit.int .u8 x).wf = true) : ∃ k, laws_FnRulesLess.j0 k l l1 false = some true := by
  obtain ⟨r, hr, e1⟩ := drawLess l hl hw
  have hlen := less_length r
  have e2 := implLess_at 4000 r (by omega) (by omega)
  have e3 := specLess_at 4000 r (by omega) (by omega)
  refine ⟨4001, ?_⟩
  simp only [laws_FnRulesLess.j0, Bool.false_eq_true, if_false]
  refine bnd _ (e1 4000 (by omega)) (bnd _ e2 (bnd _ e3 ((if_pos rfl).trans ?_)))
  exact each_l0 l1 hl1 hw1 r (by omega) (less r).length 0 4000 (by omega) (by omega)
end FnRulesLessL
open FnRulesLessL

theorem FnRulesLess : laws_FnRulesLess.Pure := by
  intro l l1 hl _ hw hl1 _ hw1
  unfold maxLen at hl hl1
  by_cases hbig : (l.length : Int) > 1048576
  · refine ⟨1, (if_pos hbig).trans ?_⟩
    simp only [laws_FnRulesLess.j0, if_true]
  by_cases hbig1 : (l1.length : Int) > 1048576
  · refine ⟨1, (if_neg hbig).trans ?_⟩
    rw [decide_eq_true hbig1]
    simp only [laws_FnRulesLess.j0, if_true]
  obtain ⟨k, hk⟩ := tail_at l l1 (by omega) hw (by omega) hw1
  refine ⟨k, (if_neg hbig).trans ?_⟩
  rw [decide_eq_false hbig1]
  exact hk

end Go.Proofs.Ytnadkhgdeofheaa.Pure
