/- The book of rules in plain lists: what it lets, made twice. No walk. -/
import Derived.Test.YtnadkhgdeofheaaHBook4
namespace Go.Proofs.Ytnadkhgdeofheaa.HRules
open Go Go.RowKit Go.Proofs.Ytnadkhgdeofheaa.HMap Go.Proofs.Ytnadkhgdeofheaa.HBook
set_option linter.unusedVariables false
set_option linter.unusedSimpArgs false
/-- Does a rule let in a mode? -/
def lets (mode : Int) (y : Rl) : Bool := if mode = 0 then y.f4 else if mode = 1 then y.f5 else false
def hit (mode : Int) (k : K4) (y : Rl) : Bool := decide (key y = k) && lets mode y
theorem lets_merge (mode : Int) (y x : Rl) : lets mode (merge y x) = (lets mode y || lets mode x) := by
  unfold lets merge
  by_cases h0 : mode = 0
  · simp [h0]
  · by_cases h1 : mode = 1
    · simp [h1]
    · simp [h0, h1]
theorem lets_none {mode : Int} {x : Rl} (h : ¬ (x.f4 || x.f5) = true) : lets mode x = false := by
  unfold lets
  cases h4 : x.f4 <;> cases h5 : x.f5 <;> simp [h4, h5] at h ⊢
theorem hit_merge (mode : Int) (k : K4) (y x : Rl) (h : key y = key x) : hit mode k (merge y x) = (hit mode k y || hit mode k x) := by
  unfold hit
  rw [lets_merge, show key (merge y x) = key y from rfl, h]
  cases decide (key x = k) <;> simp
theorem any_set (p : Rl → Bool) (y z : Rl) (b : Bool) (hz : p z = (p y || b)) : ∀ (xs : List Rl) (i : Nat), xs[i]? = some y → (xs.set i z).any p = (xs.any p || b) := by
  intro xs
  induction xs with
  | nil => intro i h; simp at h
  | cons x xs ih =>
    intro i h
    cases i with
    | zero =>
      obtain rfl : x = y := by simpa using h
      rw [List.set_cons_zero, List.any_cons, List.any_cons, hz]
      cases p x <;> cases b <;> cases xs.any p <;> rfl
    | succ i =>
      rw [List.set_cons_succ, List.any_cons, List.any_cons, ih i (by simpa using h), Bool.or_assoc]
theorem hit_add (mode : Int) (k : K4) (xs : List Rl) (x : Rl) : (addL xs x).any (hit mode k) = (xs.any (hit mode k) || hit mode k x) := by
  rcases addL_cases xs x with ⟨_, e⟩ | ⟨i, y, hy, hk, e⟩
  · rw [e, List.any_append]
    simp
  · rw [e]
    exact any_set _ y _ _ (hit_merge mode k y x hk) xs i hy
theorem snoc_ind {α : Type} {P : List α → Prop} (h0 : P []) (h1 : ∀ xs x, P xs → P (xs ++ [x])) (l : List α) : P l := by
  induction h : l.length generalizing l with
  | zero =>
    rw [List.length_eq_zero_iff.1 h]
    exact h0
  | succ n ih =>
    have hne : l ≠ [] := by
      rintro rfl
      simp at h
    obtain ⟨xs, x, rfl⟩ : ∃ xs x, l = xs ++ [x] := ⟨_, _, (List.dropLast_concat_getLast hne).symm⟩
    rw [List.length_append, List.length_singleton] at h
    exact h1 xs x (ih xs (by omega))
theorem hit_book (mode : Int) (k : K4) (l : List Rl) : (bookL l).any (hit mode k) = l.any (hit mode k) := by
  refine snoc_ind (P := fun l => (bookL l).any (hit mode k) = l.any (hit mode k)) rfl (fun xs x ih => ?_) l
  rw [bookL_snoc, List.any_append, List.any_cons, List.any_nil, Bool.or_false]
  by_cases h : (x.f4 || x.f5) = true
  · rw [if_pos h, hit_add, ih]
  · rw [if_neg h, ih, show hit mode k x = false from by unfold hit; rw [lets_none h, Bool.and_false], Bool.or_false]
theorem letL_any (mode : Int) (k : K4) : ∀ xs : List Rl, (xs.map key).Nodup → letL xs mode k = xs.any (hit mode k) := by
  intro xs
  induction xs with
  | nil => intro _; rfl
  | cons x xs ih =>
    intro hn
    rw [List.map_cons, List.nodup_cons] at hn
    by_cases h : key x = k
    · have hx : letL (x :: xs) mode k = lets mode x := by
        unfold letL lets
        rw [List.find?_cons_of_pos (by exact decide_eq_true h)]
      have hno : xs.any (hit mode k) = false := by
        rw [List.any_eq_false]
        intro y hy
        unfold hit
        rw [decide_eq_false (fun e => hn.1 (List.mem_map.2 ⟨y, hy, e.trans h.symm⟩)), Bool.false_and]
        decide
      rw [hx, List.any_cons, hno, Bool.or_false, hit, decide_eq_true h, Bool.true_and]
    · have hx : letL (x :: xs) mode k = letL xs mode k := by
        unfold letL
        rw [List.find?_cons_of_neg (by rw [decide_eq_false h]; decide)]
      rw [hx, ih hn.2, List.any_cons, hit, decide_eq_false h, Bool.false_and, Bool.false_or]
/-- What a book lets is what some rule of the list lets. -/
theorem let_book (mode : Int) (k : K4) (l : List Rl) (hw : ∀ y ∈ l, RuleWf y) : letL (bookL l) mode k = l.any (hit mode k) := by
  rw [letL_any mode k _ (good_book l hw).2.2, hit_book]
/-- Each rule of a book says something. -/
theorem says_book (l : List Rl) : ∀ y ∈ bookL l, (y.f4 || y.f5) = true := by
  refine snoc_ind (P := fun l => ∀ y ∈ bookL l, (y.f4 || y.f5) = true) (fun y hy => absurd hy (by simp [bookL])) (fun xs x ih => ?_) l
  intro z hz
  rw [bookL_snoc] at hz
  by_cases h : (x.f4 || x.f5) = true
  · rw [if_pos h] at hz
    rcases addL_cases (bookL xs) x with ⟨_, e⟩ | ⟨i, y, hy, _, e⟩
    · rw [e] at hz
      rcases List.mem_append.1 hz with hz | hz
      · exact ih z hz
      · rw [List.mem_singleton.1 hz]
        exact h
    · rw [e] at hz
      rcases List.mem_or_eq_of_mem_set hz with hz | rfl
      · exact ih z hz
      · have := ih y (List.mem_of_getElem? hy)
        unfold merge
        dsimp only
        cases h4 : y.f4 <;> cases h5 : y.f5 <;> cases x.f4 <;> cases x.f5 <;> simp [h4, h5] at this ⊢
  · rw [if_neg h] at hz
    exact ih z hz
/-- A book of rules that are a book. -/
theorem book_self (l : List Rl) : (l.map key).Nodup → (∀ y ∈ l, (y.f4 || y.f5) = true) → bookL l = l := by
  refine snoc_ind (P := fun l => (l.map key).Nodup → (∀ y ∈ l, (y.f4 || y.f5) = true) → bookL l = l) (fun _ _ => rfl) (fun xs x ih => ?_) l
  intro hn hs
  rw [List.map_append, List.nodup_append] at hn
  rw [bookL_snoc, if_pos (hs x (by simp)), ih hn.1 (fun y hy => hs y (by simp [hy]))]
  rcases addL_cases xs x with ⟨_, e⟩ | ⟨i, y, hy, hk, e⟩
  · exact e
  · exact absurd rfl (hn.2.2 (key y) (List.mem_map.2 ⟨y, List.mem_of_getElem? hy, rfl⟩) (key y) (by simp [hk]))
theorem book_book (l : List Rl) (hw : ∀ y ∈ l, RuleWf y) : bookL (bookL l) = bookL l := book_self _ (good_book l hw).2.2 (says_book l)
end Go.Proofs.Ytnadkhgdeofheaa.HRules
