/- FnExactFopFirst: the program's FopFirst and the reference's answer alike and leave what they are handed alone. No conditions but that the numbers are ints and the texts are such as a machine holds. -/
import Derived.Test.YtclhopldchndiaaPFnExactFopFirstx3
import Derived.Test.YtclhopldchndiaaAux
namespace Go.Proofs.Ytclhopldchndiaa.Pure
open Go Go.RowKit Go.Proofs.Ytclhopldchndiaa.PFnExactFopFirst Go.Proofs.YtclhopldchndiaaW.PrintWords Go.Proofs.YtclhopldchndiaaW.PrintLast Go.Proofs.YtclhopldchndiaaW.PrintMore Go.Proofs.Ytclhopldchndiaa.Aux

namespace FnExactFopFirstL
theorem l1In_at (a b c : Int) : spec_l1In.f a b c = some (decide (b ≤ a ∧ a ≤ c)) := by
  unfold spec_l1In.f
  by_cases h : b ≤ a
  · rw [if_pos h]
    simp [h]
  · rw [if_neg h]
    simp [h]
theorem within_at (a c : Int) : impl_within.f a c = some (decide (0 ≤ a ∧ a ≤ c)) := by
  unfold impl_within.f
  by_cases h : 0 ≤ a
  · rw [if_pos h]
    simp [h]
  · rw [if_neg h]
    simp [h]
theorem frameDataOk_at (s : ByteArray) : impl_frameDataOk.f s = some (decide (1 ≤ (s.size : Int) ∧ (s.size : Int) ≤ 53)) := by
  unfold impl_frameDataOk.f
  by_cases h : 1 ≤ (s.size : Int)
  · rw [if_pos h]
    simp [h]
  · rw [if_neg h]
    simp [h]
theorem up {i : Nat} (h : i < 9223372036854775807) : wrap64 ((i : Int) + 1) = ((i + 1 : Nat) : Int) := by
  rw [w64 (by omega) (by omega)]
  omega
theorem rdOf_at {α : Type} (d : α) (l : List α) (i : Nat) (h : i < l.length) : rdOf d l (i : Int) = l[i] := by
  unfold rdOf
  rw [Int.toNat_natCast, List.getD_eq_getElem?_getD, List.getElem?_eq_getElem h]
  rfl
/-- A list that is filled from its begin on. -/
theorem fill_take {α : Type} (l ys : List α) (i : Nat) (hi : i < l.length) (hl : ys.length = l.length) (h : ys.take i = l.take i) : (ys.set i l[i]).take (i + 1) = l.take (i + 1) := by
  have h1 : i < (ys.set i l[i]).length := by rw [List.length_set]; omega
  rw [List.take_succ_eq_append_getElem h1, List.take_succ_eq_append_getElem hi, List.getElem_set_self, List.take_set_of_le (Nat.le_refl _), h]
theorem szStringS_l0 (d : Nat) : ∀ (i : Nat) (l : List ByteArray) (x : Int), l.length ≤ 9223372036854775807 → (∀ a ∈ l, a.size ≤ 9223372036854775807) → i + d = l.length → 0 ≤ x → x ≤ 1048576 →
    ∃ t, t ≤ 1048576 ∧ ∀ j, d < j → laws_szStringS.l0 j l x (i : Int) = some t := by
  induction d with
  | zero =>
    intro i l x hl hg hi h0 h1
    refine ⟨x, h1, fun j hj => ?_⟩
    obtain ⟨j, rfl⟩ : ∃ m, j = m + 1 := ⟨j - 1, by omega⟩
    simp only [laws_szStringS.l0]
    rw [if_neg (by omega)]
  | succ d ih =>
    intro i l x hl hg hi h0 h1
    have hil : i < l.length := by omega
    have hs := hg _ (List.getElem_mem hil)
    by_cases h : x - (l[i].size : Int) < 0
    · refine ⟨-1, by omega, fun j hj => ?_⟩
      obtain ⟨j, rfl⟩ : ∃ m, j = m + 1 := ⟨j - 1, by omega⟩
      simp only [laws_szStringS.l0]
      rw [if_pos (by omega), if_pos (by omega), rdOf_at _ _ _ hil, w64 (by omega) (by omega), if_pos h]
    · obtain ⟨t, ht, hj⟩ := ih (i + 1) l (x - (l[i].size : Int)) hl hg (by omega) (by omega) (by omega)
      refine ⟨t, ht, fun j hk => ?_⟩
      obtain ⟨j, rfl⟩ : ∃ m, j = m + 1 := ⟨j - 1, by omega⟩
      simp only [laws_szStringS.l0]
      rw [if_pos (by omega), if_pos (by omega), rdOf_at _ _ _ hil, w64 (by omega) (by omega), if_neg h, up (by omega)]
      exact hj j (by omega)
theorem szStringS_at (l : List ByteArray) (hl : l.length ≤ 9223372036854775807) (hg : ∀ a ∈ l, a.size ≤ 9223372036854775807) :
    ∃ t, t ≤ 1048576 ∧ (0 ≤ t → l.length ≤ 1048576) ∧ ∀ k, l.length < k → laws_szStringS.f k l 1048576 = some t := by
  by_cases h : (1048576 : Int) - (l.length : Int) < 0
  · refine ⟨-1, by omega, by omega, fun k _ => ?_⟩
    unfold laws_szStringS.f
    rw [w64 (by omega) (by omega), if_pos h]
  · obtain ⟨t, ht, hj⟩ := szStringS_l0 l.length 0 l (1048576 - (l.length : Int)) hl hg (by omega) (by omega) (by omega)
    refine ⟨t, ht, fun _ => by omega, fun k hk => ?_⟩
    unfold laws_szStringS.f
    rw [w64 (by omega) (by omega), if_neg h]
    exact hj k hk
theorem toStringS_l0 (d : Nat) : ∀ (k i : Nat) (l ys : List ByteArray), d < k → l.length ≤ 1048576 → i + d = l.length → ys.length = l.length → ys.take i = l.take i →
    laws_toStringS.l0 k l ys (i : Int) = some l := by
  induction d with
  | zero =>
    intro k i l ys hk hl hi hy ht
    obtain ⟨k, rfl⟩ : ∃ m, k = m + 1 := ⟨k - 1, by omega⟩
    simp only [laws_toStringS.l0]
    rw [if_neg (by omega)]
    rw [List.take_of_length_le (by omega), List.take_of_length_le (by omega)] at ht
    rw [ht]
  | succ d ih =>
    intro k i l ys hk hl hi hy ht
    obtain ⟨k, rfl⟩ : ∃ m, k = m + 1 := ⟨k - 1, by omega⟩
    have hil : i < l.length := by omega
    simp only [laws_toStringS.l0]
    rw [if_pos (by omega), if_pos (by omega), if_pos (by omega), rdOf_at _ _ _ hil, Int.toNat_natCast, up (by omega)]
    exact ih k (i + 1) l _ (by omega) hl (by omega) (by rw [List.length_set, hy]) (fill_take l ys i hil hy ht)
theorem toStringS_at (k : Nat) (l : List ByteArray) (hk : l.length < k) (hl : l.length ≤ 1048576) : laws_toStringS.f k l = some l := by
  unfold laws_toStringS.f
  rw [if_pos (by omega), if_pos (by omega)]
  exact toStringS_l0 l.length k 0 l _ hk hl (by omega) (by rw [List.length_replicate, Int.toNat_natCast]) rfl
theorem eqStringS_l0 (d : Nat) : ∀ (k i : Nat) (l : List ByteArray), d < k → l.length ≤ 9223372036854775807 → i + d = l.length → laws_eqStringS.l0 k l l (i : Int) = some true := by
  induction d with
  | zero =>
    intro k i l hk hl hi
    obtain ⟨k, rfl⟩ : ∃ m, k = m + 1 := ⟨k - 1, by omega⟩
    simp only [laws_eqStringS.l0]
    rw [if_neg (by omega)]
  | succ d ih =>
    intro k i l hk hl hi
    obtain ⟨k, rfl⟩ : ∃ m, k = m + 1 := ⟨k - 1, by omega⟩
    simp only [laws_eqStringS.l0]
    rw [if_pos (by omega), if_pos (by omega), if_pos (by omega), if_pos trivial, up (by omega)]
    exact ih k (i + 1) l (by omega) hl (by omega)
theorem eqStringS_at (k : Nat) (l : List ByteArray) (hk : l.length < k) (hl : l.length ≤ 9223372036854775807) : laws_eqStringS.f k l l = some true := by
  unfold laws_eqStringS.f
  rw [if_pos rfl]
  exact eqStringS_l0 l.length k 0 l hk hl (by omega)
/-- May a text be data of a frame? -/
def okd (s : ByteArray) : Bool := decide (1 ≤ (s.size : Int) ∧ (s.size : Int) ≤ 53)
/-- FopOk's answer. -/
def fopOk (c v n : Int) (l : List ByteArray) : Bool := l.all okd && (decide (0 ≤ c ∧ c ≤ 1023) && (decide (0 ≤ v ∧ v ≤ 63) && (decide (0 ≤ n ∧ n ≤ 255) && decide ((l.length : Int) ≤ 4))))
theorem specFopOk_l0 (d : Nat) : ∀ (k i : Nat) (c v n : Int) (l : List ByteArray) (sh : Bool), d < k → l.length ≤ 9223372036854775807 → i + d = l.length →
    spec_FopOk.l0 k (i : Int) c v n l sh = some ((l.drop i).all okd && (decide (0 ≤ c ∧ c ≤ 1023) && (decide (0 ≤ v ∧ v ≤ 63) && (decide (0 ≤ n ∧ n ≤ 255) && decide ((l.length : Int) ≤ 4))))) := by
  induction d with
  | zero =>
    intro k i c v n l sh hk hl hi
    obtain ⟨k, rfl⟩ : ∃ m, k = m + 1 := ⟨k - 1, by omega⟩
    simp only [spec_FopOk.l0, l1In_at, Option.bind_some]
    rw [if_neg (by omega), List.drop_eq_nil_of_le (by omega)]
    generalize decide (0 ≤ c ∧ c ≤ 1023) = b1
    generalize decide (0 ≤ v ∧ v ≤ 63) = b2
    generalize decide (0 ≤ n ∧ n ≤ 255) = b3
    cases b1 <;> cases b2 <;> cases b3 <;> simp
  | succ d ih =>
    intro k i c v n l sh hk hl hi
    obtain ⟨k, rfl⟩ : ∃ m, k = m + 1 := ⟨k - 1, by omega⟩
    have hil : i < l.length := by omega
    simp only [spec_FopOk.l0, l1In_at, Option.bind_some]
    rw [if_pos (by omega), if_pos (by omega), rdOf_at _ _ _ hil, List.drop_eq_getElem_cons hil, List.all_cons]
    change (if okd l[i] = true then _ else _) = _
    cases h : okd l[i] with
    | false => simp
    | true =>
      rw [if_pos rfl, up (by omega), ih k (i + 1) c v n l sh (by omega) hl (by omega)]
      simp
theorem specFopOk_at (k : Nat) (c v n : Int) (l : List ByteArray) (sh : Bool) (hk : l.length < k) (hl : l.length ≤ 9223372036854775807) : spec_FopOk.f k c v n l sh = some (fopOk c v n l) := by
  unfold spec_FopOk.f fopOk
  exact specFopOk_l0 l.length k 0 c v n l sh hk hl (by omega)
theorem implFopOk_l0 (d : Nat) : ∀ (k i : Nat) (l : List ByteArray), d < k → l.length ≤ 9223372036854775807 → i + d = l.length →
    impl_FopOk.l0 k l (l.length : Int) (i : Int) = some ((l.drop i).all okd) := by
  induction d with
  | zero =>
    intro k i l hk hl hi
    obtain ⟨k, rfl⟩ : ∃ m, k = m + 1 := ⟨k - 1, by omega⟩
    simp only [impl_FopOk.l0]
    rw [if_neg (by omega), List.drop_eq_nil_of_le (by omega)]
    rfl
  | succ d ih =>
    intro k i l hk hl hi
    obtain ⟨k, rfl⟩ : ∃ m, k = m + 1 := ⟨k - 1, by omega⟩
    have hil : i < l.length := by omega
    simp only [impl_FopOk.l0, frameDataOk_at, Option.bind_some]
    rw [if_pos (by omega), if_pos (by omega), if_pos (by omega), rdOf_at _ _ _ hil, List.drop_eq_getElem_cons hil, List.all_cons]
    change (if okd l[i] = true then _ else _) = _
    cases h : okd l[i] with
    | false => simp
    | true =>
      rw [if_pos rfl, up (by omega), ih k (i + 1) l (by omega) hl (by omega)]
      simp
theorem implFopOk_at (k : Nat) (c v n : Int) (l : List ByteArray) (sh : Bool) (hk : l.length + 1 < k) (hl : l.length ≤ 9223372036854775807) : impl_FopOk.f k c v n l sh = some (fopOk c v n l) := by
  obtain ⟨k, rfl⟩ : ∃ m, k = m + 1 := ⟨k - 1, by omega⟩
  have h0 := implFopOk_l0 l.length k 0 l (by omega) hl (by omega)
  have h1 : impl_FopOk.l0 k l (l.length : Int) 0 = some (l.all okd) := h0
  have e : decide ((l.length : Int) ≤ 4) = !decide ((l.length : Int) > 4) := by
    by_cases h : (l.length : Int) ≤ 4
    · rw [decide_eq_true h, decide_eq_false (by omega)]; rfl
    · rw [decide_eq_false h, decide_eq_true (by omega)]; rfl
  simp only [impl_FopOk.f, within_at, Option.bind_some, fopOk, impl_FopOk.j0, h1, e]
  generalize decide (0 ≤ c ∧ c ≤ 1023) = b1
  generalize decide (0 ≤ v ∧ v ≤ 63) = b2
  generalize decide (0 ≤ n ∧ n ≤ 255) = b3
  generalize decide ((l.length : Int) > 4) = b4
  generalize l.all okd = b5
  cases b1 <;> cases b2 <;> cases b3 <;> cases b4 <;> cases b5 <;> rfl
theorem fopOk_of {c v n : Int} {l : List ByteArray} (h : fopOk c v n l = true) : 0 ≤ n ∧ n ≤ 255 ∧ l.length ≤ 4 ∧ 0 ≤ c ∧ c ≤ 1023 ∧ 0 ≤ v ∧ v ≤ 63 ∧ l.all okd = true := by
  simp only [fopOk, Bool.and_eq_true, decide_eq_true_eq] at h
  obtain ⟨h1, h2, h3, h4, h5⟩ := h
  exact ⟨h4.1, h4.2, by omega, h2.1, h2.2, h3.1, h3.2, h1⟩
theorem implFirst_num {n : Int} {m : Nat} (h0 : 0 ≤ n) (h1 : n ≤ 255) (hm : m ≤ 4) : impl_goesRound_plus.f n (wrap64 (-(m : Int))) = some ((n - m + 256) % 256) := by
  unfold impl_goesRound_plus.f
  rw [w64 (x := -(m : Int)) (by omega) (by omega), Int.neg_tmod, tmodp (a := (m : Int)) (by omega), w64 (x := n + -((m : Int) % 256)) (by omega) (by omega), w64 (x := n + -((m : Int) % 256) + 256) (by omega) (by omega), tmodp (by omega)]
  congr 1
  omega
theorem specFirst_num {n : Int} {m : Nat} (h0 : 0 ≤ n) (h1 : n ≤ 255) (hm : m ≤ 4) : spec_l4Mod.f (wrap64 (n - (m : Int))) = some ((n - m + 256) % 256) := by
  unfold spec_l4Mod.f
  rw [w64 (x := n - (m : Int)) (by omega) (by omega), w64 (x := n - (m : Int) + 512) (by omega) (by omega), tmodp (by omega)]
  congr 1
  omega
end FnExactFopFirstL
open FnExactFopFirstL

theorem FnExactFopFirst (c v n : Int) (l : List ByteArray) (sh : Bool) (_ : (Lit.int .i64 c).wf = true) (_ : (Lit.int .i64 v).wf = true) (_ : (Lit.int .i64 n).wf = true) (hl : l.length ≤ 9223372036854775807) (hg : ∀ a ∈ l, a.size ≤ 9223372036854775807) :
    ∃ k, laws_FnExactFopFirst.f k c v n l sh = some true := by
  obtain ⟨t, ht, hlen, hsz⟩ := szStringS_at l hl hg
  refine ⟨l.length + 20, ?_⟩
  generalize hk : l.length + 20 = k
  unfold laws_FnExactFopFirst.f laws_szFop.f
  rw [hsz k (by omega)]
  simp only [Option.bind_some]
  by_cases h0 : t < 0
  · rw [if_pos h0]
    rfl
  rw [if_neg h0]
  simp only [Option.bind_some]
  rw [if_neg h0]
  have hl' := hlen (by omega)
  have e1 := toStringS_at k l (by omega) hl'
  have e2 := specFopOk_at k c v n l sh (by omega) (by omega)
  have e3 := implFopOk_at k c v n l sh (by omega) (by omega)
  have e5 := eqStringS_at k l (by omega) (by omega)
  have hf : spec_FopFirst.f k c v n l sh = impl_FopFirst.f k c v n l sh := by
    simp only [spec_FopFirst.f, impl_FopFirst.f, e2, e3, Option.bind_some]
    cases hok : fopOk c v n l with
    | false => rfl
    | true =>
      obtain ⟨h1, h2, h4, _⟩ := fopOk_of hok
      simp only [if_true, spec_l5First.f, specFirst_num h1 h2 h4, implFirst_num h1 h2 h4, Option.bind_some]
  have hx : ∃ x, impl_FopFirst.f k c v n l sh = some x := by
    simp only [impl_FopFirst.f, e3, Option.bind_some, impl_goesRound_plus.f]
    split <;> exact ⟨_, rfl⟩
  obtain ⟨x, hx⟩ := hx
  rw [hx] at hf
  simp only [laws_toFop.f, e1, hf, hx, e5, laws_eqFop.f, Option.bind_some, if_true, bne_self_eq_false, Bool.false_eq_true, if_false]

end Go.Proofs.Ytclhopldchndiaa.Pure
