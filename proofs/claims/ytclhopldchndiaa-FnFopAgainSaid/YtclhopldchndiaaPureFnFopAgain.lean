/- FnFopAgain: all that was not taken is sent once more, in order. For all bytes from which it is drawn who sends; no condition. -/
import Derived.Test.YtclhopldchndiaaPFnFopAgainx8
import Derived.Test.YtclhopldchndiaaAux
namespace Go.Proofs.Ytclhopldchndiaa.Pure
open Go Go.RowKit Go.Proofs.Ytclhopldchndiaa.PFnFopAgain Go.Proofs.YtclhopldchndiaaW.PrintWords Go.Proofs.YtclhopldchndiaaW.PrintLast Go.Proofs.YtclhopldchndiaaW.PrintMore Go.Proofs.Ytclhopldchndiaa.Aux

namespace FnFopAgainL
theorem l1In_at (a b c : Int) : spec_l1In.f a b c = some (decide (b ≤ a ∧ a ≤ c)) := by
  unfold spec_l1In.f
  by_cases h : b ≤ a
  · rw [if_pos h]
    simp [h]
  · rw [if_neg h]
    simp [h]
theorem within_at (a c : Int) : impl_within.f a c = some (decide (0 ≤ a ∧ a ≤ c)) := by
  unfold impl_within.f
  by_cases h : 0 ≤ a
  · rw [if_pos h]
    simp [h]
  · rw [if_neg h]
    simp [h]
theorem frameDataOk_at (s : ByteArray) : impl_frameDataOk.f s = some (decide (1 ≤ (s.size : Int) ∧ (s.size : Int) ≤ 53)) := by
  unfold impl_frameDataOk.f
  by_cases h : 1 ≤ (s.size : Int)
  · rw [if_pos h]
    simp [h]
  · rw [if_neg h]
    simp [h]
/-- FrameOk's answer. -/
def frameOk (past govern : Bool) (craft via seq : Int) (s : ByteArray) : Bool :=
  decide (0 ≤ craft ∧ craft ≤ 1023) && (decide (0 ≤ via ∧ via ≤ 63) && (decide (0 ≤ seq ∧ seq ≤ 255) && (decide (1 ≤ (s.size : Int) ∧ (s.size : Int) ≤ 53) && (past || !govern))))
theorem specFrameOk_at (past govern : Bool) (craft via seq : Int) (s : ByteArray) : spec_FrameOk.f past govern craft via seq s = some (frameOk past govern craft via seq s) := by
  simp only [spec_FrameOk.f, l1In_at, Option.bind_some, frameOk]
  generalize decide (0 ≤ craft ∧ craft ≤ 1023) = b1
  generalize decide (0 ≤ via ∧ via ≤ 63) = b2
  generalize decide (0 ≤ seq ∧ seq ≤ 255) = b3
  generalize decide (1 ≤ (s.size : Int) ∧ (s.size : Int) ≤ 53) = b4
  cases b1 <;> cases b2 <;> cases b3 <;> cases b4 <;> cases past <;> cases govern <;> rfl
theorem implFrameOk_at (past govern : Bool) (craft via seq : Int) (s : ByteArray) : impl_FrameOk.f past govern craft via seq s = some (frameOk past govern craft via seq s) := by
  simp only [impl_FrameOk.f, within_at, frameDataOk_at, Option.bind_some, frameOk]
  generalize decide (0 ≤ craft ∧ craft ≤ 1023) = b1
  generalize decide (0 ≤ via ∧ via ≤ 63) = b2
  generalize decide (0 ≤ seq ∧ seq ≤ 255) = b3
  generalize decide (1 ≤ (s.size : Int) ∧ (s.size : Int) ≤ 53) = b4
  cases b1 <;> cases b2 <;> cases b3 <;> cases b4 <;> cases past <;> cases govern <;> rfl
theorem up {i : Nat} (h : i < 9223372036854775807) : wrap64 ((i : Int) + 1) = ((i + 1 : Nat) : Int) := by
  rw [w64 (by omega) (by omega)]
  omega
theorem rdOf_at {α : Type} (d : α) (l : List α) (i : Nat) (h : i < l.length) : rdOf d l (i : Int) = l[i] := by
  unfold rdOf
  rw [Int.toNat_natCast, List.getD_eq_getElem?_getD, List.getElem?_eq_getElem h]
  rfl
/-- A list that is filled from its begin on. -/
theorem fill_take {α : Type} (l ys : List α) (i : Nat) (hi : i < l.length) (hl : ys.length = l.length) (h : ys.take i = l.take i) : (ys.set i l[i]).take (i + 1) = l.take (i + 1) := by
  have h1 : i < (ys.set i l[i]).length := by rw [List.length_set]; omega
  rw [List.take_succ_eq_append_getElem h1, List.take_succ_eq_append_getElem hi, List.getElem_set_self, List.take_set_of_le (Nat.le_refl _), h]
/-- May a text be data of a frame? -/
def okd (s : ByteArray) : Bool := decide (1 ≤ (s.size : Int) ∧ (s.size : Int) ≤ 53)
/-- FopOk's answer. -/
def fopOk (c v n : Int) (l : List ByteArray) : Bool := l.all okd && (decide (0 ≤ c ∧ c ≤ 1023) && (decide (0 ≤ v ∧ v ≤ 63) && (decide (0 ≤ n ∧ n ≤ 255) && decide ((l.length : Int) ≤ 4))))
theorem specFopOk_l0 (d : Nat) : ∀ (k i : Nat) (c v n : Int) (l : List ByteArray) (sh : Bool), d < k → l.length ≤ 9223372036854775807 → i + d = l.length →
    spec_FopOk.l0 k (i : Int) c v n l sh = some ((l.drop i).all okd && (decide (0 ≤ c ∧ c ≤ 1023) && (decide (0 ≤ v ∧ v ≤ 63) && (decide (0 ≤ n ∧ n ≤ 255) && decide ((l.length : Int) ≤ 4))))) := by
  induction d with
  | zero =>
    intro k i c v n l sh hk hl hi
    obtain ⟨k, rfl⟩ : ∃ m, k = m + 1 := ⟨k - 1, by omega⟩
    simp only [spec_FopOk.l0, l1In_at, Option.bind_some]
    rw [if_neg (by omega), List.drop_eq_nil_of_le (by omega)]
    generalize decide (0 ≤ c ∧ c ≤ 1023) = b1
    generalize decide (0 ≤ v ∧ v ≤ 63) = b2
    generalize decide (0 ≤ n ∧ n ≤ 255) = b3
    cases b1 <;> cases b2 <;> cases b3 <;> simp
  | succ d ih =>
    intro k i c v n l sh hk hl hi
    obtain ⟨k, rfl⟩ : ∃ m, k = m + 1 := ⟨k - 1, by omega⟩
    have hil : i < l.length := by omega
    simp only [spec_FopOk.l0, l1In_at, Option.bind_some]
    rw [if_pos (by omega), if_pos (by omega), rdOf_at _ _ _ hil, List.drop_eq_getElem_cons hil, List.all_cons]
    change (if okd l[i] = true then _ else _) = _
    cases h : okd l[i] with
    | false => simp
    | true =>
      rw [if_pos rfl, up (by omega), ih k (i + 1) c v n l sh (by omega) hl (by omega)]
      simp
theorem specFopOk_at (k : Nat) (c v n : Int) (l : List ByteArray) (sh : Bool) (hk : l.length < k) (hl : l.length ≤ 9223372036854775807) : spec_FopOk.f k c v n l sh = some (fopOk c v n l) := by
  unfold spec_FopOk.f fopOk
  exact specFopOk_l0 l.length k 0 c v n l sh hk hl (by omega)
theorem implFopOk_l0 (d : Nat) : ∀ (k i : Nat) (l : List ByteArray), d < k → l.length ≤ 9223372036854775807 → i + d = l.length →
    impl_FopOk.l0 k l (l.length : Int) (i : Int) = some ((l.drop i).all okd) := by
  induction d with
  | zero =>
    intro k i l hk hl hi
    obtain ⟨k, rfl⟩ : ∃ m, k = m + 1 := ⟨k - 1, by omega⟩
    simp only [impl_FopOk.l0]
    rw [if_neg (by omega), List.drop_eq_nil_of_le (by omega)]
    rfl
  | succ d ih =>
    intro k i l hk hl hi
    obtain ⟨k, rfl⟩ : ∃ m, k = m + 1 := ⟨k - 1, by omega⟩
    have hil : i < l.length := by omega
    simp only [impl_FopOk.l0, frameDataOk_at, Option.bind_some]
    rw [if_pos (by omega), if_pos (by omega), if_pos (by omega), rdOf_at _ _ _ hil, List.drop_eq_getElem_cons hil, List.all_cons]
    change (if okd l[i] = true then _ else _) = _
    cases h : okd l[i] with
    | false => simp
    | true =>
      rw [if_pos rfl, up (by omega), ih k (i + 1) l (by omega) hl (by omega)]
      simp
theorem implFopOk_at (k : Nat) (c v n : Int) (l : List ByteArray) (sh : Bool) (hk : l.length + 1 < k) (hl : l.length ≤ 9223372036854775807) : impl_FopOk.f k c v n l sh = some (fopOk c v n l) := by
  obtain ⟨k, rfl⟩ : ∃ m, k = m + 1 := ⟨k - 1, by omega⟩
  have h0 := implFopOk_l0 l.length k 0 l (by omega) hl (by omega)
  have h1 : impl_FopOk.l0 k l (l.length : Int) 0 = some (l.all okd) := h0
  have e : decide ((l.length : Int) ≤ 4) = !decide ((l.length : Int) > 4) := by
    by_cases h : (l.length : Int) ≤ 4
    · rw [decide_eq_true h, decide_eq_false (by omega)]; rfl
    · rw [decide_eq_false h, decide_eq_true (by omega)]; rfl
  simp only [impl_FopOk.f, within_at, Option.bind_some, fopOk, impl_FopOk.j0, h1, e]
  generalize decide (0 ≤ c ∧ c ≤ 1023) = b1
  generalize decide (0 ≤ v ∧ v ≤ 63) = b2
  generalize decide (0 ≤ n ∧ n ≤ 255) = b3
  generalize decide ((l.length : Int) > 4) = b4
  generalize l.all okd = b5
  cases b1 <;> cases b2 <;> cases b3 <;> cases b4 <;> cases b5 <;> rfl
theorem fopOk_of {c v n : Int} {l : List ByteArray} (h : fopOk c v n l = true) : 0 ≤ n ∧ n ≤ 255 ∧ l.length ≤ 4 ∧ 0 ≤ c ∧ c ≤ 1023 ∧ 0 ≤ v ∧ v ≤ 63 ∧ l.all okd = true := by
  simp only [fopOk, Bool.and_eq_true, decide_eq_true_eq] at h
  obtain ⟨h1, h2, h3, h4, h5⟩ := h
  exact ⟨h4.1, h4.2, by omega, h2.1, h2.2, h3.1, h3.2, h1⟩
theorem implFirst_num {n : Int} {m : Nat} (h0 : 0 ≤ n) (h1 : n ≤ 255) (hm : m ≤ 4) : impl_goesRound_plus.f n (wrap64 (-(m : Int))) = some ((n - m + 256) % 256) := by
  unfold impl_goesRound_plus.f
  rw [w64 (x := -(m : Int)) (by omega) (by omega), Int.neg_tmod, tmodp (a := (m : Int)) (by omega), w64 (x := n + -((m : Int) % 256)) (by omega) (by omega), w64 (x := n + -((m : Int) % 256) + 256) (by omega) (by omega), tmodp (by omega)]
  congr 1
  omega
theorem specFirst_num {n : Int} {m : Nat} (h0 : 0 ≤ n) (h1 : n ≤ 255) (hm : m ≤ 4) : spec_l4Mod.f (wrap64 (n - (m : Int))) = some ((n - m + 256) % 256) := by
  unfold spec_l4Mod.f
  rw [w64 (x := n - (m : Int)) (by omega) (by omega), w64 (x := n - (m : Int) + 512) (by omega) (by omega), tmodp (by omega)]
  congr 1
  omega
/-- Frame i of what was sent, from the first that was not answered for on. -/
def again (c v n : Int) (l : List ByteArray) : Nat → Nat → List (S34)
  | 0, _ => []
  | d + 1, i => (⟨false, false, c, v, ((n - l.length + 256) % 256 + i) % 256, rdOf ByteArray.empty l (i : Int)⟩ : S34) :: again c v n l d (i + 1)
theorem again_length (c v n : Int) (l : List ByteArray) (d : Nat) : ∀ i, (again c v n l d i).length = d := by
  induction d with
  | zero => intro i; rfl
  | succ d ih => intro i; simp [again, ih]
theorem specAgain_l0 (d : Nat) : ∀ (k i : Nat) (acc : List (S34)) (c v n : Int) (l : List ByteArray) (sh : Bool), d < k → l.length ≤ 4 → 0 ≤ n → n ≤ 255 → i + d = l.length → acc.length ≤ 1 + i →
    spec_FopAgain.l0 k acc (i : Int) c v n l sh = some (acc ++ again c v n l d i) := by
  induction d with
  | zero =>
    intro k i acc c v n l sh hk hl h0 h1 hi ha
    obtain ⟨k, rfl⟩ : ∃ m, k = m + 1 := ⟨k - 1, by omega⟩
    simp only [spec_FopAgain.l0]
    rw [if_neg (by omega)]
    simp [again]
  | succ d ih =>
    intro k i acc c v n l sh hk hl h0 h1 hi ha
    obtain ⟨k, rfl⟩ : ∃ m, k = m + 1 := ⟨k - 1, by omega⟩
    have hs : spec_l4Mod.f (wrap64 ((n - l.length + 256) % 256 + i)) = some (((n - l.length + 256) % 256 + i) % 256) := by
      unfold spec_l4Mod.f
      rw [w64 (x := (n - l.length + 256) % 256 + i) (by omega) (by omega), w64 (x := (n - l.length + 256) % 256 + i + 512) (by omega) (by omega), tmodp (by omega)]
      congr 1
      omega
    simp only [spec_FopAgain.l0, spec_l5First.f, specFirst_num h0 h1 hl, Option.bind_some, hs, spec_l5Frame.f]
    rw [if_pos (by omega), if_pos (by omega), if_pos (by omega), up (by omega)]
    rw [ih k (i + 1) _ c v n l sh (by omega) hl h0 h1 (by omega) (by rw [List.length_append, List.length_singleton]; omega), again, List.append_assoc]
    rfl
theorem implAgain_l0 (d : Nat) : ∀ (k i : Nat) (acc : List (S34)) (c v n : Int) (l : List ByteArray) (sh : Bool), d < k → l.length ≤ 4 → 0 ≤ n → n ≤ 255 → i + d = l.length → acc.length ≤ 1 + i →
    impl_FopAgain.l0 k acc ((n - l.length + 256) % 256) l (l.length : Int) (i : Int) c v n l sh = some (acc ++ again c v n l d i) := by
  induction d with
  | zero =>
    intro k i acc c v n l sh hk hl h0 h1 hi ha
    obtain ⟨k, rfl⟩ : ∃ m, k = m + 1 := ⟨k - 1, by omega⟩
    simp only [impl_FopAgain.l0]
    rw [if_neg (by omega)]
    simp [again]
  | succ d ih =>
    intro k i acc c v n l sh hk hl h0 h1 hi ha
    obtain ⟨k, rfl⟩ : ∃ m, k = m + 1 := ⟨k - 1, by omega⟩
    have hs : impl_goesRound_plus.f ((n - l.length + 256) % 256) (i : Int) = some (((n - l.length + 256) % 256 + i) % 256) := by
      unfold impl_goesRound_plus.f
      rw [tmodp (a := (i : Int)) (by omega), w64 (x := (n - l.length + 256) % 256 + (i : Int) % 256) (by omega) (by omega), w64 (x := (n - l.length + 256) % 256 + (i : Int) % 256 + 256) (by omega) (by omega), tmodp (by omega)]
      congr 1
      omega
    simp only [impl_FopAgain.l0, hs, Option.bind_some, impl_Fop_frame.f]
    rw [if_pos (by omega), if_pos (by omega), if_pos (by omega), if_pos (by omega), up (by omega)]
    rw [ih k (i + 1) _ c v n l sh (by omega) hl h0 h1 (by omega) (by rw [List.length_append, List.length_singleton]; omega), again, List.append_assoc]
    rfl
/-- FarmOpen's answer, as a frame. -/
def farmOpen (c v : Int) : Bool × Bool × Int × Int × Int × ByteArray := if frameOk true true c v 0 (⟨#[0]⟩ : ByteArray) = true then (true, true, c, v, 0, (⟨#[0]⟩ : ByteArray)) else (false, false, 0, 0, 0, (⟨#[]⟩ : ByteArray))
theorem specOpen_at (c v : Int) : spec_FarmOpen.f c v = some (farmOpen c v) := by
  simp only [spec_FarmOpen.f, specFrameOk_at, Option.bind_some, farmOpen]
  cases frameOk true true c v 0 (⟨#[0]⟩ : ByteArray) <;> rfl
theorem implOpen_at (c v : Int) : impl_FarmOpen.f c v = some (farmOpen c v) := by
  simp only [impl_FarmOpen.f, impl_governs.f, implFrameOk_at, Option.bind_some, farmOpen]
  cases frameOk true true c v 0 (⟨#[0]⟩ : ByteArray) <;> rfl
def toS (x : Bool × Bool × Int × Int × Int × ByteArray) : S34 := ⟨x.1, x.2.1, x.2.2.1, x.2.2.2.1, x.2.2.2.2.1, x.2.2.2.2.2⟩
/-- FopAgain's answer. -/
def fopAgain (c v n : Int) (l : List ByteArray) (sh : Bool) : List (S34) :=
  if fopOk c v n l = true then (if sh = true then [toS (farmOpen c v)] else []) ++ again c v n l l.length 0 else []
theorem fopAgain_length (c v n : Int) (l : List ByteArray) (sh : Bool) : (fopAgain c v n l sh).length ≤ l.length + 1 := by
  unfold fopAgain
  cases fopOk c v n l <;> cases sh <;> simp [again_length] <;> omega
theorem specAgain_at (k : Nat) (c v n : Int) (l : List ByteArray) (sh : Bool) (hk : l.length + 10 ≤ k) (hl : l.length ≤ 1048576) : spec_FopAgain.f k c v n l sh = some (fopAgain c v n l sh) := by
  obtain ⟨k, rfl⟩ : ∃ m, k = m + 1 := ⟨k - 1, by omega⟩
  unfold spec_FopAgain.f fopAgain
  simp only [specFopOk_at (k + 1) c v n l sh (by omega) (by omega), Option.bind_some, specOpen_at]
  cases hok : fopOk c v n l with
  | false => rfl
  | true =>
    obtain ⟨h0, h1, h4, _⟩ := fopOk_of hok
    cases sh with
    | false =>
      simp only [Bool.false_eq_true, if_false, if_true, spec_FopAgain.j0]
      exact specAgain_l0 l.length k 0 [] c v n l false (by omega) h4 h0 h1 (by omega) (by simp)
    | true =>
      simp only [if_true, spec_FopAgain.j0]
      rw [if_pos (by simp)]
      exact specAgain_l0 l.length k 0 _ c v n l true (by omega) h4 h0 h1 (by omega) (by simp)
theorem implFirst_at (k : Nat) (c v n : Int) (l : List ByteArray) (sh : Bool) (hk : l.length + 1 < k) (hl : l.length ≤ 9223372036854775807) (hok : fopOk c v n l = true) : impl_FopFirst.f k c v n l sh = some ((n - l.length + 256) % 256) := by
  obtain ⟨h0, h1, h4, _⟩ := fopOk_of hok
  unfold impl_FopFirst.f
  simp only [implFopOk_at k c v n l sh hk hl, Option.bind_some, hok, if_true, implFirst_num h0 h1 h4]
theorem implAgain_at (k : Nat) (c v n : Int) (l : List ByteArray) (sh : Bool) (hk : l.length + 10 ≤ k) (hl : l.length ≤ 1048576) : impl_FopAgain.f k c v n l sh = some (fopAgain c v n l sh) := by
  obtain ⟨k, rfl⟩ : ∃ m, k = m + 1 := ⟨k - 1, by omega⟩
  unfold impl_FopAgain.f fopAgain
  simp only [implFopOk_at (k + 1) c v n l sh (by omega) (by omega), Option.bind_some, implOpen_at]
  cases hok : fopOk c v n l with
  | false => rfl
  | true =>
    obtain ⟨h0, h1, h4, _⟩ := fopOk_of hok
    have hf := implFirst_at k c v n l sh (by omega) (by omega) hok
    cases sh with
    | false =>
      simp only [Bool.false_eq_true, if_false, if_true, impl_FopAgain.j0, hf, Option.bind_some]
      exact implAgain_l0 l.length k 0 [] c v n l false (by omega) h4 h0 h1 (by omega) (by simp)
    | true =>
      simp only [if_true, impl_FopAgain.j0, hf, Option.bind_some]
      rw [if_pos (by simp)]
      exact implAgain_l0 l.length k 0 _ c v n l true (by omega) h4 h0 h1 (by omega) (by simp)
/-- What is read from: at most 2000 bytes. -/
def Bytes (xs : List Int) : Prop := xs.length ≤ 2000 ∧ ∀ x ∈ xs, 0 ≤ x ∧ x ≤ 255
theorem rd_rng {xs : List Int} (h : Bytes xs) (i : Int) : 0 ≤ rd xs i ∧ rd xs i ≤ 255 := by
  unfold rd
  rw [List.getD_eq_getElem?_getD]
  cases hx : xs[i.toNat]? with
  | none => simp
  | some x => exact h.2 x (List.mem_of_getElem? hx)
theorem u8_rng {x : Int} (h : (Lit.int .u8 x).wf = true) : 0 ≤ x ∧ x ≤ 255 := by
  simpa [Lit.wf, IntKind.min, IntKind.max, IntKind.bits, IntKind.signed] using h
/-- Opening what came: its first 2000 bytes. -/
theorem open_at (l : List Int) (hl : l.length ≤ 140737488351232) (h : ∀ x ∈ l, (Lit.int .u8 x).wf = true) : spec_l1Open.f l = some (l.take 2000, 0) ∧ Bytes (l.take 2000) := by
  refine ⟨?_, by rw [List.length_take]; omega, fun x hx => u8_rng (h x (List.mem_of_mem_take hx))⟩
  unfold spec_l1Open.f
  by_cases h2 : (l.length : Int) > 2000
  · rw [if_pos h2, if_pos (by omega)]
  · rw [if_neg h2, List.take_of_length_le (by omega)]
theorem xor_rng {x y : Int} (hx0 : 0 ≤ x) (hx1 : x < 4611686018427387904) (hy0 : 0 ≤ y) (hy1 : y < 4611686018427387904) : 0 ≤ bits .xor .i64 x y ∧ bits .xor .i64 x y < 4611686018427387904 := by
  obtain ⟨a, rfl⟩ := Int.eq_ofNat_of_zero_le hx0
  obtain ⟨b, rfl⟩ := Int.eq_ofNat_of_zero_le hy0
  have h : a ^^^ b < 2 ^ 62 := Nat.xor_lt_two_pow (by omega) (by omega)
  have e : bits .xor .i64 (a : Int) (b : Int) = ((a ^^^ b : Nat) : Int) := by
    show IntKind.i64.wrap ((BitVec.ofInt 64 (a : Int) ^^^ BitVec.ofInt 64 (b : Int)).toNat : Int) = _
    rw [BitVec.toNat_xor, BitVec.ofInt_natCast, BitVec.ofInt_natCast, BitVec.toNat_ofNat, BitVec.toNat_ofNat, Nat.mod_eq_of_lt (by omega), Nat.mod_eq_of_lt (by omega)]
    exact wraps_i64 _ (by omega) (by omega)
  rw [e]
  omega
/-- The number that is reckoned where what came is at its end. -/
theorem mix_rng {a b p q : Int} (ha0 : 0 ≤ a) (ha1 : a ≤ 255) (hb0 : 0 ≤ b) (hb1 : b ≤ 255) (hp0 : 0 ≤ p) (hp1 : p ≤ 1099511627776) (hq0 : 0 ≤ q) (hq1 : q ≤ 1099511627776) :
    ∃ v, wrap64 (wrap64 (wrap64 (wrap64 (wrap64 a * 131) + wrap64 (wrap64 b * 1117)) + wrap64 (p * 29)) + wrap64 (wrap64 q * 53)) = v ∧ 0 ≤ v ∧ v < 4611686018427387904 := by
  refine ⟨a * 131 + b * 1117 + p * 29 + q * 53, ?_, by omega, by omega⟩
  rw [w64 (x := a) (by omega) (by omega), w64 (x := b) (by omega) (by omega), w64 (x := q) (by omega) (by omega), w64 (x := a * 131) (by omega) (by omega), w64 (x := b * 1117) (by omega) (by omega), w64 (x := p * 29) (by omega) (by omega), w64 (x := q * 53) (by omega) (by omega),
    w64 (x := a * 131 + b * 1117) (by omega) (by omega), w64 (x := a * 131 + b * 1117 + p * 29) (by omega) (by omega), w64 (by omega) (by omega)]
theorem tmod_rng {x m : Int} (h0 : 0 ≤ x) (hm : 1 ≤ m) : 0 ≤ Int.tmod x m ∧ Int.tmod x m < m := by
  rw [tmodp h0]
  exact ⟨Int.emod_nonneg _ (by omega), Int.emod_lt_of_pos _ (by omega)⟩
/-- One pick: a number below m. -/
theorem pick_at {xs : List Int} (h : Bytes xs) (p m : Int) (hp0 : 0 ≤ p) (hp1 : p ≤ 1000000) (hm : 1 ≤ m) :
    ∃ r, 0 ≤ r ∧ r < m ∧ ∀ k, 2 ≤ k → spec_l1Rd_pick.f k xs p m = some (r, p + 1) := by
  have hlen := h.1
  have e1 : wrap64 (p + 1) = p + 1 := w64 (by omega) (by omega)
  have e2 : wrap64 (p + 1 - 1) = p := by rw [w64 (by omega) (by omega)]; omega
  have n1 : ¬ m < 1 := by omega
  have n2 : ¬ m = 0 := by omega
  by_cases hz : xs.length = 0
  · refine ⟨0, by omega, by omega, fun k hk => ?_⟩
    obtain ⟨k, rfl⟩ : ∃ q, k = q + 1 := ⟨k - 1, by omega⟩
    have hb : ((xs.length : Int) == 0) = true := by rw [hz]; rfl
    unfold spec_l1Rd_pick.f
    rw [if_neg n1, hb, e1]
    simp only [spec_l1Rd_pick.j0, if_true]
  have hb : ((xs.length : Int) == 0) = false := beq_eq_false_iff_ne.mpr (by omega)
  by_cases hlt : p < (xs.length : Int)
  · have hr := rd_rng h p
    have e3 : wrap64 (rd xs p) = rd xs p := w64 (by omega) (by omega)
    obtain ⟨t0, t1⟩ := tmod_rng (x := rd xs p) (m := m) hr.1 hm
    refine ⟨Int.tmod (rd xs p) m, t0, t1, fun k hk => ?_⟩
    obtain ⟨k, rfl⟩ : ∃ q, k = q + 1 := ⟨k - 1, by omega⟩
    unfold spec_l1Rd_pick.f
    rw [if_neg n1, hb, e1]
    simp only [spec_l1Rd_pick.j0, Bool.false_eq_true, if_false, e2]
    rw [if_pos hlt, if_pos hp0, if_neg n2, e3]
  · have hl1 : 1 ≤ (xs.length : Int) := by omega
    have m1 := tmod_rng (x := p) (m := (xs.length : Int)) hp0 hl1
    have e4 : wrap64 (wrap64 (p * 7) + 3) = p * 7 + 3 := by rw [w64 (x := p * 7) (by omega) (by omega), w64 (by omega) (by omega)]
    have m2 := tmod_rng (x := p * 7 + 3) (m := (xs.length : Int)) (by omega) hl1
    have r1 := rd_rng h (Int.tmod p (xs.length : Int))
    have r2 := rd_rng h (Int.tmod (p * 7 + 3) (xs.length : Int))
    have q0 : 0 ≤ Int.tdiv p (xs.length : Int) := by rw [tdivp hp0]; exact Int.ediv_nonneg hp0 (by omega)
    have q1 : Int.tdiv p (xs.length : Int) ≤ 1000000 := by rw [tdivp hp0]; exact Int.le_trans (Int.ediv_le_self _ hp0) hp1
    obtain ⟨v, hv, v0, v1⟩ := mix_rng (p := p) (q := Int.tdiv p (xs.length : Int)) r1.1 r1.2 r2.1 r2.2 hp0 (by omega) q0 (by omega)
    have d1 : wrap64 (Int.tdiv v 64) = v / 64 := by rw [tdivp v0, w64 (by omega) (by omega)]
    obtain ⟨x0, x1⟩ := xor_rng (x := v) (y := v / 64) v0 v1 (by omega) (by omega)
    obtain ⟨t0, t1⟩ := tmod_rng (x := bits .xor .i64 v (v / 64)) (m := m) x0 hm
    refine ⟨Int.tmod (bits .xor .i64 v (v / 64)) m, t0, t1, fun k hk => ?_⟩
    obtain ⟨k, rfl⟩ : ∃ q, k = q + 1 := ⟨k - 1, by omega⟩
    unfold spec_l1Rd_pick.f
    rw [if_neg n1, hb, e1]
    simp only [spec_l1Rd_pick.j0, Bool.false_eq_true, if_false, e2, e4]
    rw [if_neg hlt, if_neg (show ¬ (xs.length : Int) = 0 by omega), if_pos m1.1, if_pos m1.2, if_pos m2.1, if_pos m2.2, if_neg n2, hv, d1]
theorem text_l0 {xs : List Int} (h : Bytes xs) (d : Nat) : ∀ (acc : List Int) (p : Int), acc.length + d ≤ 1000 → 0 ≤ p → p + 3 * d ≤ 500000 →
    ∃ t q, t.size = acc.length + d ∧ p ≤ q ∧ q ≤ p + 3 * d ∧ ∀ k, d + 2 < k → spec_l15Text.l0 k acc (d : Int) xs p = some (t, q) := by
  induction d with
  | zero =>
    intro acc p ha hp0 hp1
    refine ⟨strOfNums acc, p, strOfNums_size acc, by omega, by omega, fun k hk => ?_⟩
    obtain ⟨k, rfl⟩ : ∃ m, k = m + 1 := ⟨k - 1, by omega⟩
    simp only [spec_l15Text.l0]
    rw [if_neg (by omega)]
  | succ d ih =>
    intro acc p ha hp0 hp1
    obtain ⟨r1, a1, b1, c1⟩ := pick_at h p 256 hp0 (by omega) (by omega)
    obtain ⟨r2, a2, b2, c2⟩ := pick_at h (p + 1) 4 (by omega) (by omega) (by omega)
    obtain ⟨r3, a3, b3, c3⟩ := pick_at h (p + 1 + 1) 5 (by omega) (by omega) (by omega)
    obtain ⟨t, q, ht, hq0, hq1, hk⟩ := ih (acc ++ [(rd [r1, r2, 85, 235, 144] r3) % 256]) (p + 1 + 1 + 1) (by rw [List.length_append, List.length_singleton]; omega) (by omega) (by omega)
    refine ⟨t, q, by rw [ht, List.length_append, List.length_singleton]; omega, by omega, by omega, fun k hkk => ?_⟩
    obtain ⟨k, rfl⟩ : ∃ m, k = m + 1 := ⟨k - 1, by omega⟩
    have e : wrap64 (((d + 1 : Nat) : Int) - 1) = (d : Int) := by rw [w64 (by omega) (by omega)]; omega
    simp only [spec_l15Text.l0]
    rw [if_pos (by omega), c1 k (by omega)]
    simp only [Option.bind_some]
    rw [c2 k (by omega)]
    simp only [Option.bind_some]
    rw [c3 k (by omega)]
    simp only [Option.bind_some]
    rw [if_pos a3, if_pos (by show r3 < 5; omega), if_pos (by omega), e]
    exact hk k (by omega)
/-- A text that is drawn: at most n bytes. -/
theorem text_at {xs : List Int} (h : Bytes xs) (p : Int) (n : Nat) (hp0 : 0 ≤ p) (hp1 : p ≤ 100000) (hn : n ≤ 900) :
    ∃ t q, t.size ≤ n ∧ p ≤ q ∧ q ≤ p + 1 + 3 * n ∧ ∀ k, n + 10 < k → spec_l15Text.f k xs p (n : Int) = some (t, q) := by
  obtain ⟨r, a, b, c⟩ := pick_at h p ((n : Int) + 1) hp0 (by omega) (by omega)
  obtain ⟨d, rfl⟩ := Int.eq_ofNat_of_zero_le a
  obtain ⟨t, q, ht, hq0, hq1, hk⟩ := text_l0 h d [] (p + 1) (by rw [List.length_nil]; omega) (by omega) (by omega)
  refine ⟨t, q, by rw [ht, List.length_nil]; omega, by omega, by omega, fun k hkk => ?_⟩
  unfold spec_l15Text.f
  rw [w64 (x := (n : Int) + 1) (by omega) (by omega), c k (by omega)]
  simp only [Option.bind_some]
  exact hk k (by omega)
theorem bnd {α β : Type} {o : Option α} {f : α → Option β} {b : β} (a : α) (h : o = some a) (h2 : f a = some b) : o.bind f = some b := Option.bind_eq_some_iff.2 ⟨a, h, h2⟩
theorem one_at {xs : List Int} (h : Bytes xs) (p : Int) (ys : List Int) (hy : 1 ≤ ys.length) (hp0 : 0 ≤ p) (hp1 : p ≤ 100000) : ∃ v, ∀ k, 2 ≤ k → spec_l1Rd_one.f k xs p ys = some (v, p + 1) := by
  obtain ⟨r0, a0, b0, c0⟩ := pick_at h p (ys.length : Int) (by omega) (by omega) (by omega)
  refine ⟨rd ys r0, fun k hk => ?_⟩
  unfold spec_l1Rd_one.f
  exact bnd _ (c0 k hk) ((if_pos a0).trans ((if_pos b0).trans rfl))
theorem fop_l0 {xs : List Int} (h : Bytes xs) (c v n : Int) (sh : Bool) (d : Nat) : ∀ (p : Int) (l : List ByteArray), l.length + d ≤ 100 → 0 ≤ p → p + 19 * d ≤ 10000 →
    ∃ r q, r.length ≤ l.length + d ∧ p ≤ q ∧ q ≤ p + 19 * d ∧ ∀ k, d + 40 ≤ k → spec_l15Fop.l0 k (d : Int) xs p c v n l sh = some (c, v, n, r, sh, q) := by
  induction d with
  | zero =>
    intro p l hl hp0 hp1
    refine ⟨l, p, by omega, by omega, by omega, fun k hk => ?_⟩
    obtain ⟨k, rfl⟩ : ∃ m, k = m + 1 := ⟨k - 1, by omega⟩
    simp only [spec_l15Fop.l0]
    rw [if_neg (by omega)]
  | succ d ih =>
    intro p l hl hp0 hp1
    obtain ⟨t, q, ht, q0, q1, ck⟩ := text_at h p 6 (by omega) (by omega) (by decide)
    obtain ⟨r, q3, hr, q30, q31, hk3⟩ := ih q (l ++ [(⟨#[115]⟩ : ByteArray) ++ t]) (by rw [List.length_append, List.length_singleton]; omega) (by omega) (by omega)
    rw [List.length_append, List.length_singleton] at hr
    refine ⟨r, q3, by omega, by omega, by omega, fun k hk => ?_⟩
    obtain ⟨k, rfl⟩ : ∃ m, k = m + 1 := ⟨k - 1, by omega⟩
    have f1 : d + 40 ≤ k := by omega
    have f2 : l.length < 8796093022208 := by omega
    have f3 : 1 + t.size ≤ 9223372036854775807 := by omega
    have f4 : 6 + 10 < k := by omega
    have e : wrap64 (((d + 1 : Nat) : Int) - 1) = (d : Int) := by rw [w64 (by omega) (by omega)]; omega
    simp only [spec_l15Fop.l0]
    rw [if_pos (by omega), e]
    exact bnd _ (ck k f4) ((if_pos f3).trans ((if_pos f2).trans (hk3 k f1)))
theorem fop_at {xs : List Int} (h : Bytes xs) (p : Int) (hp0 : 0 ≤ p) (hp1 : p ≤ 1000) : ∃ c v n l sh q, l.length ≤ 4 ∧ p ≤ q ∧ q ≤ p + 100 ∧ ∀ k, 60 ≤ k → spec_l15Fop.f k xs p = some (c, v, n, l, sh, q) := by
  obtain ⟨r1, a1, b1, c1⟩ := pick_at h p 8 hp0 (by omega) (by omega)
  obtain ⟨r2, a2, b2, c2⟩ := pick_at h (p + 1) 256 (by omega) (by omega) (by omega)
  obtain ⟨r3, a3, b3, c3⟩ := pick_at h (p + 1 + 1) 3 (by omega) (by omega) (by omega)
  obtain ⟨r4, a4, b4, c4⟩ := pick_at h (p + 1 + 1 + 1) 6 (by omega) (by omega) (by omega)
  obtain ⟨r5, a5, b5, c5⟩ := pick_at h (p + 1 + 1 + 1 + 1) 5 (by omega) (by omega) (by omega)
  obtain ⟨d, rfl⟩ := Int.eq_ofNat_of_zero_le a5
  obtain ⟨r, q, hr, q0, q1, hk2⟩ := fop_l0 h 5 3 (rd [r1, r2, 255] r3) (r4 == 0) d (p + 1 + 1 + 1 + 1 + 1) [] (by simp only [List.length_nil]; omega) (by omega) (by omega)
  simp only [List.length_nil] at hr
  refine ⟨5, 3, rd [r1, r2, 255] r3, r, r4 == 0, q, by omega, by omega, by omega, fun k hk => ?_⟩
  have g2 : 2 ≤ k := by omega
  have g3 : d + 40 ≤ k := by omega
  unfold spec_l15Fop.f
  exact bnd _ (c1 k g2) (bnd _ (c2 k g2) (bnd _ rfl (bnd _ (c3 k g2) ((if_pos a3).trans ((if_pos b3).trans (bnd _ (c4 k g2) (bnd _ (c5 k g2) (hk2 k g3))))))))
theorem anyFop_l0 {xs : List Int} (p c v n : Int) (sh : Bool) (d : Nat) : ∀ (l : List ByteArray), l.length + d = 5 → ∃ r, r.length ≤ 5 ∧ ∀ k, d + 2 ≤ k → spec_l15AnyFop.l0 k xs p c v n l sh = some (c, v, n, r, sh, p) := by
  induction d with
  | zero =>
    intro l hl
    refine ⟨l, by omega, fun k hk => ?_⟩
    obtain ⟨k, rfl⟩ : ∃ m, k = m + 1 := ⟨k - 1, by omega⟩
    simp only [spec_l15AnyFop.l0]
    rw [if_neg (by omega)]
  | succ d ih =>
    intro l hl
    obtain ⟨r, hr, hk3⟩ := ih (l ++ [(⟨#[120]⟩ : ByteArray)]) (by rw [List.length_append, List.length_singleton]; omega)
    refine ⟨r, hr, fun k hk => ?_⟩
    obtain ⟨k, rfl⟩ : ∃ m, k = m + 1 := ⟨k - 1, by omega⟩
    simp only [spec_l15AnyFop.l0]
    rw [if_pos (by omega), if_pos (by omega)]
    exact hk3 k (by omega)
theorem anyFop_at {xs : List Int} (h : Bytes xs) (p : Int) (hp0 : 0 ≤ p) (hp1 : p ≤ 1000) : ∃ c v n l sh q, l.length ≤ 5 ∧ ∀ k, 60 ≤ k → spec_l15AnyFop.f k xs p = some (c, v, n, l, sh, q) := by
  obtain ⟨c, v, n, l, sh, q, hl, q0, q1, hk⟩ := fop_at h p hp0 hp1
  obtain ⟨r, a, b, cc⟩ := pick_at h q 20 (by omega) (by omega) (by omega)
  obtain ⟨v1, d1⟩ := one_at h (q + 1) [-1, 256] (by decide) (by omega) (by omega)
  by_cases h0 : r = 0
  · refine ⟨c, v, v1, l, sh, q + 1 + 1, by omega, fun k hkk => ?_⟩
    unfold spec_l15AnyFop.f
    exact bnd _ (hk k hkk) (bnd _ (cc k (by omega)) ((if_pos h0).trans (bnd _ (d1 k (by omega)) rfl)))
  by_cases h1 : r = 1
  · refine ⟨c, v, n, l ++ [(⟨#[]⟩ : ByteArray)], sh, q + 1, by rw [List.length_append, List.length_singleton]; omega, fun k hkk => ?_⟩
    unfold spec_l15AnyFop.f
    exact bnd _ (hk k hkk) (bnd _ (cc k (by omega)) ((if_neg h0).trans ((if_pos h1).trans (if_pos (show l.length < 8796093022208 by omega)))))
  by_cases h2 : r = 2
  · refine ⟨1024, v, n, l, sh, q + 1, by omega, fun k hkk => ?_⟩
    unfold spec_l15AnyFop.f
    exact bnd _ (hk k hkk) (bnd _ (cc k (by omega)) ((if_neg h0).trans ((if_neg h1).trans ((if_pos h2).trans rfl))))
  by_cases h3 : r = 3
  · obtain ⟨l2, hl2, hk2⟩ := anyFop_l0 (xs := xs) (q + 1) c v n sh (5 - l.length) l (by omega)
    refine ⟨c, v, n, l2, sh, q + 1, hl2, fun k hkk => ?_⟩
    unfold spec_l15AnyFop.f
    exact bnd _ (hk k hkk) (bnd _ (cc k (by omega)) ((if_neg h0).trans ((if_neg h1).trans ((if_neg h2).trans ((if_pos h3).trans (hk2 k (by omega)))))))
  · refine ⟨c, v, n, l, sh, q + 1, by omega, fun k hkk => ?_⟩
    unfold spec_l15AnyFop.f
    exact bnd _ (hk k hkk) (bnd _ (cc k (by omega)) ((if_neg h0).trans ((if_neg h1).trans ((if_neg h2).trans ((if_neg h3).trans rfl)))))
theorem rdF_at (l : List (S34)) (i : Nat) (h : i < l.length) : rd_T34 l (i : Int) = l[i] := by
  unfold rd_T34
  rw [Int.toNat_natCast, List.getD_eq_getElem?_getD, List.getElem?_eq_getElem h]
  rfl
theorem drawAgain (l : List Int) (hl : l.length ≤ 140737488351232) (hw : ∀ x ∈ l, (Lit.int .u8 x).wf = true) : ∃ c v n s sh, s.length ≤ 5 ∧ ∀ k, 60 ≤ k → spec_DrawFopAgain.f k l = some (c, v, n, s, sh) := by
  obtain ⟨ho, hB⟩ := open_at l hl hw
  obtain ⟨c, v, n, s, sh, q, hs, hk⟩ := anyFop_at hB 0 (by decide) (by decide)
  refine ⟨c, v, n, s, sh, hs, fun k hkk => ?_⟩
  unfold spec_DrawFopAgain.f
  exact bnd _ ho (bnd _ (hk k hkk) rfl)
theorem skFrames_l0 (l : List (S34)) (hl : l.length ≤ 1000000) (d : Nat) : ∀ (k i : Nat), d < k → i + d = l.length → laws_skFrames.l0 k l l (i : Int) = some true := by
  induction d with
  | zero =>
    intro k i hk hi
    obtain ⟨k, rfl⟩ : ∃ m, k = m + 1 := ⟨k - 1, by omega⟩
    simp only [laws_skFrames.l0]
    rw [if_neg (by omega)]
  | succ d ih =>
    intro k i hk hi
    obtain ⟨k, rfl⟩ : ∃ m, k = m + 1 := ⟨k - 1, by omega⟩
    simp only [laws_skFrames.l0, beq_self_eq_true]
    rw [if_pos (by omega), if_pos (by omega), if_pos (by omega), if_neg (by decide), up (by omega)]
    exact ih k (i + 1) (by omega) (by omega)
theorem skFrames_at (k : Nat) (l : List (S34)) (hk : l.length < k) (hl : l.length ≤ 1000000) : laws_skFrames.f k l l = some true := by
  unfold laws_skFrames.f
  rw [if_pos rfl]
  exact skFrames_l0 l hl l.length k 0 hk (by omega)
/-- FopFirst's answer. -/
def firstV (c v n : Int) (l : List ByteArray) : Int := if fopOk c v n l = true then (n - l.length + 256) % 256 else 0
theorem implFirstV_at (k : Nat) (c v n : Int) (l : List ByteArray) (sh : Bool) (hk : l.length + 1 < k) (hl : l.length ≤ 9223372036854775807) : impl_FopFirst.f k c v n l sh = some (firstV c v n l) := by
  unfold firstV
  cases hok : fopOk c v n l with
  | false =>
    unfold impl_FopFirst.f
    simp only [implFopOk_at k c v n l sh hk hl, Option.bind_some, hok, Bool.false_eq_true, if_false]
  | true => rw [implFirst_at k c v n l sh hk hl hok, if_pos rfl]
theorem specFirstV_at (k : Nat) (c v n : Int) (l : List ByteArray) (sh : Bool) (hk : l.length + 1 < k) (hl : l.length ≤ 9223372036854775807) : spec_FopFirst.f k c v n l sh = some (firstV c v n l) := by
  unfold firstV spec_FopFirst.f
  rw [specFopOk_at k c v n l sh (by omega) hl]
  cases hok : fopOk c v n l with
  | false => rfl
  | true =>
    obtain ⟨h0, h1, h4, _⟩ := fopOk_of hok
    simp only [Option.bind_some, if_true, spec_l5First.f, specFirst_num h0 h1 h4]
theorem again_at (c v n : Int) (l : List ByteArray) (d : Nat) : ∀ (i j : Nat), j < d → (again c v n l d i)[j]? = some ⟨false, false, c, v, ((n - l.length + 256) % 256 + ((i + j : Nat) : Int)) % 256, rdOf ByteArray.empty l ((i + j : Nat) : Int)⟩ := by
  induction d with
  | zero => intro i j hj; omega
  | succ d ih =>
    intro i j hj
    cases j with
    | zero => rfl
    | succ j =>
      rw [again, List.getElem?_cons_succ, ih (i + 1) j (by omega)]
      have e : i + 1 + j = i + (j + 1) := by omega
      rw [e]
theorem lenW {m n : Nat} (hm : m ≤ 1) (hn : n ≤ 4) : wrap64 ((n : Int) + (m : Int)) = ((m + n : Nat) : Int) := by rw [w64 (by omega) (by omega)]; omega
theorem idxW {m n : Nat} (hm : m ≤ 1) (hn : n ≤ 4) : wrap64 ((n : Int) + (m : Int)) = ((m + n : Nat) : Int) := by rw [w64 (by omega) (by omega)]; omega
theorem rd_again (c v n : Int) (l : List ByteArray) (pre : List (S34)) (i : Nat) (hil : i < l.length) : rd_T34 (pre ++ again c v n l l.length 0) ((pre.length + i : Nat) : Int) = ⟨false, false, c, v, ((n - l.length + 256) % 256 + (i : Int)) % 256, rdOf ByteArray.empty l (i : Int)⟩ := by
  have e : pre.length + i - pre.length = i := by omega
  have g : pre.length ≤ pre.length + i := by omega
  unfold rd_T34
  rw [Int.toNat_natCast, List.getD_eq_getElem?_getD, List.getElem?_append_right g, e, again_at c v n l l.length 0 i hil]
  simp only [Nat.zero_add, Option.getD_some]
theorem seqW {n : Int} (c v : Int) (l : List ByteArray) (hok : fopOk c v n l = true) (_ : 0 ≤ n) (_ : n ≤ 255) (h4 : l.length ≤ 4) (i : Nat) (hil : i < l.length) : Int.tmod (wrap64 (firstV c v n l + (i : Int))) 256 = ((n - l.length + 256) % 256 + (i : Int)) % 256 := by
  unfold firstV
  rw [if_pos hok, w64 (by omega) (by omega), tmodp (by omega)]
/-- Comparing what is sent once more, one by one. -/
theorem each_l0 (c v n : Int) (l : List ByteArray) (sh : Bool) (hok : fopOk c v n l = true) (pre : List (S34)) (hp : pre.length ≤ 1) (d : Nat) : ∀ (k i : Nat), d + 20 < k → i + d = l.length →
    laws_FnFopAgain.l0 k (pre ++ again c v n l l.length 0) (pre.length : Int) (i : Int) c v n l sh = some true := by
  obtain ⟨n0, n1, h4, _⟩ := fopOk_of hok
  have hlen : (pre ++ again c v n l l.length 0).length = pre.length + l.length := by rw [List.length_append, again_length]
  induction d with
  | zero =>
    intro k i hk hi
    obtain ⟨k, rfl⟩ : ∃ m, k = m + 1 := ⟨k - 1, by omega⟩
    have g1 : ¬ (i : Int) < (l.length : Int) := by omega
    have ew := lenW hp h4
    simp only [laws_FnFopAgain.l0]
    rw [if_neg g1, ew, hlen, beq_self_eq_true]
  | succ d ih =>
    intro k i hk hi
    obtain ⟨k, rfl⟩ : ∃ m, k = m + 1 := ⟨k - 1, by omega⟩
    have hil : i < l.length := by omega
    have ih' := ih k (i + 1) (by omega) (by omega)
    have g1 : (i : Int) < (l.length : Int) := by omega
    have g2 : (0 : Int) ≤ ((pre.length + i : Nat) : Int) := by omega
    have g3 : ((pre.length + i : Nat) : Int) < ((pre.length + l.length : Nat) : Int) := by omega
    have g4 : (0 : Int) ≤ (i : Int) := by omega
    have g5 : i < 9223372036854775807 := by omega
    have g6 : l.length + 1 < k := by omega
    have g7 : l.length ≤ 9223372036854775807 := by omega
    have ew := lenW hp h4
    have ei := idxW hp (show i ≤ 4 by omega)
    have hat := rd_again c v n l pre i hil
    have ef := implFirstV_at k c v n l sh g6 g7
    have es := seqW c v l hok n0 n1 h4 i hil
    simp only [laws_FnFopAgain.l0]
    rw [if_pos g1, ew, hlen, if_pos rfl, ei, if_pos g2, if_pos g3, if_pos g4, hat, if_pos rfl, ef]
    simp only [Option.bind_some]
    rw [es, if_pos rfl, if_neg (by decide), up g5]
    exact ih'
end FnFopAgainL
open FnFopAgainL

theorem FnFopAgain : laws_FnFopAgain.Pure := by
  intro l hl _ hw
  unfold maxLen at hl
  by_cases hbig : (l.length : Int) > 1048576
  · exact ⟨0, if_pos hbig⟩
  obtain ⟨c, v, n, s, sh, hs, hd⟩ := drawAgain l (by omega) hw
  refine ⟨202, ?_⟩
  have e0 := hd 202 (by omega)
  have hlen := fopAgain_length c v n s sh
  have e1 := implAgain_at 202 c v n s sh (by omega) (by omega)
  have e2 := specAgain_at 202 c v n s sh (by omega) (by omega)
  have e3 := skFrames_at 202 (fopAgain c v n s sh) (by omega) (by omega)
  have e4 := implFirstV_at 202 c v n s sh (by omega) (by omega)
  have e5 := specFirstV_at 202 c v n s sh (by omega) (by omega)
  have e6 := specFopOk_at 202 c v n s sh (by omega) (by omega)
  unfold laws_FnFopAgain.f
  rw [if_neg hbig]
  refine bnd _ e0 (bnd _ e1 (bnd _ e2 (bnd _ e3 ((if_pos rfl).trans (bnd _ e4 (bnd _ e5 ((if_pos rfl).trans (bnd _ e6 ?_))))))))
  cases hok : fopOk c v n s with
  | false =>
    have f2 := specAgain_at 201 c v n s sh (by omega) (by omega)
    have f3 := skFrames_at 201 (fopAgain c v n s sh) (by omega) (by omega)
    have f4 := implFirstV_at 201 c v n s sh (by omega) (by omega)
    have f5 := specFirstV_at 201 c v n s sh (by omega) (by omega)
    simp only [laws_FnFopAgain.j0, Bool.not_false, if_true]
    exact bnd _ f2 (bnd _ f3 ((if_pos rfl).trans (bnd _ f4 (bnd _ f5 (congrArg some (beq_self_eq_true _))))))
  | true =>
    simp only [laws_FnFopAgain.j0, Bool.not_true, Bool.false_eq_true, if_false]
    cases sh with
    | false =>
      have h0 := each_l0 c v n s false hok [] (by simp) s.length 200 0 (by omega) (by omega)
      simp only [Bool.false_eq_true, if_false, laws_FnFopAgain.j1, fopAgain, hok, if_true]
      exact h0
    | true =>
      obtain ⟨_, _, _, c0, c1, v0, v1, _⟩ := fopOk_of hok
      have h0 := each_l0 c v n s true hok [toS (farmOpen c v)] (by simp) s.length 200 0 (by omega) (by omega)
      have ho : (toS (farmOpen c v)).f1 = true := by
        have hf : frameOk true true c v 0 (⟨#[0]⟩ : ByteArray) = true := by
          have hz : (⟨#[0]⟩ : ByteArray).size = 1 := rfl
          simp [frameOk, hz, c0, c1, v0, v1]
        unfold farmOpen
        rw [if_pos hf]
        rfl
      have hr : rd_T34 ([toS (farmOpen c v)] ++ again c v n s s.length 0) 0 = toS (farmOpen c v) := rfl
      simp only [if_true, fopAgain, hok]
      rw [if_neg (by simp only [List.length_append, List.length_singleton]; omega), if_pos (by simp only [List.length_append, List.length_singleton]; omega), hr, if_pos ho]
      simp only [laws_FnFopAgain.j1]
      exact h0

end Go.Proofs.Ytclhopldchndiaa.Pure
