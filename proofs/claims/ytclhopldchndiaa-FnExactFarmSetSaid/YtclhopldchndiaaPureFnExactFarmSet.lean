/- FnExactFarmSet: the program's FarmSet and the reference's answer alike. No conditions but that the numbers are ints. -/
import Derived.Test.YtclhopldchndiaaPFnExactFarmSetx2
import Derived.Test.YtclhopldchndiaaAux
namespace Go.Proofs.Ytclhopldchndiaa.Pure
open Go Go.RowKit Go.Proofs.Ytclhopldchndiaa.PFnExactFarmSet Go.Proofs.YtclhopldchndiaaW.PrintWords Go.Proofs.YtclhopldchndiaaW.PrintLast Go.Proofs.YtclhopldchndiaaW.PrintMore Go.Proofs.Ytclhopldchndiaa.Aux

namespace FnExactFarmSetL
theorem l1In_at (a b c : Int) : spec_l1In.f a b c = some (decide (b ≤ a ∧ a ≤ c)) := by
  unfold spec_l1In.f
  by_cases h : b ≤ a
  · rw [if_pos h]
    simp [h]
  · rw [if_neg h]
    simp [h]
theorem within_at (a c : Int) : impl_within.f a c = some (decide (0 ≤ a ∧ a ≤ c)) := by
  unfold impl_within.f
  by_cases h : 0 ≤ a
  · rw [if_pos h]
    simp [h]
  · rw [if_neg h]
    simp [h]
theorem frameDataOk_at (s : ByteArray) : impl_frameDataOk.f s = some (decide (1 ≤ (s.size : Int) ∧ (s.size : Int) ≤ 53)) := by
  unfold impl_frameDataOk.f
  by_cases h : 1 ≤ (s.size : Int)
  · rw [if_pos h]
    simp [h]
  · rw [if_neg h]
    simp [h]
/-- FrameOk's answer. -/
def frameOk (past govern : Bool) (craft via seq : Int) (s : ByteArray) : Bool :=
  decide (0 ≤ craft ∧ craft ≤ 1023) && (decide (0 ≤ via ∧ via ≤ 63) && (decide (0 ≤ seq ∧ seq ≤ 255) && (decide (1 ≤ (s.size : Int) ∧ (s.size : Int) ≤ 53) && (past || !govern))))
theorem specFrameOk_at (past govern : Bool) (craft via seq : Int) (s : ByteArray) : spec_FrameOk.f past govern craft via seq s = some (frameOk past govern craft via seq s) := by
  simp only [spec_FrameOk.f, l1In_at, Option.bind_some, frameOk]
  generalize decide (0 ≤ craft ∧ craft ≤ 1023) = b1
  generalize decide (0 ≤ via ∧ via ≤ 63) = b2
  generalize decide (0 ≤ seq ∧ seq ≤ 255) = b3
  generalize decide (1 ≤ (s.size : Int) ∧ (s.size : Int) ≤ 53) = b4
  cases b1 <;> cases b2 <;> cases b3 <;> cases b4 <;> cases past <;> cases govern <;> rfl
theorem implFrameOk_at (past govern : Bool) (craft via seq : Int) (s : ByteArray) : impl_FrameOk.f past govern craft via seq s = some (frameOk past govern craft via seq s) := by
  simp only [impl_FrameOk.f, within_at, frameDataOk_at, Option.bind_some, frameOk]
  generalize decide (0 ≤ craft ∧ craft ≤ 1023) = b1
  generalize decide (0 ≤ via ∧ via ≤ 63) = b2
  generalize decide (0 ≤ seq ∧ seq ≤ 255) = b3
  generalize decide (1 ≤ (s.size : Int) ∧ (s.size : Int) ≤ 53) = b4
  cases b1 <;> cases b2 <;> cases b3 <;> cases b4 <;> cases past <;> cases govern <;> rfl
theorem l1Put_l0 (d : Nat) : ∀ (k : Nat) (n size i : Int) (out : ByteArray), d < k → 0 ≤ n → n ≤ 9223372036854775807 → 0 ≤ i → size ≤ 4 → size - i = d → out.size ≤ 4 - d →
    spec_l1Put.l0 k n size out i = some (strOfNums (be d n) ++ out) := by
  induction d with
  | zero =>
    intro k n size i out hk h0 h1 hi hs hd ho
    obtain ⟨k, rfl⟩ : ∃ m, k = m + 1 := ⟨k - 1, by omega⟩
    simp only [spec_l1Put.l0]
    rw [if_neg (by omega)]
    show some out = some ((⟨#[]⟩ : ByteArray) ++ out)
    rw [str_nil_append]
  | succ d ih =>
    intro k n size i out hk h0 h1 hi hs hd ho
    obtain ⟨k, rfl⟩ : ∃ m, k = m + 1 := ⟨k - 1, by omega⟩
    have hsz : (strOfNums [(Int.tmod n 256) % 256]).size = 1 := by rw [strOfNums_size]; rfl
    simp only [spec_l1Put.l0]
    rw [if_pos (by omega)]
    simp only [Option.bind_some]
    rw [if_pos (by omega), w64 (x := i + 1) (by omega) (by omega), tdivp h0, w64 (x := n / 256) (by omega) (by omega)]
    rw [ih _ _ _ _ _ (by omega) (by omega) (by omega) (by omega) hs (by omega) (by rw [ByteArray.size_append]; omega)]
    have e : (Int.tmod n 256) % 256 = n % 256 := by rw [tmodp h0]; omega
    rw [e, be, strOfNums_append, ByteArray.append_assoc]
theorem l1Put_at (k : Nat) (hk : 5 ≤ k) (n size : Int) (h0 : 0 ≤ n) (h1 : n ≤ 9223372036854775807) (hs0 : 0 ≤ size) (hs : size ≤ 4) :
    spec_l1Put.f k n size = some (strOfNums (be size.toNat n)) := by
  unfold spec_l1Put.f
  rw [l1Put_l0 size.toNat k n size 0 _ (by omega) h0 h1 (by omega) hs (by omega) (by show 0 ≤ _; omega), str_append_nil]
theorem implPut_l0 (d : Nat) : ∀ (k : Nat) (n : Int) (xs : List Int), d < k → 0 ≤ n → n ≤ 9223372036854775807 → d ≤ xs.length → xs.length ≤ 4 →
    impl_NumPut.l0 k n xs ((d : Int) - 1) = some (strOfNums (be d n ++ xs.drop d)) := by
  induction d with
  | zero =>
    intro k n xs hk h0 h1 hd hx
    obtain ⟨k, rfl⟩ : ∃ m, k = m + 1 := ⟨k - 1, by omega⟩
    simp only [impl_NumPut.l0]
    rw [if_neg (by omega)]
    simp [be]
  | succ d ih =>
    intro k n xs hk h0 h1 hd hx
    obtain ⟨k, rfl⟩ : ∃ m, k = m + 1 := ⟨k - 1, by omega⟩
    simp only [impl_NumPut.l0]
    have e1 : ((d + 1 : Nat) : Int) - 1 = d := by omega
    rw [e1, if_pos (by omega), if_pos (by omega), if_pos (by omega), and255 h0 (by omega), w64 (x := (d : Int) - 1) (by omega) (by omega)]
    have e2 : ((d : Int)).toNat = d := by omega
    rw [e2, ih _ _ _ (by omega) (by omega) (by omega) (by rw [List.length_set]; omega) (by rw [List.length_set]; omega)]
    have hl : d < (xs.set d (n % 256 % 256)).length := by rw [List.length_set]; omega
    rw [List.drop_eq_getElem_cons hl, List.getElem_set_self, List.drop_set_of_lt (by omega)]
    have e3 : n % 256 % 256 = n % 256 := by omega
    rw [e3, be, List.append_assoc]
    rfl
theorem implPut_at (k : Nat) (hk : 7 ≤ k) (n size : Int) (h1 : n ≤ 9223372036854775807) : impl_NumPut.f k n size = some (numPut n size) := by
  obtain ⟨k, rfl⟩ : ∃ m, k = m + 1 := ⟨k - 1, by omega⟩
  have j0t : ∀ a0 a1, impl_NumPut.j0 (k + 1) a0 a1 true = some (⟨#[]⟩ : ByteArray) := fun a0 a1 => by simp only [impl_NumPut.j0, if_true]
  unfold impl_NumPut.f numPut
  by_cases ha : size < 1
  · rw [if_pos ha, j0t, if_neg (by omega)]
  rw [if_neg ha]
  by_cases hb : size > 4
  · rw [if_pos hb, j0t, if_neg (by omega)]
  rw [if_neg hb]
  by_cases hc : n < 0
  · rw [if_pos hc, j0t, if_neg (by omega)]
  rw [if_neg hc, if_pos (by rw [w64 (by omega) (by omega)]; omega)]
  have hs : shr .i64 n (wrap64 (8 * size)) = n / 256 ^ size.toNat := by
    have h : size = 1 ∨ size = 2 ∨ size = 3 ∨ size = 4 := by omega
    unfold shr
    rcases h with rfl | rfl | rfl | rfl <;> exact congrArg (fun m => n / m) (by decide +kernel)
  have hp : (0 : Int) < 256 ^ size.toNat := Int.pow_pos (by decide)
  rw [hs]
  by_cases h : n < 256 ^ size.toNat
  · rw [if_pos ⟨by omega, by omega, by omega, h⟩, Int.ediv_eq_zero_of_lt (by omega) h]
    simp only [impl_NumPut.j0, bne_self_eq_false, Bool.false_eq_true, if_false]
    rw [if_pos (by omega), if_pos (by omega), w64 (by omega) (by omega)]
    have e : size - 1 = ((size.toNat : Nat) : Int) - 1 := by omega
    rw [e, implPut_l0 size.toNat k n _ (by omega) (by omega) h1 (by rw [List.length_replicate]; omega) (by rw [List.length_replicate]; omega)]
    rw [List.drop_eq_nil_of_le (by rw [List.length_replicate]; omega), List.append_nil]
  · have h2 : 1 ≤ n / 256 ^ size.toNat := Int.le_ediv_of_mul_le hp (by omega)
    have h3 : (n / 256 ^ size.toNat != 0) = true := by simp; omega
    rw [h3, j0t, if_neg (by omega)]
end FnExactFarmSetL
open FnExactFarmSetL

theorem FnExactFarmSet : laws_FnExactFarmSet.Pure := by
  intro a b n _ _ _
  refine ⟨20, ?_⟩
  simp only [laws_FnExactFarmSet.f, spec_FarmSet.f, impl_FarmSet.f, impl_governs.f, l1In_at, within_at, specFrameOk_at, implFrameOk_at, Option.bind_some, decide_eq_true_eq]
  by_cases h : 0 ≤ n ∧ n ≤ 255
  · have hn : numPut n 1 = strOfNums (be 1 n) := by
      unfold numPut
      rw [if_pos ⟨by decide, by decide, h.1, by show n < 256; omega⟩]
      rfl
    have hz : (strOfNums (be 1 n)).size = 1 := by rw [strOfNums_size, be_length]
    have e1 : (1 : Int).toNat = 1 := rfl
    simp only [if_pos h, l1Put_at 20 (by decide) n 1 h.1 (by omega) (by decide) (by decide), implPut_at 20 (by decide) n 1 (by omega), hn, e1, Option.bind_some, hz]
    cases frameOk true true a b 0 ((⟨#[130, 0]⟩ : ByteArray) ++ strOfNums (be 1 n)) <;> simp [laws_eqFrame.f]
  · simp [if_neg h, laws_eqFrame.f]

end Go.Proofs.Ytclhopldchndiaa.Pure
