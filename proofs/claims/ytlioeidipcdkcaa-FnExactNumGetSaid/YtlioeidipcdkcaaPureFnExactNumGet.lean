/- FnExactNumGet: the program's NumGet and the reference's answer alike. Conditions: the numbers are ints, the text is one that a machine holds. -/
import Derived.Test.YtlioeidipcdkcaaPFnExactNumGetx1
import Derived.Test.YtlioeidipcdkcaaAux
namespace Go.Proofs.Ytlioeidipcdkcaa.Pure
open Go Go.RowKit Go.Proofs.Ytlioeidipcdkcaa.PFnExactNumGet Go.Proofs.YtlioeidipcdkcaaW.PrintWords Go.Proofs.YtlioeidipcdkcaaW.PrintLast Go.Proofs.YtlioeidipcdkcaaW.PrintMore Go.Proofs.Ytlioeidipcdkcaa.Aux

namespace FnExactNumGetL
theorem l1In_at (a b c : Int) : spec_l1In.f a b c = some (decide (b ≤ a ∧ a ≤ c)) := by
  unfold spec_l1In.f
  by_cases h : b ≤ a
  · rw [if_pos h]
    simp [h]
  · rw [if_neg h]
    simp [h]
theorem l1Get_l0 (d : Nat) : ∀ (k : Nat) (s : ByteArray) (p size n i : Int), d < k → s.size ≤ 140737488351232 → 0 ≤ p → p + size ≤ s.size → 0 ≤ i → size ≤ 4 → size - i = d → 0 ≤ n → (n + 1) * 256 ^ d ≤ 4294967296 →
    spec_l1Get.l0 k s p size n i = some (gets s d (p + i) n) := by
  induction d with
  | zero =>
    intro k s p size n i hk hs hp hps hi hz hd hn hr
    obtain ⟨k, rfl⟩ : ∃ m, k = m + 1 := ⟨k - 1, by omega⟩
    simp only [spec_l1Get.l0]
    rw [if_neg (by omega)]
    rfl
  | succ d ih =>
    intro k s p size n i hk hs hp hps hi hz hd hn hr
    obtain ⟨k, rfl⟩ : ∃ m, k = m + 1 := ⟨k - 1, by omega⟩
    have hb := bt_range s (p + i)
    have hg := gets_room hn hr hb.2
    simp only [spec_l1Get.l0]
    rw [if_pos (by omega), w64 (x := p + i) (by omega) (by omega), if_pos (by omega), if_pos (by omega), w64 (x := n * 256) (by omega) (by omega), w64 (x := bt s (p + i)) (by omega) (by omega),
      w64 (x := n * 256 + bt s (p + i)) (by omega) (by omega), w64 (x := i + 1) (by omega) (by omega)]
    rw [ih k s p size _ (i + 1) (by omega) hs hp hps (by omega) hz (by omega) (by omega) hg.1, gets]
    congr 2
    omega
theorem specGet_at (k : Nat) (hk : 6 ≤ k) (s : ByteArray) (p size : Int) (hs : s.size ≤ 140737488351232) (h0 : -9223372036854775808 ≤ size) (h1 : size ≤ 9223372036854775807) : spec_NumGet.f k s p size = some (numGet s p size) := by
  unfold spec_NumGet.f numGet
  rw [l1In_at]
  simp only [Option.bind_some, decide_eq_true_eq]
  by_cases hz : 1 ≤ size ∧ size ≤ 4
  · rw [if_pos hz, l1In_at, w64 (by omega) (by omega)]
    simp only [Option.bind_some, decide_eq_true_eq]
    by_cases hp : 0 ≤ p ∧ p ≤ (s.size : Int) - size
    · rw [if_pos hp, if_pos ⟨hz.1, hz.2, hp.1, hp.2⟩]
      have hr : ((0 : Int) + 1) * 256 ^ size.toNat ≤ 4294967296 := by
        have h : size = 1 ∨ size = 2 ∨ size = 3 ∨ size = 4 := by omega
        rcases h with rfl | rfl | rfl | rfl <;> decide
      unfold spec_l1Get.f
      rw [l1Get_l0 size.toNat k s p size 0 0 (by omega) hs hp.1 (by omega) (by omega) hz.2 (by omega) (by omega) hr]
      simp
    · rw [if_neg hp, if_neg (by omega)]
  · rw [if_neg hz, if_neg (by omega)]
theorem implGet_l0 (d : Nat) : ∀ (k : Nat) (s : ByteArray) (p size n i : Int), d < k → s.size ≤ 140737488351232 → 0 ≤ p → p + size ≤ s.size → 0 ≤ i → size ≤ 4 → size - i = d → 0 ≤ n → (n + 1) * 256 ^ d ≤ 4294967296 →
    impl_NumGet.l0 k s p n size i = some (gets s d (p + i) n, true) := by
  induction d with
  | zero =>
    intro k s p size n i hk hs hp hps hi hz hd hn hr
    obtain ⟨k, rfl⟩ : ∃ m, k = m + 1 := ⟨k - 1, by omega⟩
    simp only [impl_NumGet.l0]
    rw [if_neg (by omega)]
    rfl
  | succ d ih =>
    intro k s p size n i hk hs hp hps hi hz hd hn hr
    obtain ⟨k, rfl⟩ : ∃ m, k = m + 1 := ⟨k - 1, by omega⟩
    have hb := bt_range s (p + i)
    have hg := gets_room hn hr hb.2
    simp only [impl_NumGet.l0]
    rw [if_pos (by omega), w64 (x := p + i) (by omega) (by omega), if_pos (by omega), if_pos (by omega), w64 (x := n * 256) (by omega) (by omega), w64 (x := bt s (p + i)) (by omega) (by omega),
      or_byte hn (by omega) hb.1 (by omega), w64 (x := i + 1) (by omega) (by omega)]
    rw [ih k s p size _ (i + 1) (by omega) hs hp hps (by omega) hz (by omega) (by omega) hg.1, gets]
    congr 3
    omega
theorem implGet_at (k : Nat) (hk : 7 ≤ k) (s : ByteArray) (p size : Int) (hs : s.size ≤ 140737488351232) (h0 : -9223372036854775808 ≤ size) (h1 : size ≤ 9223372036854775807) : impl_NumGet.f k s p size = some (numGet s p size) := by
  obtain ⟨k, rfl⟩ : ∃ m, k = m + 1 := ⟨k - 1, by omega⟩
  have j0t : ∀ a0 a1 a2, impl_NumGet.j0 (k + 1) a0 a1 a2 true = some (0, false) := fun a0 a1 a2 => by simp only [impl_NumGet.j0, if_true]
  unfold impl_NumGet.f numGet
  by_cases ha : size < 1
  · rw [if_pos ha, j0t, if_neg (by omega)]
  rw [if_neg ha]
  by_cases hb : size > 4
  · rw [if_pos hb, j0t, if_neg (by omega)]
  rw [if_neg hb]
  by_cases hc : p < 0
  · rw [if_pos hc, j0t, if_neg (by omega)]
  rw [if_neg hc, w64 (by omega) (by omega)]
  by_cases hd : p > (s.size : Int) - size
  · rw [decide_eq_true hd, j0t, if_neg (by omega)]
  · rw [decide_eq_false hd, if_pos ⟨by omega, by omega, by omega, by omega⟩]
    simp only [impl_NumGet.j0, Bool.false_eq_true, if_false]
    have hr : ((0 : Int) + 1) * 256 ^ size.toNat ≤ 4294967296 := by
      have h : size = 1 ∨ size = 2 ∨ size = 3 ∨ size = 4 := by omega
      rcases h with rfl | rfl | rfl | rfl <;> decide
    rw [implGet_l0 size.toNat k s p size 0 0 (by omega) hs (by omega) (by omega) (by omega) (by omega) (by omega) (by omega) hr]
    simp
end FnExactNumGetL
open FnExactNumGetL

theorem FnExactNumGet : laws_FnExactNumGet.Pure := by
  intro s p size hs hp hz
  have hz' : -9223372036854775808 ≤ size ∧ size ≤ 9223372036854775807 := by simpa [Lit.wf, IntKind.min, IntKind.max, IntKind.bits, IntKind.signed] using hz
  refine ⟨10, ?_⟩
  unfold laws_FnExactNumGet.f
  rw [specGet_at 10 (by decide) s p size hs hz'.1 hz'.2, implGet_at 10 (by decide) s p size hs hz'.1 hz'.2]
  simp

end Go.Proofs.Ytlioeidipcdkcaa.Pure
