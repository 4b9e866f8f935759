/- FnExactFarmOpen: the program's FarmOpen and the reference's answer alike. No conditions but that the numbers are ints. -/
import Derived.Test.YtlioeidipcdkcaaPFnExactFarmOpenx1
import Derived.Test.YtlioeidipcdkcaaAux
namespace Go.Proofs.Ytlioeidipcdkcaa.Pure
open Go Go.RowKit Go.Proofs.Ytlioeidipcdkcaa.PFnExactFarmOpen Go.Proofs.YtlioeidipcdkcaaW.PrintWords Go.Proofs.YtlioeidipcdkcaaW.PrintLast Go.Proofs.Ytlioeidipcdkcaa.Aux

namespace FnExactFarmOpenL
theorem l1In_at (a b c : Int) : spec_l1In.f a b c = some (decide (b ≤ a ∧ a ≤ c)) := by
  unfold spec_l1In.f
  by_cases h : b ≤ a
  · rw [if_pos h]
    simp [h]
  · rw [if_neg h]
    simp [h]
theorem within_at (a c : Int) : impl_within.f a c = some (decide (0 ≤ a ∧ a ≤ c)) := by
  unfold impl_within.f
  by_cases h : 0 ≤ a
  · rw [if_pos h]
    simp [h]
  · rw [if_neg h]
    simp [h]
theorem frameDataOk_at (s : ByteArray) : impl_frameDataOk.f s = some (decide (1 ≤ (s.size : Int) ∧ (s.size : Int) ≤ 53)) := by
  unfold impl_frameDataOk.f
  by_cases h : 1 ≤ (s.size : Int)
  · rw [if_pos h]
    simp [h]
  · rw [if_neg h]
    simp [h]
/-- FrameOk's answer. -/
def frameOk (past govern : Bool) (craft via seq : Int) (s : ByteArray) : Bool :=
  decide (0 ≤ craft ∧ craft ≤ 1023) && (decide (0 ≤ via ∧ via ≤ 63) && (decide (0 ≤ seq ∧ seq ≤ 255) && (decide (1 ≤ (s.size : Int) ∧ (s.size : Int) ≤ 53) && (past || !govern))))
theorem specFrameOk_at (past govern : Bool) (craft via seq : Int) (s : ByteArray) : spec_FrameOk.f past govern craft via seq s = some (frameOk past govern craft via seq s) := by
  simp only [spec_FrameOk.f, l1In_at, Option.bind_some, frameOk]
  generalize decide (0 ≤ craft ∧ craft ≤ 1023) = b1
  generalize decide (0 ≤ via ∧ via ≤ 63) = b2
  generalize decide (0 ≤ seq ∧ seq ≤ 255) = b3
  generalize decide (1 ≤ (s.size : Int) ∧ (s.size : Int) ≤ 53) = b4
  cases b1 <;> cases b2 <;> cases b3 <;> cases b4 <;> cases past <;> cases govern <;> rfl
theorem implFrameOk_at (past govern : Bool) (craft via seq : Int) (s : ByteArray) : impl_FrameOk.f past govern craft via seq s = some (frameOk past govern craft via seq s) := by
  simp only [impl_FrameOk.f, within_at, frameDataOk_at, Option.bind_some, frameOk]
  generalize decide (0 ≤ craft ∧ craft ≤ 1023) = b1
  generalize decide (0 ≤ via ∧ via ≤ 63) = b2
  generalize decide (0 ≤ seq ∧ seq ≤ 255) = b3
  generalize decide (1 ≤ (s.size : Int) ∧ (s.size : Int) ≤ 53) = b4
  cases b1 <;> cases b2 <;> cases b3 <;> cases b4 <;> cases past <;> cases govern <;> rfl
end FnExactFarmOpenL
open FnExactFarmOpenL

theorem FnExactFarmOpen : laws_FnExactFarmOpen.Pure := by
  intro a b _ _
  simp only [laws_FnExactFarmOpen.f, spec_FarmOpen.f, impl_FarmOpen.f, impl_governs.f, specFrameOk_at, implFrameOk_at, Option.bind_some]
  cases frameOk true true a b 0 (⟨#[0]⟩ : ByteArray) <;> simp [laws_eqFrame.f]

end Go.Proofs.Ytlioeidipcdkcaa.Pure
