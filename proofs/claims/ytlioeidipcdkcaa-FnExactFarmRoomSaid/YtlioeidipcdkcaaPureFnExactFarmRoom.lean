/- FnExactFarmRoom: the program's FarmRoom and the reference's answer alike. No conditions but that the numbers are ints. -/
import Derived.Test.YtlioeidipcdkcaaPFnExactFarmRoomx1
import Derived.Test.YtlioeidipcdkcaaAux
namespace Go.Proofs.Ytlioeidipcdkcaa.Pure
open Go Go.RowKit Go.Proofs.Ytlioeidipcdkcaa.PFnExactFarmRoom Go.Proofs.YtlioeidipcdkcaaW.PrintWords Go.Proofs.YtlioeidipcdkcaaW.PrintLast Go.Proofs.Ytlioeidipcdkcaa.Aux

namespace FnExactFarmRoomL
theorem l1In_at (a b c : Int) : spec_l1In.f a b c = some (decide (b ≤ a ∧ a ≤ c)) := by
  unfold spec_l1In.f
  by_cases h : b ≤ a
  · rw [if_pos h]
    simp [h]
  · rw [if_neg h]
    simp [h]
theorem within_at (a c : Int) : impl_within.f a c = some (decide (0 ≤ a ∧ a ≤ c)) := by
  unfold impl_within.f
  by_cases h : 0 ≤ a
  · rw [if_pos h]
    simp [h]
  · rw [if_neg h]
    simp [h]
/-- FarmOk's answer. -/
def farmOk (waits again : Bool) (count next : Int) : Bool := decide (0 ≤ count ∧ count ≤ 3) && (decide (0 ≤ next ∧ next ≤ 255) && (again || !waits))
theorem specFarmOk_at (shut waits again : Bool) (count next : Int) : spec_FarmOk.f shut waits again count next = some (farmOk waits again count next) := by
  simp only [spec_FarmOk.f, l1In_at, Option.bind_some, farmOk]
  generalize decide (0 ≤ count ∧ count ≤ 3) = b1
  generalize decide (0 ≤ next ∧ next ≤ 255) = b2
  cases b1 <;> cases b2 <;> cases waits <;> cases again <;> rfl
theorem implFarmOk_at (shut waits again : Bool) (count next : Int) : impl_FarmOk.f shut waits again count next = some (farmOk waits again count next) := by
  simp only [impl_FarmOk.f, within_at, Option.bind_some, farmOk]
  generalize decide (0 ≤ count ∧ count ≤ 3) = b1
  generalize decide (0 ≤ next ∧ next ≤ 255) = b2
  cases b1 <;> cases b2 <;> cases waits <;> cases again <;> rfl
end FnExactFarmRoomL
open FnExactFarmRoomL

theorem FnExactFarmRoom (a b c : Bool) (d e : Int) (_ : (Lit.int .i64 d).wf = true) (_ : (Lit.int .i64 e).wf = true) : laws_FnExactFarmRoom.f a b c d e = some true := by
  simp only [laws_FnExactFarmRoom.f, laws_toFarm.f, spec_FarmRoom.f, impl_FarmRoom.f, Option.bind_some, specFarmOk_at, implFarmOk_at]
  cases farmOk b c d e <;> simp [laws_eqFarm.f]

end Go.Proofs.Ytlioeidipcdkcaa.Pure
