-- written by a program of this session (tools/hprint.py, a turned copy of the kit print) out of the translation; Lean checks it
import Derived.Test.YtnadkhgdeofheaaPFnRulesLessx0
import Derived.Test.YtnadkhgdeofheaaPFnRulesLessx4
namespace Go.Proofs.Ytnadkhgdeofheaa.PFnRulesLess
open Go.RowKit Go.Proofs.YtnadkhgdeofheaaW.PrintWords Go.Proofs.YtnadkhgdeofheaaW.PrintLast Go.Proofs.YtnadkhgdeofheaaW.PrintMore
attribute [local go_sem] max2_int min2_int max_two min_two max_three min_three max_four min_four   -- for this text's walks alone
set_option linter.unusedVariables false
set_option linter.unusedSimpArgs false

/-! ### spec_RulesLess: function 19 -/
mutual
def spec_RulesLess.l0 : Nat → List (S31) → List (S31) → Int → Option ((List (S31)))
 | 0, _, _, _ => none
 | k + 1, x0, x3, x4 => if x4 < (x0.length : Int) then (if 0 ≤ x4 then (if ((rd_T31 x0 x4).f4 = true) then (spec_RulesLess.j1 k x0 x3 x4 false ((rd_T31 x0 x4).f0) ((rd_T31 x0 x4).f1) ((rd_T31 x0 x4).f2) ((rd_T31 x0 x4).f3) ((rd_T31 x0 x4).f4) ((rd_T31 x0 x4).f5)) else (spec_RulesLess.j1 k x0 x3 x4 (!((rd_T31 x0 x4).f5)) ((rd_T31 x0 x4).f0) ((rd_T31 x0 x4).f1) ((rd_T31 x0 x4).f2) ((rd_T31 x0 x4).f3) ((rd_T31 x0 x4).f4) ((rd_T31 x0 x4).f5))) else (none)) else (some x3)
def spec_RulesLess.j1 : Nat → List (S31) → List (S31) → Int → Bool → Int → Int → Int → Int → Bool → Bool → Option ((List (S31)))
 | 0, _, _, _, _, _, _, _, _, _, _ => none
 | k + 1, x0, x3, x4, x29, x274000, x274001, x274002, x274003, x274004, x274005 => if x29 = true then (spec_RulesLess.l0 k x0 x3 (wrap64 (x4 + 1))) else (spec_RulesLess.l1 k x0 x3 x4 0 x274000 x274001 x274002 x274003 x274004 x274005)
def spec_RulesLess.l1 : Nat → List (S31) → List (S31) → Int → Int → Int → Int → Int → Int → Bool → Bool → Option ((List (S31)))
 | 0, _, _, _, _, _, _, _, _, _, _ => none
 | k + 1, x0, x3, x4, x6, x274000, x274001, x274002, x274003, x274004, x274005 => if x6 < (x3.length : Int) then (if 0 ≤ x6 then (if ((rd_T31 x3 x6).f0) = x274000 then (if ((rd_T31 x3 x6).f1) = x274001 then (if ((rd_T31 x3 x6).f2) = x274002 then (if ((rd_T31 x3 x6).f3) = x274003 then (if x6 = (x3.length : Int) then (if x3.length < 3518437208883 then (spec_RulesLess.l0 k x0 (x3 ++ [(⟨x274000, x274001, x274002, x274003, x274004, x274005⟩ : S31)]) (wrap64 (x4 + 1))) else (none)) else (if (rd_T31 x3 x6).f4 = true then ((some (x3.set (x6 : Int).toNat (⟨(rd_T31 x3 x6).f0, (rd_T31 x3 x6).f1, (rd_T31 x3 x6).f2, (rd_T31 x3 x6).f3, true, (rd_T31 x3 x6).f5⟩ : S31) : List (S31))).bind fun y282 => (if (rd_T31 y282 x6).f5 = true then (spec_RulesLess.l0 k x0 (y282.set (x6 : Int).toNat (⟨(rd_T31 y282 x6).f0, (rd_T31 y282 x6).f1, (rd_T31 y282 x6).f2, (rd_T31 y282 x6).f3, (rd_T31 y282 x6).f4, true⟩ : S31)) (wrap64 (x4 + 1))) else (spec_RulesLess.l0 k x0 (y282.set (x6 : Int).toNat (⟨(rd_T31 y282 x6).f0, (rd_T31 y282 x6).f1, (rd_T31 y282 x6).f2, (rd_T31 y282 x6).f3, (rd_T31 y282 x6).f4, x274005⟩ : S31)) (wrap64 (x4 + 1))))) else ((some (x3.set (x6 : Int).toNat (⟨(rd_T31 x3 x6).f0, (rd_T31 x3 x6).f1, (rd_T31 x3 x6).f2, (rd_T31 x3 x6).f3, x274004, (rd_T31 x3 x6).f5⟩ : S31) : List (S31))).bind fun y286 => (if (rd_T31 y286 x6).f5 = true then (spec_RulesLess.l0 k x0 (y286.set (x6 : Int).toNat (⟨(rd_T31 y286 x6).f0, (rd_T31 y286 x6).f1, (rd_T31 y286 x6).f2, (rd_T31 y286 x6).f3, (rd_T31 y286 x6).f4, true⟩ : S31)) (wrap64 (x4 + 1))) else (spec_RulesLess.l0 k x0 (y286.set (x6 : Int).toNat (⟨(rd_T31 y286 x6).f0, (rd_T31 y286 x6).f1, (rd_T31 y286 x6).f2, (rd_T31 y286 x6).f3, (rd_T31 y286 x6).f4, x274005⟩ : S31)) (wrap64 (x4 + 1))))))) else (spec_RulesLess.l1 k x0 x3 x4 (wrap64 (x6 + 1)) x274000 x274001 x274002 x274003 x274004 x274005)) else (spec_RulesLess.l1 k x0 x3 x4 (wrap64 (x6 + 1)) x274000 x274001 x274002 x274003 x274004 x274005)) else (spec_RulesLess.l1 k x0 x3 x4 (wrap64 (x6 + 1)) x274000 x274001 x274002 x274003 x274004 x274005)) else (spec_RulesLess.l1 k x0 x3 x4 (wrap64 (x6 + 1)) x274000 x274001 x274002 x274003 x274004 x274005)) else (none)) else (if x6 = (x3.length : Int) then (if x3.length < 3518437208883 then (spec_RulesLess.l0 k x0 (x3 ++ [(⟨x274000, x274001, x274002, x274003, x274004, x274005⟩ : S31)]) (wrap64 (x4 + 1))) else (none)) else (if 0 ≤ x6 then (none) else (none)))
end
def spec_RulesLess.f (k : Nat) (l0 : List (S31)) : Option ((List (S31))) := (some (([] : List (S31)) : List (S31))).bind fun y268 => ((spec_RulesOk.f k l0).bind fun t271 => (if t271 = true then (spec_RulesLess.l0 k l0 y268 0) else (some y268)))
theorem spec_RulesLess.mono_l : ∀ k, (∀ y0 y1 y2, LeO (spec_RulesLess.l0 k y0 y1 y2) (spec_RulesLess.l0 (k + 1) y0 y1 y2)) ∧ (∀ y0 y1 y2 y3 y4 y5 y6 y7 y8 y9, LeO (spec_RulesLess.j1 k y0 y1 y2 y3 y4 y5 y6 y7 y8 y9) (spec_RulesLess.j1 (k + 1) y0 y1 y2 y3 y4 y5 y6 y7 y8 y9)) ∧ (∀ y0 y1 y2 y3 y4 y5 y6 y7 y8 y9, LeO (spec_RulesLess.l1 k y0 y1 y2 y3 y4 y5 y6 y7 y8 y9) (spec_RulesLess.l1 (k + 1) y0 y1 y2 y3 y4 y5 y6 y7 y8 y9))
 | 0 => ⟨fun _ _ _ r h => by simp [spec_RulesLess.l0] at h, fun _ _ _ _ _ _ _ _ _ _ r h => by simp [spec_RulesLess.j1] at h, fun _ _ _ _ _ _ _ _ _ _ r h => by simp [spec_RulesLess.l1] at h⟩
 | k + 1 => by
  obtain ⟨ih0, ih1, ih2⟩ := spec_RulesLess.mono_l k
  refine ⟨?_, ?_, ?_⟩
  ·intro y0 y1 y2
   unfold spec_RulesLess.l0
   repeat' first
   | (with_reducible exact ih0 _ _ _)
   | (with_reducible exact ih1 _ _ _ _ _ _ _ _ _ _)
   | (with_reducible exact ih2 _ _ _ _ _ _ _ _ _ _)
   | (with_reducible exact spec_RulesOk.mono _ _)
   | (with_reducible exact LeO.refl _)
   | (with_reducible exact LeO.none _)
   | (with_reducible refine LeO.ite ?_ ?_)
   | (with_reducible refine LeO.bind ?_ (fun _ => ?_))
   | exact ih0 _ _ _
   | exact ih1 _ _ _ _ _ _ _ _ _ _
   | exact ih2 _ _ _ _ _ _ _ _ _ _
   | exact spec_RulesOk.mono _ _
   | exact LeO.none _
   | refine LeO.ite ?_ ?_
   | refine LeO.bind ?_ (fun _ => ?_)
  ·intro y0 y1 y2 y3 y4 y5 y6 y7 y8 y9
   unfold spec_RulesLess.j1
   repeat' first
   | (with_reducible exact ih0 _ _ _)
   | (with_reducible exact ih1 _ _ _ _ _ _ _ _ _ _)
   | (with_reducible exact ih2 _ _ _ _ _ _ _ _ _ _)
   | (with_reducible exact spec_RulesOk.mono _ _)
   | (with_reducible exact LeO.refl _)
   | (with_reducible exact LeO.none _)
   | (with_reducible refine LeO.ite ?_ ?_)
   | (with_reducible refine LeO.bind ?_ (fun _ => ?_))
   | exact ih0 _ _ _
   | exact ih1 _ _ _ _ _ _ _ _ _ _
   | exact ih2 _ _ _ _ _ _ _ _ _ _
   | exact spec_RulesOk.mono _ _
   | exact LeO.none _
   | refine LeO.ite ?_ ?_
   | refine LeO.bind ?_ (fun _ => ?_)
  ·intro y0 y1 y2 y3 y4 y5 y6 y7 y8 y9
   unfold spec_RulesLess.l1
   repeat' first
   | (with_reducible exact ih0 _ _ _)
   | (with_reducible exact ih1 _ _ _ _ _ _ _ _ _ _)
   | (with_reducible exact ih2 _ _ _ _ _ _ _ _ _ _)
   | (with_reducible exact spec_RulesOk.mono _ _)
   | (with_reducible exact LeO.refl _)
   | (with_reducible exact LeO.none _)
   | (with_reducible refine LeO.ite ?_ ?_)
   | (with_reducible refine LeO.bind ?_ (fun _ => ?_))
   | exact ih0 _ _ _
   | exact ih1 _ _ _ _ _ _ _ _ _ _
   | exact ih2 _ _ _ _ _ _ _ _ _ _
   | exact spec_RulesOk.mono _ _
   | exact LeO.none _
   | refine LeO.ite ?_ ?_
   | refine LeO.bind ?_ (fun _ => ?_)
theorem spec_RulesLess.mono : ∀ a0 k, LeO (spec_RulesLess.f k a0) (spec_RulesLess.f (k + 1) a0) := by
 intro a0 k
 obtain ⟨ih0, ih1, ih2⟩ := spec_RulesLess.mono_l k
 unfold spec_RulesLess.f
 repeat' first
   | (with_reducible exact ih0 _ _ _)
   | (with_reducible exact ih1 _ _ _ _ _ _ _ _ _ _)
   | (with_reducible exact ih2 _ _ _ _ _ _ _ _ _ _)
   | (with_reducible exact spec_RulesOk.mono _ _)
   | (with_reducible exact LeO.refl _)
   | (with_reducible exact LeO.none _)
   | (with_reducible refine LeO.ite ?_ ?_)
   | (with_reducible refine LeO.bind ?_ (fun _ => ?_))
   | exact ih0 _ _ _
   | exact ih1 _ _ _ _ _ _ _ _ _ _
   | exact ih2 _ _ _ _ _ _ _ _ _ _
   | exact spec_RulesOk.mono _ _
   | exact LeO.none _
   | refine LeO.ite ?_ ?_
   | refine LeO.bind ?_ (fun _ => ?_)
end Go.Proofs.Ytnadkhgdeofheaa.PFnRulesLess
