-- written by a program of this session (tools/hprint.py, a turned copy of the kit print) out of the translation; Lean checks it
import Derived.Test.YthiddhipphaacaaPFnExactPlanShiftx0
import Derived.Test.YthiddhipphaacaaPFnExactPlanShiftx2
import Derived.Test.YthiddhipphaacaaPFnExactPlanShiftx4
import Derived.Test.YthiddhipphaacaaPFnExactPlanShiftx5
import Derived.Test.YthiddhipphaacaaPFnExactPlanShiftx6
namespace Go.Proofs.Ythiddhipphaacaa.PFnExactPlanShift
open Go.RowKit Go.Proofs.YthiddhipphaacaaW.PrintWords Go.Proofs.YthiddhipphaacaaW.PrintLast Go.Proofs.YthiddhipphaacaaW.PrintMore
attribute [local go_sem] max2_int min2_int max_two min_two max_three min_three max_four min_four   -- for this text's walks alone
set_option linter.unusedVariables false
set_option linter.unusedSimpArgs false

/-! ### laws_FnExactPlanShift: function 6 -/
mutual
def laws_FnExactPlanShift.j0 : Nat → Int → Int → Int → Int → Bool → Bool → List (S61) → Bool → List (S32) → Bool → List (S32) → Bool → List (S32) → Option (Bool)
 | 0, _, _, _, _, _, _, _, _, _, _, _, _, _ => none
 | k + 1, x1, x2, x9, x12, x48, x216000, x216001, x227000, x227001, x232000, x232001, x238000, x238001 => if x48 = true then (some false) else ((laws_toPlan.f k x216000 x216001).bind fun bt239 => ((laws_eqPlan.f k x232000 x232001 bt239.1 bt239.2).bind fun t243 => (if t243 = true then ((laws_markPlan.f k x232000 x232001 1).bind fun bt244 => (if bt244.1 < 0 then (laws_FnExactPlanShift.j1 k x1 x2 x9 true x216000 x216001 x227000 x227001 x238000 x238001) else ((laws_eqPlan.f k x238000 x238001 x227000 x227001).bind fun t246 => (if t246 = true then (laws_FnExactPlanShift.j1 k x1 x2 x9 (x12 != x9) x216000 x216001 x227000 x227001 x238000 x238001) else (laws_FnExactPlanShift.j1 k x1 x2 x9 true x216000 x216001 x227000 x227001 x238000 x238001))))) else (some false))))
def laws_FnExactPlanShift.j1 : Nat → Int → Int → Int → Bool → Bool → List (S61) → Bool → List (S32) → Bool → List (S32) → Option (Bool)
 | 0, _, _, _, _, _, _, _, _, _, _ => none
 | k + 1, x1, x2, x9, x69, x216000, x216001, x227000, x227001, x238000, x238001 => if x69 = true then (some false) else ((laws_markPlan.f k x238000 x238001 1).bind fun bt247 => ((laws_heldPlan.f k x238000 bt247.2 1).bind fun t249 => (if t249 < 0 then (some false) else (if t249 = bt247.1 then ((laws_toPlan.f k x216000 x216001).bind fun bt250 => ((impl_PlanShift.f k bt250.1 bt250.2 x1 x2).bind fun bt254 => ((laws_eqPlan.f k bt254.1 bt254.2.1 x227000 x227001).bind fun t260 => (if t260 = true then (laws_FnExactPlanShift.j2 k bt247.1 (bt254.2.2 != x9) x238000 bt247.2) else (laws_FnExactPlanShift.j2 k bt247.1 true x238000 bt247.2))))) else (some false)))))
def laws_FnExactPlanShift.j2 : Nat → Int → Bool → Bool → List (S32) → Option (Bool)
 | 0, _, _, _, _ => none
 | k + 1, x14, x97, x238000, x238001 => if x97 = true then (some false) else ((laws_heldPlan.f k x238000 x238001 1).bind fun t261 => (if t261 < 0 then (some false) else (if t261 = x14 then (some true) else (some false))))
end
def laws_FnExactPlanShift.f (k : Nat) (a0_0 : Bool) (l0_1 : List (S61)) (a1 : Int) (a2 : Int) : Option (Bool) := (laws_szPlan.f k a0_0 l0_1 1048576).bind fun t216 => (if t216 < 0 then (some true) else ((laws_toPlan.f k a0_0 l0_1).bind fun bt217 => ((spec_PlanShift.f k bt217.1 bt217.2 a1 a2).bind fun bt221 => ((laws_toPlan.f k a0_0 l0_1).bind fun bt227 => ((impl_PlanShift.f k bt227.1 bt227.2 a1 a2).bind fun bt232 => ((laws_eqPlan.f k bt232.1 bt232.2.1 bt221.1 bt221.2.1).bind fun t238 => (if t238 = true then (laws_FnExactPlanShift.j0 k a1 a2 bt221.2.2 bt232.2.2 (bt232.2.2 != bt221.2.2) a0_0 l0_1 bt221.1 bt221.2.1 bt227.1 bt227.2 bt232.1 bt232.2.1) else (laws_FnExactPlanShift.j0 k a1 a2 bt221.2.2 bt232.2.2 true a0_0 l0_1 bt221.1 bt221.2.1 bt227.1 bt227.2 bt232.1 bt232.2.1))))))))
theorem laws_FnExactPlanShift.mono_l : ∀ k, (∀ y0 y1 y2 y3 y4 y5 y6 y7 y8 y9 y10 y11 y12, LeO (laws_FnExactPlanShift.j0 k y0 y1 y2 y3 y4 y5 y6 y7 y8 y9 y10 y11 y12) (laws_FnExactPlanShift.j0 (k + 1) y0 y1 y2 y3 y4 y5 y6 y7 y8 y9 y10 y11 y12)) ∧ (∀ y0 y1 y2 y3 y4 y5 y6 y7 y8 y9, LeO (laws_FnExactPlanShift.j1 k y0 y1 y2 y3 y4 y5 y6 y7 y8 y9) (laws_FnExactPlanShift.j1 (k + 1) y0 y1 y2 y3 y4 y5 y6 y7 y8 y9)) ∧ (∀ y0 y1 y2 y3, LeO (laws_FnExactPlanShift.j2 k y0 y1 y2 y3) (laws_FnExactPlanShift.j2 (k + 1) y0 y1 y2 y3))
 | 0 => ⟨fun _ _ _ _ _ _ _ _ _ _ _ _ _ r h => by simp [laws_FnExactPlanShift.j0] at h, fun _ _ _ _ _ _ _ _ _ _ r h => by simp [laws_FnExactPlanShift.j1] at h, fun _ _ _ _ r h => by simp [laws_FnExactPlanShift.j2] at h⟩
 | k + 1 => by
  obtain ⟨ih0, ih1, ih2⟩ := laws_FnExactPlanShift.mono_l k
  refine ⟨?_, ?_, ?_⟩
  ·intro y0 y1 y2 y3 y4 y5 y6 y7 y8 y9 y10 y11 y12
   unfold laws_FnExactPlanShift.j0
   repeat' first
   | (with_reducible exact ih0 _ _ _ _ _ _ _ _ _ _ _ _ _)
   | (with_reducible exact ih1 _ _ _ _ _ _ _ _ _ _)
   | (with_reducible exact ih2 _ _ _ _)
   | (with_reducible exact impl_PlanShift.mono _ _ _ _ _)
   | (with_reducible exact laws_eqPlan.mono _ _ _ _ _)
   | (with_reducible exact laws_heldPlan.mono _ _ _ _)
   | (with_reducible exact laws_markPlan.mono _ _ _ _)
   | (with_reducible exact laws_szPlan.mono _ _ _ _)
   | (with_reducible exact laws_toPlan.mono _ _ _)
   | (with_reducible exact spec_PlanShift.mono _ _ _ _ _)
   | (with_reducible exact LeO.refl _)
   | (with_reducible exact LeO.none _)
   | (with_reducible refine LeO.ite ?_ ?_)
   | (with_reducible refine LeO.bind ?_ (fun _ => ?_))
   | exact ih0 _ _ _ _ _ _ _ _ _ _ _ _ _
   | exact ih1 _ _ _ _ _ _ _ _ _ _
   | exact ih2 _ _ _ _
   | exact impl_PlanShift.mono _ _ _ _ _
   | exact laws_eqPlan.mono _ _ _ _ _
   | exact laws_heldPlan.mono _ _ _ _
   | exact laws_markPlan.mono _ _ _ _
   | exact laws_szPlan.mono _ _ _ _
   | exact laws_toPlan.mono _ _ _
   | exact spec_PlanShift.mono _ _ _ _ _
   | exact LeO.none _
   | refine LeO.ite ?_ ?_
   | refine LeO.bind ?_ (fun _ => ?_)
  ·intro y0 y1 y2 y3 y4 y5 y6 y7 y8 y9
   unfold laws_FnExactPlanShift.j1
   repeat' first
   | (with_reducible exact ih0 _ _ _ _ _ _ _ _ _ _ _ _ _)
   | (with_reducible exact ih1 _ _ _ _ _ _ _ _ _ _)
   | (with_reducible exact ih2 _ _ _ _)
   | (with_reducible exact impl_PlanShift.mono _ _ _ _ _)
   | (with_reducible exact laws_eqPlan.mono _ _ _ _ _)
   | (with_reducible exact laws_heldPlan.mono _ _ _ _)
   | (with_reducible exact laws_markPlan.mono _ _ _ _)
   | (with_reducible exact laws_szPlan.mono _ _ _ _)
   | (with_reducible exact laws_toPlan.mono _ _ _)
   | (with_reducible exact spec_PlanShift.mono _ _ _ _ _)
   | (with_reducible exact LeO.refl _)
   | (with_reducible exact LeO.none _)
   | (with_reducible refine LeO.ite ?_ ?_)
   | (with_reducible refine LeO.bind ?_ (fun _ => ?_))
   | exact ih0 _ _ _ _ _ _ _ _ _ _ _ _ _
   | exact ih1 _ _ _ _ _ _ _ _ _ _
   | exact ih2 _ _ _ _
   | exact impl_PlanShift.mono _ _ _ _ _
   | exact laws_eqPlan.mono _ _ _ _ _
   | exact laws_heldPlan.mono _ _ _ _
   | exact laws_markPlan.mono _ _ _ _
   | exact laws_szPlan.mono _ _ _ _
   | exact laws_toPlan.mono _ _ _
   | exact spec_PlanShift.mono _ _ _ _ _
   | exact LeO.none _
   | refine LeO.ite ?_ ?_
   | refine LeO.bind ?_ (fun _ => ?_)
  ·intro y0 y1 y2 y3
   unfold laws_FnExactPlanShift.j2
   repeat' first
   | (with_reducible exact ih0 _ _ _ _ _ _ _ _ _ _ _ _ _)
   | (with_reducible exact ih1 _ _ _ _ _ _ _ _ _ _)
   | (with_reducible exact ih2 _ _ _ _)
   | (with_reducible exact impl_PlanShift.mono _ _ _ _ _)
   | (with_reducible exact laws_eqPlan.mono _ _ _ _ _)
   | (with_reducible exact laws_heldPlan.mono _ _ _ _)
   | (with_reducible exact laws_markPlan.mono _ _ _ _)
   | (with_reducible exact laws_szPlan.mono _ _ _ _)
   | (with_reducible exact laws_toPlan.mono _ _ _)
   | (with_reducible exact spec_PlanShift.mono _ _ _ _ _)
   | (with_reducible exact LeO.refl _)
   | (with_reducible exact LeO.none _)
   | (with_reducible refine LeO.ite ?_ ?_)
   | (with_reducible refine LeO.bind ?_ (fun _ => ?_))
   | exact ih0 _ _ _ _ _ _ _ _ _ _ _ _ _
   | exact ih1 _ _ _ _ _ _ _ _ _ _
   | exact ih2 _ _ _ _
   | exact impl_PlanShift.mono _ _ _ _ _
   | exact laws_eqPlan.mono _ _ _ _ _
   | exact laws_heldPlan.mono _ _ _ _
   | exact laws_markPlan.mono _ _ _ _
   | exact laws_szPlan.mono _ _ _ _
   | exact laws_toPlan.mono _ _ _
   | exact spec_PlanShift.mono _ _ _ _ _
   | exact LeO.none _
   | refine LeO.ite ?_ ?_
   | refine LeO.bind ?_ (fun _ => ?_)
theorem laws_FnExactPlanShift.mono : ∀ a0 a1 a2 a3 k, LeO (laws_FnExactPlanShift.f k a0 a1 a2 a3) (laws_FnExactPlanShift.f (k + 1) a0 a1 a2 a3) := by
 intro a0 a1 a2 a3 k
 obtain ⟨ih0, ih1, ih2⟩ := laws_FnExactPlanShift.mono_l k
 unfold laws_FnExactPlanShift.f
 repeat' first
   | (with_reducible exact ih0 _ _ _ _ _ _ _ _ _ _ _ _ _)
   | (with_reducible exact ih1 _ _ _ _ _ _ _ _ _ _)
   | (with_reducible exact ih2 _ _ _ _)
   | (with_reducible exact impl_PlanShift.mono _ _ _ _ _)
   | (with_reducible exact laws_eqPlan.mono _ _ _ _ _)
   | (with_reducible exact laws_heldPlan.mono _ _ _ _)
   | (with_reducible exact laws_markPlan.mono _ _ _ _)
   | (with_reducible exact laws_szPlan.mono _ _ _ _)
   | (with_reducible exact laws_toPlan.mono _ _ _)
   | (with_reducible exact spec_PlanShift.mono _ _ _ _ _)
   | (with_reducible exact LeO.refl _)
   | (with_reducible exact LeO.none _)
   | (with_reducible refine LeO.ite ?_ ?_)
   | (with_reducible refine LeO.bind ?_ (fun _ => ?_))
   | exact ih0 _ _ _ _ _ _ _ _ _ _ _ _ _
   | exact ih1 _ _ _ _ _ _ _ _ _ _
   | exact ih2 _ _ _ _
   | exact impl_PlanShift.mono _ _ _ _ _
   | exact laws_eqPlan.mono _ _ _ _ _
   | exact laws_heldPlan.mono _ _ _ _
   | exact laws_markPlan.mono _ _ _ _
   | exact laws_szPlan.mono _ _ _ _
   | exact laws_toPlan.mono _ _ _
   | exact spec_PlanShift.mono _ _ _ _ _
   | exact LeO.none _
   | refine LeO.ite ?_ ?_
   | refine LeO.bind ?_ (fun _ => ?_)
set_option maxHeartbeats 8000000 in
set_option maxRecDepth 100000 in
theorem laws_FnExactPlanShift.calls (k : Nat) (a0_0 : Bool) (A0_1 : Option Addr) (c0_1 : Nat) (l0_1 : List (S61)) (a1 : Int) (a2 : Int) (r : Bool) (w : World) (hr0_1 : Kd.C k61 w A0_1 l0_1.length l0_1) (hc0_1 : l0_1.length ≤ c0_1) (hr_ : r = true) (h : laws_FnExactPlanShift.f k a0_0 l0_1 a1 a2 = some r) :
  Calls Try.prog 6 #[.agg #[.bool a0_0, .slice A0_1 l0_1.length c0_1], .int .i64 a1, .int .i64 a2] w fun e w' => e = .returned (.bool r) ∧ Below w.heap.size w w' := by
 have HRT_ := Aside0.mk hr_
 clear hr_
 have hu38 := Try.underlying38
 have hu25 := Try.underlying25
 have HR0_1 := Aside0.mk hr0_1
 have HC0_1 := Aside0.mk hc0_1
 clear hr0_1 hc0_1
 have HB := Aside0.mk (Below.refl w.heap.size w)
 have H : ((laws_szPlan.f k a0_0 l0_1 1048576).bind fun t216 => (if t216 < 0 then (some true) else ((laws_toPlan.f k a0_0 l0_1).bind fun bt217 => ((spec_PlanShift.f k bt217.1 bt217.2 a1 a2).bind fun bt221 => ((laws_toPlan.f k a0_0 l0_1).bind fun bt227 => ((impl_PlanShift.f k bt227.1 bt227.2 a1 a2).bind fun bt232 => ((laws_eqPlan.f k bt232.1 bt232.2.1 bt221.1 bt221.2.1).bind fun t238 => (if t238 = true then (laws_FnExactPlanShift.j0 k a1 a2 bt221.2.2 bt232.2.2 (bt232.2.2 != bt221.2.2) a0_0 l0_1 bt221.1 bt221.2.1 bt227.1 bt227.2 bt232.1 bt232.2.1) else (laws_FnExactPlanShift.j0 k a1 a2 bt221.2.2 bt232.2.2 true a0_0 l0_1 bt221.1 bt221.2.1 bt227.1 bt227.2 bt232.1 bt232.2.1))))))))) = some r := h
 clear h
 replace H := Option.bind_eq_some_iff.mp H
 obtain ⟨t216, A40, H⟩ := H
 replace H : (if t216 < 0 then (some true) else ((laws_toPlan.f k a0_0 l0_1).bind fun bt217 => ((spec_PlanShift.f k bt217.1 bt217.2 a1 a2).bind fun bt221 => ((laws_toPlan.f k a0_0 l0_1).bind fun bt227 => ((impl_PlanShift.f k bt227.1 bt227.2 a1 a2).bind fun bt232 => ((laws_eqPlan.f k bt232.1 bt232.2.1 bt221.1 bt221.2.1).bind fun t238 => (if t238 = true then (laws_FnExactPlanShift.j0 k a1 a2 bt221.2.2 bt232.2.2 (bt232.2.2 != bt221.2.2) a0_0 l0_1 bt221.1 bt221.2.1 bt227.1 bt227.2 bt232.1 bt232.2.1) else (laws_FnExactPlanShift.j0 k a1 a2 bt221.2.2 bt232.2.2 true a0_0 l0_1 bt221.1 bt221.2.1 bt227.1 bt227.2 bt232.1 bt232.2.1)))))))) = some r := H
 have A4 := Aside0.mk A40
 clear A40
 by_cases c5 : t216 < 0
 ·rw [if_pos c5] at H
  have c5b0 : decide (t216 < 0) = true := decide_eq_true c5
  clear c5
  obtain rfl := Option.some.inj H
  go_enter Try.func6, Try.ntmps6
  go_wp2_with (first | ((with_reducible refine gate_dst (N := 3) rfl ?_); refine box_event ?hg (N := 3) ?hd (cs := #[.bool a0_0, .slice A0_1 l0_1.length c0_1]) (t := 38) ?hr ?_; (case hd => rfl); (case hg => rfl); (case hr => first | (go_simp; done) | (go_simp; rfl)); intro gb215 hg w6 hbox hb; have n0_ := Aside0.mk (below_step (by repeat (first | (with_reducible first | exact HB.out | apply below_alloc | apply pw_below_drewN | apply below_drew1) | exact HB.out)) hb); have n1_ := Aside0.mk (hbox); have n2_ := Aside0.mk ((by rw [hg]; exact (below_size (by repeat (first | (with_reducible first | exact HB.out | apply below_alloc | apply pw_below_drewN | apply below_drew1) | exact HB.out))) : w.heap.size ≤ gb215)); have n3_ := Aside0.mk ((by rw [hg]; exact (below_size (by repeat (first | (with_reducible first | exact HB.out | apply below_alloc | apply pw_below_drewN | apply below_drew1) | exact HB.out))) : w.heap.size ≤ gb215)); clear HB; have HB := n0_; have BK215 := n1_; have GW215 := n2_; have GE215 := n3_; clear n0_ n1_ n2_ n3_; clear hb hbox hg; have hcz7_0 : w6.cell? ⟨gb215, 0, none⟩ = some (.bool a0_0) := (blk_cell BK215.out 0).trans rfl; have hcz7_1 : w6.cell? ⟨gb215, 1, none⟩ = some (.slice A0_1 l0_1.length c0_1) := (blk_cell BK215.out 1).trans rfl; have hfz7_0 := blk_frozen BK215.out 0; have hfz7_1 := blk_frozen BK215.out 1) | ((with_reducible refine gate_callee (f := 16) rfl ?_); refine goesL_ (some 20) rfl rfl Try.func16 (by kernel_rfl) rfl #[.agg #[.bool a0_0, .slice A0_1 l0_1.length c0_1], .int .i64 1048576] rfl (by (try simp only [List.map_toArray, List.map_cons, List.map_nil]); first | done | rfl | (simp only [List.length_drop, List.length_take]; rfl)) ?_; (with_reducible refine (laws_szPlan.calls k a0_0 _ _ l0_1 1048576 t216 _ ?side1 ?side2 A4.out).mono ?_); (case side1 => repeat (first | exact (Kd.C_below HR0_1.out HB.out) | (with_reducible refine Kd.C_alloc ?_ _) | (with_reducible refine Kd.C_drewN ?_ _) | (with_reducible refine Kd.C_drew ?_))); (case side2 => exact HC0_1.out); rintro e w8 ⟨rfl, hb⟩; refine ⟨_, rfl, ?_⟩; have n0_ := Aside0.mk (blk_below (g := gb215) (o := .cells #[.bool a0_0, .slice A0_1 l0_1.length c0_1] 38 (0, 0)) (by (with_reducible repeat (first | refine blk_drewN ?_ _ | refine blk_drew ?_ | refine blk_alloc ?_ _)); exact BK215.out) hb); have n1_ := Aside0.mk (below_step (by repeat (first | (with_reducible first | exact HB.out | apply below_alloc | apply pw_below_drewN | apply below_drew1 | refine below_set ?_ GE215.out) | exact HB.out)) hb); clear BK215; clear HB; have BK215 := n0_; have HB := n1_; clear n0_ n1_; (try clear hb); (try clear hb2); (try clear hk); (try clear hi)))
  go_ret
  exact ⟨by first | rfl | (simp [errW_none, errW_some] <;> rfl) | (simp [*, errW_none, errW_some] <;> rfl), by repeat (first | (with_reducible first | exact HB.out | apply below_alloc | apply pw_below_drewN | apply below_drew1 | refine below_set ?_ GE215.out) | exact HB.out)⟩
 ·rw [if_neg c5] at H
  have c5b0 : decide (t216 < 0) = false := decide_eq_false c5
  clear c5
  replace H := Option.bind_eq_some_iff.mp H
  obtain ⟨⟨t217, t218⟩, A90, H⟩ := H
  replace H : ((spec_PlanShift.f k t217 t218 a1 a2).bind fun bt221 => ((laws_toPlan.f k a0_0 l0_1).bind fun bt227 => ((impl_PlanShift.f k bt227.1 bt227.2 a1 a2).bind fun bt232 => ((laws_eqPlan.f k bt232.1 bt232.2.1 bt221.1 bt221.2.1).bind fun t238 => (if t238 = true then (laws_FnExactPlanShift.j0 k a1 a2 bt221.2.2 bt232.2.2 (bt232.2.2 != bt221.2.2) a0_0 l0_1 bt221.1 bt221.2.1 bt227.1 bt227.2 bt232.1 bt232.2.1) else (laws_FnExactPlanShift.j0 k a1 a2 bt221.2.2 bt232.2.2 true a0_0 l0_1 bt221.1 bt221.2.1 bt227.1 bt227.2 bt232.1 bt232.2.1)))))) = some r := H
  have A9 := Aside0.mk A90
  clear A90
  replace H := Option.bind_eq_some_iff.mp H
  obtain ⟨⟨t221, t222, t225⟩, A100, H⟩ := H
  replace H : ((laws_toPlan.f k a0_0 l0_1).bind fun bt227 => ((impl_PlanShift.f k bt227.1 bt227.2 a1 a2).bind fun bt232 => ((laws_eqPlan.f k bt232.1 bt232.2.1 t221 t222).bind fun t238 => (if t238 = true then (laws_FnExactPlanShift.j0 k a1 a2 t225 bt232.2.2 (bt232.2.2 != t225) a0_0 l0_1 t221 t222 bt227.1 bt227.2 bt232.1 bt232.2.1) else (laws_FnExactPlanShift.j0 k a1 a2 t225 bt232.2.2 true a0_0 l0_1 t221 t222 bt227.1 bt227.2 bt232.1 bt232.2.1))))) = some r := H
  have A10 := Aside0.mk A100
  clear A100
  replace H := Option.bind_eq_some_iff.mp H
  obtain ⟨⟨t227, t228⟩, A110, H⟩ := H
  replace H : ((impl_PlanShift.f k t227 t228 a1 a2).bind fun bt232 => ((laws_eqPlan.f k bt232.1 bt232.2.1 t221 t222).bind fun t238 => (if t238 = true then (laws_FnExactPlanShift.j0 k a1 a2 t225 bt232.2.2 (bt232.2.2 != t225) a0_0 l0_1 t221 t222 t227 t228 bt232.1 bt232.2.1) else (laws_FnExactPlanShift.j0 k a1 a2 t225 bt232.2.2 true a0_0 l0_1 t221 t222 t227 t228 bt232.1 bt232.2.1)))) = some r := H
  have A11 := Aside0.mk A110
  clear A110
  replace H := Option.bind_eq_some_iff.mp H
  obtain ⟨⟨t232, t233, t236⟩, A120, H⟩ := H
  replace H : ((laws_eqPlan.f k t232 t233 t221 t222).bind fun t238 => (if t238 = true then (laws_FnExactPlanShift.j0 k a1 a2 t225 t236 (t236 != t225) a0_0 l0_1 t221 t222 t227 t228 t232 t233) else (laws_FnExactPlanShift.j0 k a1 a2 t225 t236 true a0_0 l0_1 t221 t222 t227 t228 t232 t233))) = some r := H
  have A12 := Aside0.mk A120
  clear A120
  have HC13 := Aside0.mk H
  clear H
  go_enter Try.func6, Try.ntmps6
  go_upto_region 8 with (first | ((with_reducible refine gate_dst (N := 3) rfl ?_); refine box_event ?hg (N := 3) ?hd (cs := #[.bool a0_0, .slice A0_1 l0_1.length c0_1]) (t := 38) ?hr ?_; (case hd => rfl); (case hg => rfl); (case hr => first | (go_simp; done) | (go_simp; rfl)); intro gb215 hg w14 hbox hb; have n0_ := Aside0.mk (below_step (by repeat (first | (with_reducible first | exact HB.out | apply below_alloc | apply pw_below_drewN | apply below_drew1) | exact HB.out)) hb); have n1_ := Aside0.mk (hbox); have n2_ := Aside0.mk ((by rw [hg]; exact (below_size (by repeat (first | (with_reducible first | exact HB.out | apply below_alloc | apply pw_below_drewN | apply below_drew1) | exact HB.out))) : w.heap.size ≤ gb215)); have n3_ := Aside0.mk ((by rw [hg]; exact (below_size (by repeat (first | (with_reducible first | exact HB.out | apply below_alloc | apply pw_below_drewN | apply below_drew1) | exact HB.out))) : w.heap.size ≤ gb215)); clear HB; have HB := n0_; have BK215 := n1_; have GW215 := n2_; have GE215 := n3_; clear n0_ n1_ n2_ n3_; clear hb hbox hg; have hcz15_0 : w14.cell? ⟨gb215, 0, none⟩ = some (.bool a0_0) := (blk_cell BK215.out 0).trans rfl; have hcz15_1 : w14.cell? ⟨gb215, 1, none⟩ = some (.slice A0_1 l0_1.length c0_1) := (blk_cell BK215.out 1).trans rfl; have hfz15_0 := blk_frozen BK215.out 0; have hfz15_1 := blk_frozen BK215.out 1) | ((with_reducible refine gate_callee (f := 16) rfl ?_); refine goesL_ (some 20) rfl rfl Try.func16 (by kernel_rfl) rfl #[.agg #[.bool a0_0, .slice A0_1 l0_1.length c0_1], .int .i64 1048576] rfl (by (try simp only [List.map_toArray, List.map_cons, List.map_nil]); first | done | rfl | (simp only [List.length_drop, List.length_take]; rfl)) ?_; (with_reducible refine (laws_szPlan.calls k a0_0 _ _ l0_1 1048576 t216 _ ?side1 ?side2 A4.out).mono ?_); (case side1 => repeat (first | exact (Kd.C_below HR0_1.out HB.out) | (with_reducible refine Kd.C_alloc ?_ _) | (with_reducible refine Kd.C_drewN ?_ _) | (with_reducible refine Kd.C_drew ?_))); (case side2 => exact HC0_1.out); rintro e w16 ⟨rfl, hb⟩; refine ⟨_, rfl, ?_⟩; have n0_ := Aside0.mk (blk_below (g := gb215) (o := .cells #[.bool a0_0, .slice A0_1 l0_1.length c0_1] 38 (0, 0)) (by (with_reducible repeat (first | refine blk_drewN ?_ _ | refine blk_drew ?_ | refine blk_alloc ?_ _)); exact BK215.out) hb); have n1_ := Aside0.mk (below_step (by repeat (first | (with_reducible first | exact HB.out | apply below_alloc | apply pw_below_drewN | apply below_drew1 | refine below_set ?_ GE215.out) | exact HB.out)) hb); clear BK215; clear HB; have BK215 := n0_; have HB := n1_; clear n0_ n1_; (try clear hb); (try clear hb2); (try clear hk); (try clear hi); have hcz17_0 : w16.cell? ⟨gb215, 0, none⟩ = some (.bool a0_0) := (blk_cell BK215.out 0).trans rfl; have hcz17_1 : w16.cell? ⟨gb215, 1, none⟩ = some (.slice A0_1 l0_1.length c0_1) := (blk_cell BK215.out 1).trans rfl; have hfz17_0 := blk_frozen BK215.out 0; have hfz17_1 := blk_frozen BK215.out 1) | ((with_reducible refine gate_callee (f := 17) rfl ?_); refine goesL_ (some 25) rfl rfl Try.func17 (by kernel_rfl) rfl #[.agg #[.bool a0_0, .slice A0_1 l0_1.length c0_1]] rfl (by (try simp only [List.map_toArray, List.map_cons, List.map_nil]); first | done | rfl | (simp only [List.length_drop, List.length_take]; rfl)) ?_; (with_reducible refine (laws_toPlan.calls k a0_0 _ _ l0_1 t217 t218 _ ?side1 ?side2 A9.out).mono ?_); (case side1 => repeat (first | exact (Kd.C_below HR0_1.out HB.out) | (with_reducible refine Kd.C_alloc ?_ _) | (with_reducible refine Kd.C_drewN ?_ _) | (with_reducible refine Kd.C_drew ?_))); (case side2 => exact HC0_1.out); rintro e w18 ⟨v219, rfl, ho0, hb⟩; refine ⟨_, rfl, ?_⟩; have n0_ := Aside0.mk (Kd.R_lower ho0 (below_size (by repeat (first | (with_reducible first | exact HB.out | apply below_alloc | apply pw_below_drewN | apply below_drew1 | refine below_set ?_ GE215.out) | exact HB.out)))); have n1_ := Aside0.mk (blk_below (g := gb215) (o := .cells #[.bool a0_0, .slice A0_1 l0_1.length c0_1] 38 (0, 0)) (by (with_reducible repeat (first | refine blk_drewN ?_ _ | refine blk_drew ?_ | refine blk_alloc ?_ _)); exact BK215.out) hb); have n2_ := Aside0.mk (below_step (by repeat (first | (with_reducible first | exact HB.out | apply below_alloc | apply pw_below_drewN | apply below_drew1 | refine below_set ?_ GE215.out) | exact HB.out)) hb); clear BK215; clear HB; have HO220 := n0_; have BK215 := n1_; have HB := n2_; clear n0_ n1_ n2_; (try clear hb); (try clear hb2); (try clear hk); (try clear hi); (try clear ho0); obtain ⟨Ao19, co19, eo19⟩ := Kd.R_slice HO220.out; subst eo19) | ((with_reducible refine gate_callee (f := 15) rfl ?_); refine goesL_ (some 28) rfl rfl Try.func15 (by kernel_rfl) rfl #[.agg #[.bool t217, .slice Ao19 t218.length co19], .int .i64 a1, .int .i64 a2] rfl (by (try simp only [List.map_toArray, List.map_cons, List.map_nil]); first | done | rfl | (simp only [List.length_drop, List.length_take]; rfl)) ?_; (with_reducible refine (spec_PlanShift.calls k t217 _ _ t218 a1 a2 t221 t222 t225 _ ?side1 ?side2 A10.out).mono ?_); (case side1 => repeat (first | exact (Kd.R_reads' HO220.out).2.2 | (with_reducible refine Kd.C_alloc ?_ _) | (with_reducible refine Kd.C_drewN ?_ _) | (with_reducible refine Kd.C_drew ?_))); (case side2 => exact (Kd.R_reads' HO220.out).2.1); rintro e w20 ⟨v223, rfl, ho0, hb⟩; refine ⟨_, rfl, ?_⟩; have n0_ := Aside0.mk (Kd.R_elder' (by (with_reducible repeat (first | apply Kd.R_alloc | apply Kd.R_drewN | apply Kd.R_drew)); exact HO220.out) (Kd.R_base ho0) hb); have n1_ := Aside0.mk (Kd.R_lower (Kd.R_new' ho0 (Kd.R_lt (by (with_reducible repeat (first | apply Kd.R_alloc | apply Kd.R_drewN | apply Kd.R_drew)); exact HO220.out))) (below_size (by repeat (first | (with_reducible first | exact HB.out | apply below_alloc | apply pw_below_drewN | apply below_drew1 | refine below_set ?_ GE215.out) | exact HB.out)))); have n2_ := Aside0.mk (blk_below (g := gb215) (o := .cells #[.bool a0_0, .slice A0_1 l0_1.length c0_1] 38 (0, 0)) (by (with_reducible repeat (first | refine blk_drewN ?_ _ | refine blk_drew ?_ | refine blk_alloc ?_ _)); exact BK215.out) hb); have n3_ := Aside0.mk (below_step (by repeat (first | (with_reducible first | exact HB.out | apply below_alloc | apply pw_below_drewN | apply below_drew1 | refine below_set ?_ GE215.out) | exact HB.out)) hb); clear HO220; clear BK215; clear HB; have HO220 := n0_; have HO224 := n1_; have BK215 := n2_; have HB := n3_; clear n0_ n1_ n2_ n3_; (try clear hb); (try clear hb2); (try clear hk); (try clear hi); (try clear ho0)) | ((with_reducible refine gate_dst (N := 8) rfl ?_); refine box_event ?hg (N := 8) ?hd (cs := #[.bool false, .slice none 0 0]) (t := 25) ?hr ?_; (case hd => rfl); (case hg => rfl); (case hr => first | (go_simp; done) | (go_simp; rfl)); intro gb226 hg w21 hbox hb; have n0_ := Aside0.mk (Kd.R_below (by (with_reducible repeat (first | apply Kd.R_alloc | apply Kd.R_drewN | apply Kd.R_drew)); exact HO220.out) hb); have n1_ := Aside0.mk (Kd.R_below (by (with_reducible repeat (first | apply Kd.R_alloc | apply Kd.R_drewN | apply Kd.R_drew)); exact HO224.out) hb); have n2_ := Aside0.mk (blk_below (g := gb215) (o := .cells #[.bool a0_0, .slice A0_1 l0_1.length c0_1] 38 (0, 0)) (by (with_reducible repeat (first | refine blk_drewN ?_ _ | refine blk_drew ?_ | refine blk_alloc ?_ _)); exact BK215.out) hb); have n3_ := Aside0.mk (below_step (by repeat (first | (with_reducible first | exact HB.out | apply below_alloc | apply pw_below_drewN | apply below_drew1 | refine below_set ?_ GE215.out) | exact HB.out)) hb); have n4_ := Aside0.mk (hbox); have n5_ := Aside0.mk ((by rw [hg]; exact (below_size (by repeat (first | (with_reducible first | exact HB.out | apply below_alloc | apply pw_below_drewN | apply below_drew1 | refine below_set ?_ GE215.out) | exact HB.out))) : w.heap.size ≤ gb226)); have n6_ := Aside0.mk ((by rw [hg]; exact (below_size (by repeat (first | (with_reducible first | exact HB.out | apply below_alloc | apply pw_below_drewN | apply below_drew1 | refine below_set ?_ GE215.out) | exact HB.out))) : w.heap.size ≤ gb226)); have n7_ := Aside0.mk ((by rw [hg]; exact Nat.ne_of_lt (blk_lt (g := gb215) (o := .cells #[.bool a0_0, .slice A0_1 l0_1.length c0_1] 38 (0, 0)) (by (with_reducible repeat (first | refine blk_drewN ?_ _ | refine blk_drew ?_ | refine blk_alloc ?_ _)); exact BK215.out)) : gb215 ≠ gb226)); have n8_ := Aside0.mk ((by rw [hg]; exact Nat.ne_of_gt (blk_lt (g := gb215) (o := .cells #[.bool a0_0, .slice A0_1 l0_1.length c0_1] 38 (0, 0)) (by (with_reducible repeat (first | refine blk_drewN ?_ _ | refine blk_drew ?_ | refine blk_alloc ?_ _)); exact BK215.out)) : gb226 ≠ gb215)); clear HO220; clear HO224; clear BK215; clear HB; have HO220 := n0_; have HO224 := n1_; have BK215 := n2_; have HB := n3_; have BK226 := n4_; have GW226 := n5_; have GE226 := n6_; have NB215_226 := n7_; have NB226_215 := n8_; clear n0_ n1_ n2_ n3_ n4_ n5_ n6_ n7_ n8_; clear hb hbox hg; have hnb22 := NB226_215.out; have hnc22 := NB215_226.out; have hcz23_0 : w21.cell? ⟨gb226, 0, none⟩ = some (.bool false) := (blk_cell BK226.out 0).trans rfl; have hcz23_1 : w21.cell? ⟨gb226, 1, none⟩ = some (.slice none 0 0) := (blk_cell BK226.out 1).trans rfl; have hfz23_0 := blk_frozen BK226.out 0; have hfz23_1 := blk_frozen BK226.out 1; obtain ⟨Ao24, co24, eo24⟩ := Kd.R_slice HO224.out; subst eo24; have hcz25_0 : w21.cell? ⟨gb215, 0, none⟩ = some (.bool a0_0) := (blk_cell BK215.out 0).trans rfl; have hcz25_1 : w21.cell? ⟨gb215, 1, none⟩ = some (.slice A0_1 l0_1.length c0_1) := (blk_cell BK215.out 1).trans rfl; have hfz25_0 := blk_frozen BK215.out 0; have hfz25_1 := blk_frozen BK215.out 1) | ((with_reducible refine gate_callee (f := 17) rfl ?_); refine goesL_ (some 32) rfl rfl Try.func17 (by kernel_rfl) rfl #[.agg #[.bool a0_0, .slice A0_1 l0_1.length c0_1]] rfl (by (try simp only [List.map_toArray, List.map_cons, List.map_nil]); first | done | rfl | (simp only [List.length_drop, List.length_take]; rfl)) ?_; (with_reducible refine (laws_toPlan.calls k a0_0 _ _ l0_1 t227 t228 _ ?side1 ?side2 A11.out).mono ?_); (case side1 => exact Kd.C_below HR0_1.out (by repeat (first | (with_reducible first | exact HB.out | apply below_alloc | apply pw_below_drewN | apply below_drew1 | refine below_set ?_ GE215.out | refine below_set ?_ GE226.out) | exact HB.out))); (case side2 => exact HC0_1.out); rintro e w26 ⟨v229, rfl, ho0, hb⟩; refine ⟨_, rfl, ?_⟩; have n0_ := Aside0.mk (Kd.R_elder' (by (with_reducible repeat (first | apply Kd.R_alloc | apply Kd.R_drewN | apply Kd.R_drew)); exact (Kd.R_mono (Kd.R_far (p := ⟨gb226, 1, none⟩) (Kd.R_far (p := ⟨gb226, 0, none⟩) (Kd.R_types HO220.out BK226.out (by decide)) (fun _ hk => hk.2) (.bool t221)) (fun _ hk => hk.2) (.slice Ao24 t222.length co24)) (fun _ h_ => h_.1))) (Kd.R_base ho0) hb); have n1_ := Aside0.mk (Kd.R_elder' (by (with_reducible repeat (first | apply Kd.R_alloc | apply Kd.R_drewN | apply Kd.R_drew)); exact (Kd.R_mono (Kd.R_far (p := ⟨gb226, 1, none⟩) (Kd.R_far (p := ⟨gb226, 0, none⟩) (Kd.R_types HO224.out BK226.out (by decide)) (fun _ hk => hk.2) (.bool t221)) (fun _ hk => hk.2) (.slice Ao24 t222.length co24)) (fun _ h_ => h_.1))) (Kd.R_base ho0) hb); have n2_ := Aside0.mk (Kd.R_lower (Kd.R_new' (Kd.R_new' ho0 (Kd.R_lt (by (with_reducible repeat (first | apply Kd.R_alloc | apply Kd.R_drewN | apply Kd.R_drew)); exact (Kd.R_mono (Kd.R_far (p := ⟨gb226, 1, none⟩) (Kd.R_far (p := ⟨gb226, 0, none⟩) (Kd.R_types HO220.out BK226.out (by decide)) (fun _ hk => hk.2) (.bool t221)) (fun _ hk => hk.2) (.slice Ao24 t222.length co24)) (fun _ h_ => h_.1))))) (Kd.R_lt (by (with_reducible repeat (first | apply Kd.R_alloc | apply Kd.R_drewN | apply Kd.R_drew)); exact (Kd.R_mono (Kd.R_far (p := ⟨gb226, 1, none⟩) (Kd.R_far (p := ⟨gb226, 0, none⟩) (Kd.R_types HO224.out BK226.out (by decide)) (fun _ hk => hk.2) (.bool t221)) (fun _ hk => hk.2) (.slice Ao24 t222.length co24)) (fun _ h_ => h_.1))))) (below_size (by repeat (first | (with_reducible first | exact HB.out | apply below_alloc | apply pw_below_drewN | apply below_drew1 | refine below_set ?_ GE215.out | refine below_set ?_ GE226.out) | exact HB.out)))); have n3_ := Aside0.mk (blk_below (g := gb215) (o := .cells #[.bool a0_0, .slice A0_1 l0_1.length c0_1] 38 (0, 0)) (by (with_reducible repeat (first | refine blk_drewN ?_ _ | refine blk_drew ?_ | refine blk_alloc ?_ _)); refine blk_far ?_ NB215_226.out _; (with_reducible repeat (first | refine blk_drewN ?_ _ | refine blk_drew ?_ | refine blk_alloc ?_ _)); refine blk_far ?_ NB215_226.out _; (with_reducible repeat (first | refine blk_drewN ?_ _ | refine blk_drew ?_ | refine blk_alloc ?_ _)); exact BK215.out) hb); have n4_ := Aside0.mk (blk_below (g := gb226) (o := .cells #[.bool t221, .slice Ao24 t222.length co24] 25 (0, 0)) (by (with_reducible repeat (first | refine blk_drewN ?_ _ | refine blk_drew ?_ | refine blk_alloc ?_ _)); refine blk_put (cs := #[.bool t221, .slice none 0 0]) ?_ 1 _ rfl; (with_reducible repeat (first | refine blk_drewN ?_ _ | refine blk_drew ?_ | refine blk_alloc ?_ _)); refine blk_put (cs := #[.bool false, .slice none 0 0]) ?_ 0 _ rfl; (with_reducible repeat (first | refine blk_drewN ?_ _ | refine blk_drew ?_ | refine blk_alloc ?_ _)); exact BK226.out) hb); have n5_ := Aside0.mk (below_step (by repeat (first | (with_reducible first | exact HB.out | apply below_alloc | apply pw_below_drewN | apply below_drew1 | refine below_set ?_ GE215.out | refine below_set ?_ GE226.out) | exact HB.out)) hb); clear HO220; clear HO224; clear BK215; clear BK226; clear HB; have HO220 := n0_; have HO224 := n1_; have HO230 := n2_; have BK215 := n3_; have BK226 := n4_; have HB := n5_; clear n0_ n1_ n2_ n3_ n4_ n5_; (try clear hb); (try clear hb2); (try clear hk); (try clear hi); (try clear ho0)) | ((with_reducible refine gate_dst (N := 10) rfl ?_); refine box_event ?hg (N := 10) ?hd (cs := #[.bool false, .slice none 0 0]) (t := 25) ?hr ?_; (case hd => rfl); (case hg => rfl); (case hr => first | (go_simp; done) | (go_simp; rfl)); intro gb231 hg w27 hbox hb; have n0_ := Aside0.mk (Kd.R_below (by (with_reducible repeat (first | apply Kd.R_alloc | apply Kd.R_drewN | apply Kd.R_drew)); exact HO220.out) hb); have n1_ := Aside0.mk (Kd.R_below (by (with_reducible repeat (first | apply Kd.R_alloc | apply Kd.R_drewN | apply Kd.R_drew)); exact HO224.out) hb); have n2_ := Aside0.mk (Kd.R_below (by (with_reducible repeat (first | apply Kd.R_alloc | apply Kd.R_drewN | apply Kd.R_drew)); exact HO230.out) hb); have n3_ := Aside0.mk (blk_below (g := gb215) (o := .cells #[.bool a0_0, .slice A0_1 l0_1.length c0_1] 38 (0, 0)) (by (with_reducible repeat (first | refine blk_drewN ?_ _ | refine blk_drew ?_ | refine blk_alloc ?_ _)); exact BK215.out) hb); have n4_ := Aside0.mk (blk_below (g := gb226) (o := .cells #[.bool t221, .slice Ao24 t222.length co24] 25 (0, 0)) (by (with_reducible repeat (first | refine blk_drewN ?_ _ | refine blk_drew ?_ | refine blk_alloc ?_ _)); exact BK226.out) hb); have n5_ := Aside0.mk (below_step (by repeat (first | (with_reducible first | exact HB.out | apply below_alloc | apply pw_below_drewN | apply below_drew1 | refine below_set ?_ GE215.out | refine below_set ?_ GE226.out) | exact HB.out)) hb); have n6_ := Aside0.mk (hbox); have n7_ := Aside0.mk ((by rw [hg]; exact (below_size (by repeat (first | (with_reducible first | exact HB.out | apply below_alloc | apply pw_below_drewN | apply below_drew1 | refine below_set ?_ GE215.out | refine below_set ?_ GE226.out) | exact HB.out))) : w.heap.size ≤ gb231)); have n8_ := Aside0.mk ((by rw [hg]; exact (below_size (by repeat (first | (with_reducible first | exact HB.out | apply below_alloc | apply pw_below_drewN | apply below_drew1 | refine below_set ?_ GE215.out | refine below_set ?_ GE226.out) | exact HB.out))) : w.heap.size ≤ gb231)); have n9_ := Aside0.mk ((by rw [hg]; exact Nat.ne_of_lt (blk_lt (g := gb215) (o := .cells #[.bool a0_0, .slice A0_1 l0_1.length c0_1] 38 (0, 0)) (by (with_reducible repeat (first | refine blk_drewN ?_ _ | refine blk_drew ?_ | refine blk_alloc ?_ _)); exact BK215.out)) : gb215 ≠ gb231)); have n10_ := Aside0.mk ((by rw [hg]; exact Nat.ne_of_gt (blk_lt (g := gb215) (o := .cells #[.bool a0_0, .slice A0_1 l0_1.length c0_1] 38 (0, 0)) (by (with_reducible repeat (first | refine blk_drewN ?_ _ | refine blk_drew ?_ | refine blk_alloc ?_ _)); exact BK215.out)) : gb231 ≠ gb215)); have n11_ := Aside0.mk ((by rw [hg]; exact Nat.ne_of_lt (blk_lt (g := gb226) (o := .cells #[.bool t221, .slice Ao24 t222.length co24] 25 (0, 0)) (by (with_reducible repeat (first | refine blk_drewN ?_ _ | refine blk_drew ?_ | refine blk_alloc ?_ _)); exact BK226.out)) : gb226 ≠ gb231)); have n12_ := Aside0.mk ((by rw [hg]; exact Nat.ne_of_gt (blk_lt (g := gb226) (o := .cells #[.bool t221, .slice Ao24 t222.length co24] 25 (0, 0)) (by (with_reducible repeat (first | refine blk_drewN ?_ _ | refine blk_drew ?_ | refine blk_alloc ?_ _)); exact BK226.out)) : gb231 ≠ gb226)); clear HO220; clear HO224; clear HO230; clear BK215; clear BK226; clear HB; have HO220 := n0_; have HO224 := n1_; have HO230 := n2_; have BK215 := n3_; have BK226 := n4_; have HB := n5_; have BK231 := n6_; have GW231 := n7_; have GE231 := n8_; have NB215_231 := n9_; have NB231_215 := n10_; have NB226_231 := n11_; have NB231_226 := n12_; clear n0_ n1_ n2_ n3_ n4_ n5_ n6_ n7_ n8_ n9_ n10_ n11_ n12_; clear hb hbox hg; have hnb28 := NB231_215.out; have hnc28 := NB215_231.out; have hnb29 := NB231_226.out; have hnc29 := NB226_231.out; have hcz30_0 : w27.cell? ⟨gb231, 0, none⟩ = some (.bool false) := (blk_cell BK231.out 0).trans rfl; have hcz30_1 : w27.cell? ⟨gb231, 1, none⟩ = some (.slice none 0 0) := (blk_cell BK231.out 1).trans rfl; have hfz30_0 := blk_frozen BK231.out 0; have hfz30_1 := blk_frozen BK231.out 1; obtain ⟨Ao31, co31, eo31⟩ := Kd.R_slice HO230.out; subst eo31) | ((with_reducible refine gate_callee (f := 14) rfl ?_); refine goesL_ (some 37) rfl rfl Try.func14 (by kernel_rfl) rfl #[.agg #[.bool t227, .slice Ao31 t228.length co31], .int .i64 a1, .int .i64 a2] rfl (by (try simp only [List.map_toArray, List.map_cons, List.map_nil]); first | done | rfl | (simp only [List.length_drop, List.length_take]; rfl)) ?_; (with_reducible refine (impl_PlanShift.calls k t227 _ _ t228 a1 a2 t232 t233 t236 _ ?side1 ?side2 A12.out).mono ?_); (case side1 => refine (Kd.R_reads' (e := 32) (base := w.heap.size) (ok := fun k_ => ((True ∧ some k_ ≠ (.slice Ao19 t218.length co19 : Value).ownBlock) ∧ some k_ ≠ (.slice Ao24 t222.length co24 : Value).ownBlock)) (n := t228.length) (c := co31) ?_).2.2; exact (by (with_reducible repeat (first | apply Kd.R_alloc | apply Kd.R_drewN | apply Kd.R_drew)); exact (Kd.R_mono (Kd.R_far (p := ⟨gb231, 1, none⟩) (Kd.R_far (p := ⟨gb231, 0, none⟩) (Kd.R_types HO230.out BK231.out (by decide)) (fun _ hk => hk.2) (.bool t227)) (fun _ hk => hk.2) (.slice Ao31 t228.length co31)) (fun _ h_ => h_.1)))); (case side2 => exact (Kd.R_reads' HO230.out).2.1); rintro e w32 ⟨v234, rfl, ho0, hb⟩; refine ⟨_, rfl, ?_⟩; have n0_ := Aside0.mk (Kd.R_elder' (by (with_reducible repeat (first | apply Kd.R_alloc | apply Kd.R_drewN | apply Kd.R_drew)); exact (Kd.R_mono (Kd.R_far (p := ⟨gb231, 1, none⟩) (Kd.R_far (p := ⟨gb231, 0, none⟩) (Kd.R_types HO220.out BK231.out (by decide)) (fun _ hk => hk.2) (.bool t227)) (fun _ hk => hk.2) (.slice Ao31 t228.length co31)) (fun _ h_ => h_.1))) (Kd.R_base ho0) hb); have n1_ := Aside0.mk (Kd.R_elder' (by (with_reducible repeat (first | apply Kd.R_alloc | apply Kd.R_drewN | apply Kd.R_drew)); exact (Kd.R_mono (Kd.R_far (p := ⟨gb231, 1, none⟩) (Kd.R_far (p := ⟨gb231, 0, none⟩) (Kd.R_types HO224.out BK231.out (by decide)) (fun _ hk => hk.2) (.bool t227)) (fun _ hk => hk.2) (.slice Ao31 t228.length co31)) (fun _ h_ => h_.1))) (Kd.R_base ho0) hb); have n2_ := Aside0.mk (Kd.R_elder' (by (with_reducible repeat (first | apply Kd.R_alloc | apply Kd.R_drewN | apply Kd.R_drew)); exact (Kd.R_mono (Kd.R_far (p := ⟨gb231, 1, none⟩) (Kd.R_far (p := ⟨gb231, 0, none⟩) (Kd.R_types HO230.out BK231.out (by decide)) (fun _ hk => hk.2) (.bool t227)) (fun _ hk => hk.2) (.slice Ao31 t228.length co31)) (fun _ h_ => h_.1))) (Kd.R_base ho0) hb); have n3_ := Aside0.mk (Kd.R_lower (Kd.R_new' (Kd.R_new' (Kd.R_new' ho0 (Kd.R_lt (by (with_reducible repeat (first | apply Kd.R_alloc | apply Kd.R_drewN | apply Kd.R_drew)); exact (Kd.R_mono (Kd.R_far (p := ⟨gb231, 1, none⟩) (Kd.R_far (p := ⟨gb231, 0, none⟩) (Kd.R_types HO220.out BK231.out (by decide)) (fun _ hk => hk.2) (.bool t227)) (fun _ hk => hk.2) (.slice Ao31 t228.length co31)) (fun _ h_ => h_.1))))) (Kd.R_lt (by (with_reducible repeat (first | apply Kd.R_alloc | apply Kd.R_drewN | apply Kd.R_drew)); exact (Kd.R_mono (Kd.R_far (p := ⟨gb231, 1, none⟩) (Kd.R_far (p := ⟨gb231, 0, none⟩) (Kd.R_types HO224.out BK231.out (by decide)) (fun _ hk => hk.2) (.bool t227)) (fun _ hk => hk.2) (.slice Ao31 t228.length co31)) (fun _ h_ => h_.1))))) (Kd.R_lt (by (with_reducible repeat (first | apply Kd.R_alloc | apply Kd.R_drewN | apply Kd.R_drew)); exact (Kd.R_mono (Kd.R_far (p := ⟨gb231, 1, none⟩) (Kd.R_far (p := ⟨gb231, 0, none⟩) (Kd.R_types HO230.out BK231.out (by decide)) (fun _ hk => hk.2) (.bool t227)) (fun _ hk => hk.2) (.slice Ao31 t228.length co31)) (fun _ h_ => h_.1))))) (below_size (by repeat (first | (with_reducible first | exact HB.out | apply below_alloc | apply pw_below_drewN | apply below_drew1 | refine below_set ?_ GE215.out | refine below_set ?_ GE226.out | refine below_set ?_ GE231.out) | exact HB.out)))); have n4_ := Aside0.mk (blk_below (g := gb215) (o := .cells #[.bool a0_0, .slice A0_1 l0_1.length c0_1] 38 (0, 0)) (by (with_reducible repeat (first | refine blk_drewN ?_ _ | refine blk_drew ?_ | refine blk_alloc ?_ _)); refine blk_far ?_ NB215_231.out _; (with_reducible repeat (first | refine blk_drewN ?_ _ | refine blk_drew ?_ | refine blk_alloc ?_ _)); refine blk_far ?_ NB215_231.out _; (with_reducible repeat (first | refine blk_drewN ?_ _ | refine blk_drew ?_ | refine blk_alloc ?_ _)); exact BK215.out) hb); have n5_ := Aside0.mk (blk_below (g := gb226) (o := .cells #[.bool t221, .slice Ao24 t222.length co24] 25 (0, 0)) (by (with_reducible repeat (first | refine blk_drewN ?_ _ | refine blk_drew ?_ | refine blk_alloc ?_ _)); refine blk_far ?_ NB226_231.out _; (with_reducible repeat (first | refine blk_drewN ?_ _ | refine blk_drew ?_ | refine blk_alloc ?_ _)); refine blk_far ?_ NB226_231.out _; (with_reducible repeat (first | refine blk_drewN ?_ _ | refine blk_drew ?_ | refine blk_alloc ?_ _)); exact BK226.out) hb); have n6_ := Aside0.mk (blk_below (g := gb231) (o := .cells #[.bool t227, .slice Ao31 t228.length co31] 25 (0, 0)) (by (with_reducible repeat (first | refine blk_drewN ?_ _ | refine blk_drew ?_ | refine blk_alloc ?_ _)); refine blk_put (cs := #[.bool t227, .slice none 0 0]) ?_ 1 _ rfl; (with_reducible repeat (first | refine blk_drewN ?_ _ | refine blk_drew ?_ | refine blk_alloc ?_ _)); refine blk_put (cs := #[.bool false, .slice none 0 0]) ?_ 0 _ rfl; (with_reducible repeat (first | refine blk_drewN ?_ _ | refine blk_drew ?_ | refine blk_alloc ?_ _)); exact BK231.out) hb); have n7_ := Aside0.mk (below_step (by repeat (first | (with_reducible first | exact HB.out | apply below_alloc | apply pw_below_drewN | apply below_drew1 | refine below_set ?_ GE215.out | refine below_set ?_ GE226.out | refine below_set ?_ GE231.out) | exact HB.out)) hb); clear HO220; clear HO224; clear HO230; clear BK215; clear BK226; clear BK231; clear HB; have HO220 := n0_; have HO224 := n1_; have HO230 := n2_; have HO235 := n3_; have BK215 := n4_; have BK226 := n5_; have BK231 := n6_; have HB := n7_; clear n0_ n1_ n2_ n3_ n4_ n5_ n6_ n7_; (try clear hb); (try clear hb2); (try clear hk); (try clear hi); (try clear ho0)) | ((with_reducible refine gate_dst (N := 11) rfl ?_); refine box_event ?hg (N := 11) ?hd (cs := #[.bool false, .slice none 0 0]) (t := 25) ?hr ?_; (case hd => rfl); (case hg => rfl); (case hr => first | (go_simp; done) | (go_simp; rfl)); intro gb237 hg w33 hbox hb; have n0_ := Aside0.mk (Kd.R_below (by (with_reducible repeat (first | apply Kd.R_alloc | apply Kd.R_drewN | apply Kd.R_drew)); exact HO220.out) hb); have n1_ := Aside0.mk (Kd.R_below (by (with_reducible repeat (first | apply Kd.R_alloc | apply Kd.R_drewN | apply Kd.R_drew)); exact HO224.out) hb); have n2_ := Aside0.mk (Kd.R_below (by (with_reducible repeat (first | apply Kd.R_alloc | apply Kd.R_drewN | apply Kd.R_drew)); exact HO230.out) hb); have n3_ := Aside0.mk (Kd.R_below (by (with_reducible repeat (first | apply Kd.R_alloc | apply Kd.R_drewN | apply Kd.R_drew)); exact HO235.out) hb); have n4_ := Aside0.mk (blk_below (g := gb215) (o := .cells #[.bool a0_0, .slice A0_1 l0_1.length c0_1] 38 (0, 0)) (by (with_reducible repeat (first | refine blk_drewN ?_ _ | refine blk_drew ?_ | refine blk_alloc ?_ _)); exact BK215.out) hb); have n5_ := Aside0.mk (blk_below (g := gb226) (o := .cells #[.bool t221, .slice Ao24 t222.length co24] 25 (0, 0)) (by (with_reducible repeat (first | refine blk_drewN ?_ _ | refine blk_drew ?_ | refine blk_alloc ?_ _)); exact BK226.out) hb); have n6_ := Aside0.mk (blk_below (g := gb231) (o := .cells #[.bool t227, .slice Ao31 t228.length co31] 25 (0, 0)) (by (with_reducible repeat (first | refine blk_drewN ?_ _ | refine blk_drew ?_ | refine blk_alloc ?_ _)); exact BK231.out) hb); have n7_ := Aside0.mk (below_step (by repeat (first | (with_reducible first | exact HB.out | apply below_alloc | apply pw_below_drewN | apply below_drew1 | refine below_set ?_ GE215.out | refine below_set ?_ GE226.out | refine below_set ?_ GE231.out) | exact HB.out)) hb); have n8_ := Aside0.mk (hbox); have n9_ := Aside0.mk ((by rw [hg]; exact (below_size (by repeat (first | (with_reducible first | exact HB.out | apply below_alloc | apply pw_below_drewN | apply below_drew1 | refine below_set ?_ GE215.out | refine below_set ?_ GE226.out | refine below_set ?_ GE231.out) | exact HB.out))) : w.heap.size ≤ gb237)); have n10_ := Aside0.mk ((by rw [hg]; exact (below_size (by repeat (first | (with_reducible first | exact HB.out | apply below_alloc | apply pw_below_drewN | apply below_drew1 | refine below_set ?_ GE215.out | refine below_set ?_ GE226.out | refine below_set ?_ GE231.out) | exact HB.out))) : w.heap.size ≤ gb237)); have n11_ := Aside0.mk ((by rw [hg]; exact Nat.ne_of_lt (blk_lt (g := gb215) (o := .cells #[.bool a0_0, .slice A0_1 l0_1.length c0_1] 38 (0, 0)) (by (with_reducible repeat (first | refine blk_drewN ?_ _ | refine blk_drew ?_ | refine blk_alloc ?_ _)); exact BK215.out)) : gb215 ≠ gb237)); have n12_ := Aside0.mk ((by rw [hg]; exact Nat.ne_of_gt (blk_lt (g := gb215) (o := .cells #[.bool a0_0, .slice A0_1 l0_1.length c0_1] 38 (0, 0)) (by (with_reducible repeat (first | refine blk_drewN ?_ _ | refine blk_drew ?_ | refine blk_alloc ?_ _)); exact BK215.out)) : gb237 ≠ gb215)); have n13_ := Aside0.mk ((by rw [hg]; exact Nat.ne_of_lt (blk_lt (g := gb226) (o := .cells #[.bool t221, .slice Ao24 t222.length co24] 25 (0, 0)) (by (with_reducible repeat (first | refine blk_drewN ?_ _ | refine blk_drew ?_ | refine blk_alloc ?_ _)); exact BK226.out)) : gb226 ≠ gb237)); have n14_ := Aside0.mk ((by rw [hg]; exact Nat.ne_of_gt (blk_lt (g := gb226) (o := .cells #[.bool t221, .slice Ao24 t222.length co24] 25 (0, 0)) (by (with_reducible repeat (first | refine blk_drewN ?_ _ | refine blk_drew ?_ | refine blk_alloc ?_ _)); exact BK226.out)) : gb237 ≠ gb226)); have n15_ := Aside0.mk ((by rw [hg]; exact Nat.ne_of_lt (blk_lt (g := gb231) (o := .cells #[.bool t227, .slice Ao31 t228.length co31] 25 (0, 0)) (by (with_reducible repeat (first | refine blk_drewN ?_ _ | refine blk_drew ?_ | refine blk_alloc ?_ _)); exact BK231.out)) : gb231 ≠ gb237)); have n16_ := Aside0.mk ((by rw [hg]; exact Nat.ne_of_gt (blk_lt (g := gb231) (o := .cells #[.bool t227, .slice Ao31 t228.length co31] 25 (0, 0)) (by (with_reducible repeat (first | refine blk_drewN ?_ _ | refine blk_drew ?_ | refine blk_alloc ?_ _)); exact BK231.out)) : gb237 ≠ gb231)); clear HO220; clear HO224; clear HO230; clear HO235; clear BK215; clear BK226; clear BK231; clear HB; have HO220 := n0_; have HO224 := n1_; have HO230 := n2_; have HO235 := n3_; have BK215 := n4_; have BK226 := n5_; have BK231 := n6_; have HB := n7_; have BK237 := n8_; have GW237 := n9_; have GE237 := n10_; have NB215_237 := n11_; have NB237_215 := n12_; have NB226_237 := n13_; have NB237_226 := n14_; have NB231_237 := n15_; have NB237_231 := n16_; clear n0_ n1_ n2_ n3_ n4_ n5_ n6_ n7_ n8_ n9_ n10_ n11_ n12_ n13_ n14_ n15_ n16_; clear hb hbox hg; have hnb34 := NB237_215.out; have hnc34 := NB215_237.out; have hnb35 := NB237_226.out; have hnc35 := NB226_237.out; have hnb36 := NB237_231.out; have hnc36 := NB231_237.out; have hcz37_0 : w33.cell? ⟨gb237, 0, none⟩ = some (.bool false) := (blk_cell BK237.out 0).trans rfl; have hcz37_1 : w33.cell? ⟨gb237, 1, none⟩ = some (.slice none 0 0) := (blk_cell BK237.out 1).trans rfl; have hfz37_0 := blk_frozen BK237.out 0; have hfz37_1 := blk_frozen BK237.out 1; obtain ⟨Ao38, co38, eo38⟩ := Kd.R_slice HO235.out; subst eo38))
  (try simp only [Act.put, List.setIfInBounds_toArray, List.set_cons_zero, List.set_cons_succ])
  go_cut [48] (fun v48 wc => ∃ (kq : Nat) (x48_12 : Bool), v48 = .bool x48_12 ∧ Aside0 (laws_FnExactPlanShift.j0 kq a1 a2 t225 t236 x48_12 a0_0 l0_1 t221 t222 t227 t228 t232 t233 = some r) ∧ Aside0 (kq ≤ k) ∧ Aside0 (Kd.R k32 32 wc w.heap.size (fun k_ => some k_ ≠ ((.slice Ao31 t228.length co31) : Value).ownBlock ∧ some k_ ≠ ((.slice Ao38 t233.length co38) : Value).ownBlock) (.slice Ao24 t222.length co24) t222) ∧ Aside0 (Kd.R k32 32 wc w.heap.size (fun k_ => some k_ ≠ ((.slice Ao24 t222.length co24) : Value).ownBlock ∧ some k_ ≠ ((.slice Ao38 t233.length co38) : Value).ownBlock) (.slice Ao31 t228.length co31) t228) ∧ Aside0 (Kd.R k32 32 wc w.heap.size (fun k_ => some k_ ≠ ((.slice Ao24 t222.length co24) : Value).ownBlock ∧ some k_ ≠ ((.slice Ao31 t228.length co31) : Value).ownBlock) (.slice Ao38 t233.length co38) t233) ∧ Aside0 (wc.heap[gb215]? = some (.cells #[.bool a0_0, (.slice A0_1 l0_1.length c0_1)] 38 (0, 0))) ∧ Aside0 (wc.heap[gb226]? = some (.cells #[.bool t221, (.slice Ao24 t222.length co24)] 25 (0, 0))) ∧ Aside0 (wc.heap[gb231]? = some (.cells #[.bool t227, (.slice Ao31 t228.length co31)] 25 (0, 0))) ∧ Aside0 (wc.heap[gb237]? = some (.cells #[.bool t232, (.slice Ao38 t233.length co38)] 25 (0, 0))) ∧ Aside0 (Below w.heap.size w wc))
  case first =>
   have H := HC13.out
   clear HC13
   replace H := Option.bind_eq_some_iff.mp H
   obtain ⟨t238, A390, H⟩ := H
   replace H : (if t238 = true then (laws_FnExactPlanShift.j0 k a1 a2 t225 t236 (t236 != t225) a0_0 l0_1 t221 t222 t227 t228 t232 t233) else (laws_FnExactPlanShift.j0 k a1 a2 t225 t236 true a0_0 l0_1 t221 t222 t227 t228 t232 t233)) = some r := H
   have A39 := Aside0.mk A390
   clear A390
   by_cases c40 : t238 = true
   ·subst c40
    have H1 : (laws_FnExactPlanShift.j0 k a1 a2 t225 t236 (t236 != t225) a0_0 l0_1 t221 t222 t227 t228 t232 t233) = some r := by rw [if_pos rfl] at H; exact H
    clear H
    have H := H1
    clear H1
    have H' := Aside0.mk H
    clear H
    have hnb41 := NB237_215.out
    have hnc41 := NB215_237.out
    have hnb42 := NB237_226.out
    have hnc42 := NB226_237.out
    have hnb43 := NB237_231.out
    have hnc43 := NB231_237.out
    have hcz44_0 : w33.cell? ⟨gb237, 0, none⟩ = some (.bool false) := (blk_cell BK237.out 0).trans rfl
    have hcz44_1 : w33.cell? ⟨gb237, 1, none⟩ = some (.slice none 0 0) := (blk_cell BK237.out 1).trans rfl
    have hfz44_0 := blk_frozen BK237.out 0
    have hfz44_1 := blk_frozen BK237.out 1
    have hnb45 := NB226_215.out
    have hnc45 := NB215_226.out
    have hnb46 := NB226_231.out
    have hnc46 := NB231_226.out
    have hcz47_0 : w33.cell? ⟨gb226, 0, none⟩ = some (.bool t221) := (blk_cell BK226.out 0).trans rfl
    have hcz47_1 : w33.cell? ⟨gb226, 1, none⟩ = some (.slice Ao24 t222.length co24) := (blk_cell BK226.out 1).trans rfl
    have hfz47_0 := blk_frozen BK226.out 0
    have hfz47_1 := blk_frozen BK226.out 1
    go_wp2_with (first | ((with_reducible refine gate_callee (f := 18) rfl ?_); refine goesL_ (some 42) rfl rfl Try.func18 (by kernel_rfl) rfl #[.agg #[.bool t232, .slice Ao38 t233.length co38], .agg #[.bool t221, .slice Ao24 t222.length co24]] rfl (by (try simp only [List.map_toArray, List.map_cons, List.map_nil]); first | done | rfl | (simp only [List.length_drop, List.length_take]; rfl)) ?_; (with_reducible refine (laws_eqPlan.calls k t232 _ _ t233 t221 _ _ t222 true _ ?side1 ?side2 ?side3 ?side4 A39.out).mono ?_); (case side1 => refine (Kd.R_reads' (e := 32) (base := w.heap.size) (ok := fun k_ => (((True ∧ some k_ ≠ (.slice Ao19 t218.length co19 : Value).ownBlock) ∧ some k_ ≠ (.slice Ao24 t222.length co24 : Value).ownBlock) ∧ some k_ ≠ (.slice Ao31 t228.length co31 : Value).ownBlock)) (n := t233.length) (c := co38) ?_).2.2; exact (by (with_reducible repeat (first | apply Kd.R_alloc | apply Kd.R_drewN | apply Kd.R_drew)); exact (Kd.R_mono (Kd.R_far (p := ⟨gb237, 1, none⟩) (Kd.R_far (p := ⟨gb237, 0, none⟩) (Kd.R_types HO235.out BK237.out (by decide)) (fun _ hk => hk.2) (.bool t232)) (fun _ hk => hk.2) (.slice Ao38 t233.length co38)) (fun _ h_ => h_.1)))); (case side2 => exact (Kd.R_reads' HO235.out).2.1); (case side3 => refine (Kd.R_reads' (e := 32) (base := w.heap.size) (ok := fun k_ => (((True ∧ some k_ ≠ (.slice Ao19 t218.length co19 : Value).ownBlock) ∧ some k_ ≠ (.slice Ao31 t228.length co31 : Value).ownBlock) ∧ some k_ ≠ (.slice Ao38 t233.length co38 : Value).ownBlock)) (n := t222.length) (c := co24) ?_).2.2; exact (by (with_reducible repeat (first | apply Kd.R_alloc | apply Kd.R_drewN | apply Kd.R_drew)); exact (Kd.R_mono (Kd.R_far (p := ⟨gb237, 1, none⟩) (Kd.R_far (p := ⟨gb237, 0, none⟩) (Kd.R_types HO224.out BK237.out (by decide)) (fun _ hk => hk.2) (.bool t232)) (fun _ hk => hk.2) (.slice Ao38 t233.length co38)) (fun _ h_ => h_.1)))); (case side4 => exact (Kd.R_reads' HO224.out).2.1); rintro e w48 ⟨rfl, hb⟩; refine ⟨_, rfl, ?_⟩; have n0_ := Aside0.mk (Kd.R_below (by (with_reducible repeat (first | apply Kd.R_alloc | apply Kd.R_drewN | apply Kd.R_drew)); exact (Kd.R_mono (Kd.R_far (p := ⟨gb237, 1, none⟩) (Kd.R_far (p := ⟨gb237, 0, none⟩) (Kd.R_types HO220.out BK237.out (by decide)) (fun _ hk => hk.2) (.bool t232)) (fun _ hk => hk.2) (.slice Ao38 t233.length co38)) (fun _ h_ => h_.1))) hb); have n1_ := Aside0.mk (Kd.R_below (by (with_reducible repeat (first | apply Kd.R_alloc | apply Kd.R_drewN | apply Kd.R_drew)); exact (Kd.R_mono (Kd.R_far (p := ⟨gb237, 1, none⟩) (Kd.R_far (p := ⟨gb237, 0, none⟩) (Kd.R_types HO224.out BK237.out (by decide)) (fun _ hk => hk.2) (.bool t232)) (fun _ hk => hk.2) (.slice Ao38 t233.length co38)) (fun _ h_ => h_.1))) hb); have n2_ := Aside0.mk (Kd.R_below (by (with_reducible repeat (first | apply Kd.R_alloc | apply Kd.R_drewN | apply Kd.R_drew)); exact (Kd.R_mono (Kd.R_far (p := ⟨gb237, 1, none⟩) (Kd.R_far (p := ⟨gb237, 0, none⟩) (Kd.R_types HO230.out BK237.out (by decide)) (fun _ hk => hk.2) (.bool t232)) (fun _ hk => hk.2) (.slice Ao38 t233.length co38)) (fun _ h_ => h_.1))) hb); have n3_ := Aside0.mk (Kd.R_below (by (with_reducible repeat (first | apply Kd.R_alloc | apply Kd.R_drewN | apply Kd.R_drew)); exact (Kd.R_mono (Kd.R_far (p := ⟨gb237, 1, none⟩) (Kd.R_far (p := ⟨gb237, 0, none⟩) (Kd.R_types HO235.out BK237.out (by decide)) (fun _ hk => hk.2) (.bool t232)) (fun _ hk => hk.2) (.slice Ao38 t233.length co38)) (fun _ h_ => h_.1))) hb); have n4_ := Aside0.mk (blk_below (g := gb215) (o := .cells #[.bool a0_0, .slice A0_1 l0_1.length c0_1] 38 (0, 0)) (by (with_reducible repeat (first | refine blk_drewN ?_ _ | refine blk_drew ?_ | refine blk_alloc ?_ _)); refine blk_far ?_ NB215_237.out _; (with_reducible repeat (first | refine blk_drewN ?_ _ | refine blk_drew ?_ | refine blk_alloc ?_ _)); refine blk_far ?_ NB215_237.out _; (with_reducible repeat (first | refine blk_drewN ?_ _ | refine blk_drew ?_ | refine blk_alloc ?_ _)); exact BK215.out) hb); have n5_ := Aside0.mk (blk_below (g := gb226) (o := .cells #[.bool t221, .slice Ao24 t222.length co24] 25 (0, 0)) (by (with_reducible repeat (first | refine blk_drewN ?_ _ | refine blk_drew ?_ | refine blk_alloc ?_ _)); refine blk_far ?_ NB226_237.out _; (with_reducible repeat (first | refine blk_drewN ?_ _ | refine blk_drew ?_ | refine blk_alloc ?_ _)); refine blk_far ?_ NB226_237.out _; (with_reducible repeat (first | refine blk_drewN ?_ _ | refine blk_drew ?_ | refine blk_alloc ?_ _)); exact BK226.out) hb); have n6_ := Aside0.mk (blk_below (g := gb231) (o := .cells #[.bool t227, .slice Ao31 t228.length co31] 25 (0, 0)) (by (with_reducible repeat (first | refine blk_drewN ?_ _ | refine blk_drew ?_ | refine blk_alloc ?_ _)); refine blk_far ?_ NB231_237.out _; (with_reducible repeat (first | refine blk_drewN ?_ _ | refine blk_drew ?_ | refine blk_alloc ?_ _)); refine blk_far ?_ NB231_237.out _; (with_reducible repeat (first | refine blk_drewN ?_ _ | refine blk_drew ?_ | refine blk_alloc ?_ _)); exact BK231.out) hb); have n7_ := Aside0.mk (blk_below (g := gb237) (o := .cells #[.bool t232, .slice Ao38 t233.length co38] 25 (0, 0)) (by (with_reducible repeat (first | refine blk_drewN ?_ _ | refine blk_drew ?_ | refine blk_alloc ?_ _)); refine blk_put (cs := #[.bool t232, .slice none 0 0]) ?_ 1 _ rfl; (with_reducible repeat (first | refine blk_drewN ?_ _ | refine blk_drew ?_ | refine blk_alloc ?_ _)); refine blk_put (cs := #[.bool false, .slice none 0 0]) ?_ 0 _ rfl; (with_reducible repeat (first | refine blk_drewN ?_ _ | refine blk_drew ?_ | refine blk_alloc ?_ _)); exact BK237.out) hb); have n8_ := Aside0.mk (below_step (by repeat (first | (with_reducible first | exact HB.out | apply below_alloc | apply pw_below_drewN | apply below_drew1 | refine below_set ?_ GE215.out | refine below_set ?_ GE226.out | refine below_set ?_ GE231.out | refine below_set ?_ GE237.out) | exact HB.out)) hb); clear HO220; clear HO224; clear HO230; clear HO235; clear BK215; clear BK226; clear BK231; clear BK237; clear HB; have HO220 := n0_; have HO224 := n1_; have HO230 := n2_; have HO235 := n3_; have BK215 := n4_; have BK226 := n5_; have BK231 := n6_; have BK237 := n7_; have HB := n8_; clear n0_ n1_ n2_ n3_ n4_ n5_ n6_ n7_ n8_; (try clear hb); (try clear hb2); (try clear hk); (try clear hi)))
    go_meet
    case rel => exact ⟨_, ((t236 != t225)), (by first | rfl | (simp; done) | (simp [*]; done)), H', ⟨by first | omega | exact Nat.le_refl _⟩, ⟨by (with_reducible repeat (first | apply Kd.R_alloc | apply Kd.R_drewN | apply Kd.R_drew)); exact Kd.R_mono HO224.out (fun _ hk => ⟨hk.1.2, hk.2⟩)⟩, ⟨by (with_reducible repeat (first | apply Kd.R_alloc | apply Kd.R_drewN | apply Kd.R_drew)); exact Kd.R_mono HO230.out (fun _ hk => ⟨hk.1.2, hk.2⟩)⟩, ⟨by (with_reducible repeat (first | apply Kd.R_alloc | apply Kd.R_drewN | apply Kd.R_drew)); exact Kd.R_mono HO235.out (fun _ hk => ⟨hk.1.2, hk.2⟩)⟩, ⟨by (with_reducible repeat (first | refine blk_drewN ?_ _ | refine blk_drew ?_ | refine blk_alloc ?_ _)); exact BK215.out⟩, ⟨by (with_reducible repeat (first | refine blk_drewN ?_ _ | refine blk_drew ?_ | refine blk_alloc ?_ _)); exact BK226.out⟩, ⟨by (with_reducible repeat (first | refine blk_drewN ?_ _ | refine blk_drew ?_ | refine blk_alloc ?_ _)); exact BK231.out⟩, ⟨by (with_reducible repeat (first | refine blk_drewN ?_ _ | refine blk_drew ?_ | refine blk_alloc ?_ _)); exact BK237.out⟩, ⟨by repeat (first | (with_reducible first | exact HB.out | apply below_alloc | apply pw_below_drewN | apply below_drew1 | refine below_set ?_ GE215.out | refine below_set ?_ GE226.out | refine below_set ?_ GE231.out | refine below_set ?_ GE237.out) | exact HB.out)⟩⟩
   ·replace c40 := Bool.eq_false_iff.mpr c40
    subst c40
    have H1 : (laws_FnExactPlanShift.j0 k a1 a2 t225 t236 true a0_0 l0_1 t221 t222 t227 t228 t232 t233) = some r := by rw [if_neg (show ¬ (false = true) by decide)] at H; exact H
    clear H
    have H := H1
    clear H1
    have H' := Aside0.mk H
    clear H
    have hnb49 := NB237_215.out
    have hnc49 := NB215_237.out
    have hnb50 := NB237_226.out
    have hnc50 := NB226_237.out
    have hnb51 := NB237_231.out
    have hnc51 := NB231_237.out
    have hcz52_0 : w33.cell? ⟨gb237, 0, none⟩ = some (.bool false) := (blk_cell BK237.out 0).trans rfl
    have hcz52_1 : w33.cell? ⟨gb237, 1, none⟩ = some (.slice none 0 0) := (blk_cell BK237.out 1).trans rfl
    have hfz52_0 := blk_frozen BK237.out 0
    have hfz52_1 := blk_frozen BK237.out 1
    have hnb53 := NB226_215.out
    have hnc53 := NB215_226.out
    have hnb54 := NB226_231.out
    have hnc54 := NB231_226.out
    have hcz55_0 : w33.cell? ⟨gb226, 0, none⟩ = some (.bool t221) := (blk_cell BK226.out 0).trans rfl
    have hcz55_1 : w33.cell? ⟨gb226, 1, none⟩ = some (.slice Ao24 t222.length co24) := (blk_cell BK226.out 1).trans rfl
    have hfz55_0 := blk_frozen BK226.out 0
    have hfz55_1 := blk_frozen BK226.out 1
    go_wp2_with (first | ((with_reducible refine gate_callee (f := 18) rfl ?_); refine goesL_ (some 42) rfl rfl Try.func18 (by kernel_rfl) rfl #[.agg #[.bool t232, .slice Ao38 t233.length co38], .agg #[.bool t221, .slice Ao24 t222.length co24]] rfl (by (try simp only [List.map_toArray, List.map_cons, List.map_nil]); first | done | rfl | (simp only [List.length_drop, List.length_take]; rfl)) ?_; (with_reducible refine (laws_eqPlan.calls k t232 _ _ t233 t221 _ _ t222 false _ ?side1 ?side2 ?side3 ?side4 A39.out).mono ?_); (case side1 => refine (Kd.R_reads' (e := 32) (base := w.heap.size) (ok := fun k_ => (((True ∧ some k_ ≠ (.slice Ao19 t218.length co19 : Value).ownBlock) ∧ some k_ ≠ (.slice Ao24 t222.length co24 : Value).ownBlock) ∧ some k_ ≠ (.slice Ao31 t228.length co31 : Value).ownBlock)) (n := t233.length) (c := co38) ?_).2.2; exact (by (with_reducible repeat (first | apply Kd.R_alloc | apply Kd.R_drewN | apply Kd.R_drew)); exact (Kd.R_mono (Kd.R_far (p := ⟨gb237, 1, none⟩) (Kd.R_far (p := ⟨gb237, 0, none⟩) (Kd.R_types HO235.out BK237.out (by decide)) (fun _ hk => hk.2) (.bool t232)) (fun _ hk => hk.2) (.slice Ao38 t233.length co38)) (fun _ h_ => h_.1)))); (case side2 => exact (Kd.R_reads' HO235.out).2.1); (case side3 => refine (Kd.R_reads' (e := 32) (base := w.heap.size) (ok := fun k_ => (((True ∧ some k_ ≠ (.slice Ao19 t218.length co19 : Value).ownBlock) ∧ some k_ ≠ (.slice Ao31 t228.length co31 : Value).ownBlock) ∧ some k_ ≠ (.slice Ao38 t233.length co38 : Value).ownBlock)) (n := t222.length) (c := co24) ?_).2.2; exact (by (with_reducible repeat (first | apply Kd.R_alloc | apply Kd.R_drewN | apply Kd.R_drew)); exact (Kd.R_mono (Kd.R_far (p := ⟨gb237, 1, none⟩) (Kd.R_far (p := ⟨gb237, 0, none⟩) (Kd.R_types HO224.out BK237.out (by decide)) (fun _ hk => hk.2) (.bool t232)) (fun _ hk => hk.2) (.slice Ao38 t233.length co38)) (fun _ h_ => h_.1)))); (case side4 => exact (Kd.R_reads' HO224.out).2.1); rintro e w56 ⟨rfl, hb⟩; refine ⟨_, rfl, ?_⟩; have n0_ := Aside0.mk (Kd.R_below (by (with_reducible repeat (first | apply Kd.R_alloc | apply Kd.R_drewN | apply Kd.R_drew)); exact (Kd.R_mono (Kd.R_far (p := ⟨gb237, 1, none⟩) (Kd.R_far (p := ⟨gb237, 0, none⟩) (Kd.R_types HO220.out BK237.out (by decide)) (fun _ hk => hk.2) (.bool t232)) (fun _ hk => hk.2) (.slice Ao38 t233.length co38)) (fun _ h_ => h_.1))) hb); have n1_ := Aside0.mk (Kd.R_below (by (with_reducible repeat (first | apply Kd.R_alloc | apply Kd.R_drewN | apply Kd.R_drew)); exact (Kd.R_mono (Kd.R_far (p := ⟨gb237, 1, none⟩) (Kd.R_far (p := ⟨gb237, 0, none⟩) (Kd.R_types HO224.out BK237.out (by decide)) (fun _ hk => hk.2) (.bool t232)) (fun _ hk => hk.2) (.slice Ao38 t233.length co38)) (fun _ h_ => h_.1))) hb); have n2_ := Aside0.mk (Kd.R_below (by (with_reducible repeat (first | apply Kd.R_alloc | apply Kd.R_drewN | apply Kd.R_drew)); exact (Kd.R_mono (Kd.R_far (p := ⟨gb237, 1, none⟩) (Kd.R_far (p := ⟨gb237, 0, none⟩) (Kd.R_types HO230.out BK237.out (by decide)) (fun _ hk => hk.2) (.bool t232)) (fun _ hk => hk.2) (.slice Ao38 t233.length co38)) (fun _ h_ => h_.1))) hb); have n3_ := Aside0.mk (Kd.R_below (by (with_reducible repeat (first | apply Kd.R_alloc | apply Kd.R_drewN | apply Kd.R_drew)); exact (Kd.R_mono (Kd.R_far (p := ⟨gb237, 1, none⟩) (Kd.R_far (p := ⟨gb237, 0, none⟩) (Kd.R_types HO235.out BK237.out (by decide)) (fun _ hk => hk.2) (.bool t232)) (fun _ hk => hk.2) (.slice Ao38 t233.length co38)) (fun _ h_ => h_.1))) hb); have n4_ := Aside0.mk (blk_below (g := gb215) (o := .cells #[.bool a0_0, .slice A0_1 l0_1.length c0_1] 38 (0, 0)) (by (with_reducible repeat (first | refine blk_drewN ?_ _ | refine blk_drew ?_ | refine blk_alloc ?_ _)); refine blk_far ?_ NB215_237.out _; (with_reducible repeat (first | refine blk_drewN ?_ _ | refine blk_drew ?_ | refine blk_alloc ?_ _)); refine blk_far ?_ NB215_237.out _; (with_reducible repeat (first | refine blk_drewN ?_ _ | refine blk_drew ?_ | refine blk_alloc ?_ _)); exact BK215.out) hb); have n5_ := Aside0.mk (blk_below (g := gb226) (o := .cells #[.bool t221, .slice Ao24 t222.length co24] 25 (0, 0)) (by (with_reducible repeat (first | refine blk_drewN ?_ _ | refine blk_drew ?_ | refine blk_alloc ?_ _)); refine blk_far ?_ NB226_237.out _; (with_reducible repeat (first | refine blk_drewN ?_ _ | refine blk_drew ?_ | refine blk_alloc ?_ _)); refine blk_far ?_ NB226_237.out _; (with_reducible repeat (first | refine blk_drewN ?_ _ | refine blk_drew ?_ | refine blk_alloc ?_ _)); exact BK226.out) hb); have n6_ := Aside0.mk (blk_below (g := gb231) (o := .cells #[.bool t227, .slice Ao31 t228.length co31] 25 (0, 0)) (by (with_reducible repeat (first | refine blk_drewN ?_ _ | refine blk_drew ?_ | refine blk_alloc ?_ _)); refine blk_far ?_ NB231_237.out _; (with_reducible repeat (first | refine blk_drewN ?_ _ | refine blk_drew ?_ | refine blk_alloc ?_ _)); refine blk_far ?_ NB231_237.out _; (with_reducible repeat (first | refine blk_drewN ?_ _ | refine blk_drew ?_ | refine blk_alloc ?_ _)); exact BK231.out) hb); have n7_ := Aside0.mk (blk_below (g := gb237) (o := .cells #[.bool t232, .slice Ao38 t233.length co38] 25 (0, 0)) (by (with_reducible repeat (first | refine blk_drewN ?_ _ | refine blk_drew ?_ | refine blk_alloc ?_ _)); refine blk_put (cs := #[.bool t232, .slice none 0 0]) ?_ 1 _ rfl; (with_reducible repeat (first | refine blk_drewN ?_ _ | refine blk_drew ?_ | refine blk_alloc ?_ _)); refine blk_put (cs := #[.bool false, .slice none 0 0]) ?_ 0 _ rfl; (with_reducible repeat (first | refine blk_drewN ?_ _ | refine blk_drew ?_ | refine blk_alloc ?_ _)); exact BK237.out) hb); have n8_ := Aside0.mk (below_step (by repeat (first | (with_reducible first | exact HB.out | apply below_alloc | apply pw_below_drewN | apply below_drew1 | refine below_set ?_ GE215.out | refine below_set ?_ GE226.out | refine below_set ?_ GE231.out | refine below_set ?_ GE237.out) | exact HB.out)) hb); clear HO220; clear HO224; clear HO230; clear HO235; clear BK215; clear BK226; clear BK231; clear BK237; clear HB; have HO220 := n0_; have HO224 := n1_; have HO230 := n2_; have HO235 := n3_; have BK215 := n4_; have BK226 := n5_; have BK231 := n6_; have BK237 := n7_; have HB := n8_; clear n0_ n1_ n2_ n3_ n4_ n5_ n6_ n7_ n8_; (try clear hb); (try clear hb2); (try clear hk); (try clear hi)))
    go_meet
    case rel => exact ⟨_, (true), (by first | rfl | (simp; done) | (simp [*]; done)), H', ⟨by first | omega | exact Nat.le_refl _⟩, ⟨by (with_reducible repeat (first | apply Kd.R_alloc | apply Kd.R_drewN | apply Kd.R_drew)); exact Kd.R_mono HO224.out (fun _ hk => ⟨hk.1.2, hk.2⟩)⟩, ⟨by (with_reducible repeat (first | apply Kd.R_alloc | apply Kd.R_drewN | apply Kd.R_drew)); exact Kd.R_mono HO230.out (fun _ hk => ⟨hk.1.2, hk.2⟩)⟩, ⟨by (with_reducible repeat (first | apply Kd.R_alloc | apply Kd.R_drewN | apply Kd.R_drew)); exact Kd.R_mono HO235.out (fun _ hk => ⟨hk.1.2, hk.2⟩)⟩, ⟨by (with_reducible repeat (first | refine blk_drewN ?_ _ | refine blk_drew ?_ | refine blk_alloc ?_ _)); exact BK215.out⟩, ⟨by (with_reducible repeat (first | refine blk_drewN ?_ _ | refine blk_drew ?_ | refine blk_alloc ?_ _)); exact BK226.out⟩, ⟨by (with_reducible repeat (first | refine blk_drewN ?_ _ | refine blk_drew ?_ | refine blk_alloc ?_ _)); exact BK231.out⟩, ⟨by (with_reducible repeat (first | refine blk_drewN ?_ _ | refine blk_drew ?_ | refine blk_alloc ?_ _)); exact BK237.out⟩, ⟨by repeat (first | (with_reducible first | exact HB.out | apply below_alloc | apply pw_below_drewN | apply below_drew1 | refine below_set ?_ GE215.out | refine below_set ?_ GE226.out | refine below_set ?_ GE231.out | refine below_set ?_ GE237.out) | exact HB.out)⟩⟩
  case rest =>
   clear HC13
   try clear c1
   try clear c2
   try clear p2
   try clear c3
   try clear c4
   try clear c5
   try clear c5b0
   try clear c6
   try clear c14
   try clear c15
   try clear c16
   try clear c17
   try clear c18
   try clear c22
   try clear c28
   try clear c29
   try clear c34
   try clear c35
   try clear c36
   try clear c40
   try clear c41
   try clear c42
   try clear c43
   try clear c45
   try clear c46
   try clear c49
   try clear c50
   try clear c51
   try clear c53
   try clear c54
   try clear hcz15_0
   try clear hcz15_1
   try clear hcz17_0
   try clear hcz17_1
   try clear hcz23_0
   try clear hcz23_1
   try clear hcz25_0
   try clear hcz25_1
   try clear hcz30_0
   try clear hcz30_1
   try clear hcz37_0
   try clear hcz37_1
   try clear hcz44_0
   try clear hcz44_1
   try clear hcz47_0
   try clear hcz47_1
   try clear hcz52_0
   try clear hcz52_1
   try clear hcz55_0
   try clear hcz55_1
   try clear hcz7_0
   try clear hcz7_1
   try clear hfz15_0
   try clear hfz15_1
   try clear hfz17_0
   try clear hfz17_1
   try clear hfz23_0
   try clear hfz23_1
   try clear hfz25_0
   try clear hfz25_1
   try clear hfz30_0
   try clear hfz30_1
   try clear hfz37_0
   try clear hfz37_1
   try clear hfz44_0
   try clear hfz44_1
   try clear hfz47_0
   try clear hfz47_1
   try clear hfz52_0
   try clear hfz52_1
   try clear hfz55_0
   try clear hfz55_1
   try clear hfz7_0
   try clear hfz7_1
   obtain ⟨kq, x48_12, rfl, HA, HJ12, HO_227001, HO_232001, HO_238001, BK215, BK226, BK231, BK237, HB⟩ := hcut
   cases kq with
   | zero => exact absurd HA.out (by simp [laws_FnExactPlanShift.j0])
   | succ kj12 =>
    have H := HA.out
    clear HA
    simp only [laws_FnExactPlanShift.j0] at H
    by_cases c57 : x48_12 = true
    ·subst c57
     have H1 : (some false) = some r := by rw [if_pos rfl] at H; exact H
     clear H
     have H := H1
     clear H1
     exact absurd ((Option.some.inj H).trans HRT_.out) (by decide)
    ·replace c57 := Bool.eq_false_iff.mpr c57
     subst c57
     have H1 : ((laws_toPlan.f kj12 a0_0 l0_1).bind fun bt239 => ((laws_eqPlan.f kj12 t227 t228 bt239.1 bt239.2).bind fun t243 => (if t243 = true then ((laws_markPlan.f kj12 t227 t228 1).bind fun bt244 => (if bt244.1 < 0 then (laws_FnExactPlanShift.j1 kj12 a1 a2 t225 true a0_0 l0_1 t221 t222 t232 t233) else ((laws_eqPlan.f kj12 t232 t233 t221 t222).bind fun t246 => (if t246 = true then (laws_FnExactPlanShift.j1 kj12 a1 a2 t225 (t236 != t225) a0_0 l0_1 t221 t222 t232 t233) else (laws_FnExactPlanShift.j1 kj12 a1 a2 t225 true a0_0 l0_1 t221 t222 t232 t233))))) else (some false)))) = some r := by rw [if_neg (show ¬ (false = true) by decide)] at H; exact H
     clear H
     have H := H1
     clear H1
     replace H := Option.bind_eq_some_iff.mp H
     obtain ⟨⟨t239, t240⟩, A580, H⟩ := H
     replace H : ((laws_eqPlan.f kj12 t227 t228 t239 t240).bind fun t243 => (if t243 = true then ((laws_markPlan.f kj12 t227 t228 1).bind fun bt244 => (if bt244.1 < 0 then (laws_FnExactPlanShift.j1 kj12 a1 a2 t225 true a0_0 l0_1 t221 t222 t232 t233) else ((laws_eqPlan.f kj12 t232 t233 t221 t222).bind fun t246 => (if t246 = true then (laws_FnExactPlanShift.j1 kj12 a1 a2 t225 (t236 != t225) a0_0 l0_1 t221 t222 t232 t233) else (laws_FnExactPlanShift.j1 kj12 a1 a2 t225 true a0_0 l0_1 t221 t222 t232 t233))))) else (some false))) = some r := H
     have A58 := Aside0.mk A580
     clear A580
     replace H := Option.bind_eq_some_iff.mp H
     obtain ⟨t243, A590, H⟩ := H
     replace H : (if t243 = true then ((laws_markPlan.f kj12 t227 t228 1).bind fun bt244 => (if bt244.1 < 0 then (laws_FnExactPlanShift.j1 kj12 a1 a2 t225 true a0_0 l0_1 t221 t222 t232 t233) else ((laws_eqPlan.f kj12 t232 t233 t221 t222).bind fun t246 => (if t246 = true then (laws_FnExactPlanShift.j1 kj12 a1 a2 t225 (t236 != t225) a0_0 l0_1 t221 t222 t232 t233) else (laws_FnExactPlanShift.j1 kj12 a1 a2 t225 true a0_0 l0_1 t221 t222 t232 t233))))) else (some false)) = some r := H
     have A59 := Aside0.mk A590
     clear A590
     by_cases c60 : t243 = true
     ·subst c60
      have H1 : ((laws_markPlan.f kj12 t227 t228 1).bind fun bt244 => (if bt244.1 < 0 then (laws_FnExactPlanShift.j1 kj12 a1 a2 t225 true a0_0 l0_1 t221 t222 t232 t233) else ((laws_eqPlan.f kj12 t232 t233 t221 t222).bind fun t246 => (if t246 = true then (laws_FnExactPlanShift.j1 kj12 a1 a2 t225 (t236 != t225) a0_0 l0_1 t221 t222 t232 t233) else (laws_FnExactPlanShift.j1 kj12 a1 a2 t225 true a0_0 l0_1 t221 t222 t232 t233))))) = some r := by rw [if_pos rfl] at H; exact H
      clear H
      have H := H1
      clear H1
      replace H := Option.bind_eq_some_iff.mp H
      obtain ⟨⟨t244, t245⟩, A610, H⟩ := H
      replace H : (if t244 < 0 then (laws_FnExactPlanShift.j1 kj12 a1 a2 t225 true a0_0 l0_1 t221 t222 t232 t233) else ((laws_eqPlan.f kj12 t232 t233 t221 t222).bind fun t246 => (if t246 = true then (laws_FnExactPlanShift.j1 kj12 a1 a2 t225 (t236 != t225) a0_0 l0_1 t221 t222 t232 t233) else (laws_FnExactPlanShift.j1 kj12 a1 a2 t225 true a0_0 l0_1 t221 t222 t232 t233)))) = some r := H
      have A61 := Aside0.mk A610
      clear A610
      have HC62 := Aside0.mk H
      clear H
      try go_wp2
      have n0_ := Aside0.mk (Kd.R_drew HO_227001.out)
      have n1_ := Aside0.mk (Kd.R_drew HO_232001.out)
      have n2_ := Aside0.mk (Kd.R_drew HO_238001.out)
      have n3_ := Aside0.mk (blk_drew BK215.out)
      have n4_ := Aside0.mk (blk_drew BK226.out)
      have n5_ := Aside0.mk (blk_drew BK231.out)
      have n6_ := Aside0.mk (blk_drew BK237.out)
      have n7_ := Aside0.mk (below_drew1 HB.out)
      clear HO_227001
      clear HO_232001
      clear HO_238001
      clear BK215
      clear BK226
      clear BK231
      clear BK237
      clear HB
      have HO_227001 := n0_
      have HO_232001 := n1_
      have HO_238001 := n2_
      have BK215 := n3_
      have BK226 := n4_
      have BK231 := n5_
      have BK237 := n6_
      have HB := n7_
      clear n0_ n1_ n2_ n3_ n4_ n5_ n6_ n7_
      refine start_ (n := 5) (S := fun w' => w'.cell? ⟨gb231, 0, none⟩ = some (.bool t227) ∧ w'.cell? ⟨gb231, 1, none⟩ = some (.slice Ao31 t228.length co31) ∧ w'.cell? ⟨gb215, 0, none⟩ = some (.bool a0_0) ∧ w'.cell? ⟨gb215, 1, none⟩ = some (.slice A0_1 l0_1.length c0_1)) (ds := []) #[false, false, false, false, false] (by kernel_rfl) rfl rfl ⟨(blk_cell BK231.out 0).trans rfl, (blk_cell BK231.out 1).trans rfl, (blk_cell BK215.out 0).trans rfl, (blk_cell BK215.out 1).trans rfl⟩ (fun hHeld => ?_)
      generalize wc.drew = w63 at HO_227001 HO_232001 HO_238001 BK215 BK226 BK231 BK237 HB hHeld ⊢
      refine take_ (i := 0) (N := some 49) (v := ?_) (a' := ?_) #[true, false, false, false, false] rfl rfl (by kernel_rfl) (fun _ _ _ h => h) (Or.inl ⟨by rfl, ?_⟩) hHeld ?_ ?_
      rotate_left
      ·rintro w' ⟨s0, s1, s2, s3⟩
       go_simp
       with_reducible rfl
      rotate_left
      ·simp only [Act.put, List.setIfInBounds_toArray, List.set_cons_zero, List.set_cons_succ, i64_w, i32_w]
       rfl
      refine take_ (i := 1) (N := some 50) (v := ?_) (a' := ?_) #[true, true, false, false, false] rfl rfl (by kernel_rfl) (fun _ _ _ h => h) (Or.inl ⟨by rfl, ?_⟩) hHeld ?_ ?_
      rotate_left
      ·rintro w' ⟨s0, s1, s2, s3⟩
       go_simp
       with_reducible rfl
      rotate_left
      ·simp only [Act.put, List.setIfInBounds_toArray, List.set_cons_zero, List.set_cons_succ, i64_w, i32_w]
       rfl
      refine one_ (i := 2) (N := some 51) #[true, true, true, false, false] rfl rfl (by kernel_rfl) (by decide) (fun K hK => ?_)
      refine goes_ Try.func17 (by kernel_rfl) rfl #[.agg #[.bool a0_0, .slice A0_1 l0_1.length c0_1]] (by rfl) rfl rfl (by (try simp only [List.map_toArray, List.map_cons, List.map_nil]); first | done | rfl | (simp only [List.length_drop, List.length_take]; rfl)) ?_
      with_reducible refine (laws_toPlan.calls kj12 a0_0 _ _ l0_1 t239 t240 _ ?side1 ?side2 A58.out).mono ?_
      (case side1 => repeat (first | exact (Kd.C_below HR0_1.out HB.out) | (with_reducible refine Kd.C_alloc ?_ _) | (with_reducible refine Kd.C_drewN ?_ _) | (with_reducible refine Kd.C_drew ?_)))
      (case side2 => exact HC0_1.out)
      rintro e w64 ⟨v241, rfl, ho0, hb⟩
      refine ⟨_, rfl, ?_⟩
      have n0_ := Aside0.mk (Kd.R_elder' (by (with_reducible repeat (first | apply Kd.R_alloc | apply Kd.R_drewN | apply Kd.R_drew)); exact HO_227001.out) (Kd.R_base ho0) hb)
      have n1_ := Aside0.mk (Kd.R_elder' (by (with_reducible repeat (first | apply Kd.R_alloc | apply Kd.R_drewN | apply Kd.R_drew)); exact HO_232001.out) (Kd.R_base ho0) hb)
      have n2_ := Aside0.mk (Kd.R_elder' (by (with_reducible repeat (first | apply Kd.R_alloc | apply Kd.R_drewN | apply Kd.R_drew)); exact HO_238001.out) (Kd.R_base ho0) hb)
      have n3_ := Aside0.mk (Kd.R_lower (Kd.R_new' (Kd.R_new' (Kd.R_new' ho0 (Kd.R_lt (by (with_reducible repeat (first | apply Kd.R_alloc | apply Kd.R_drewN | apply Kd.R_drew)); exact HO_227001.out))) (Kd.R_lt (by (with_reducible repeat (first | apply Kd.R_alloc | apply Kd.R_drewN | apply Kd.R_drew)); exact HO_232001.out))) (Kd.R_lt (by (with_reducible repeat (first | apply Kd.R_alloc | apply Kd.R_drewN | apply Kd.R_drew)); exact HO_238001.out))) (below_size (by repeat (first | (with_reducible first | exact HB.out | apply below_alloc | apply pw_below_drewN | apply below_drew1 | refine below_set ?_ GE215.out | refine below_set ?_ GE226.out | refine below_set ?_ GE231.out | refine below_set ?_ GE237.out) | exact HB.out))))
      have n4_ := Aside0.mk (blk_below (g := gb215) (o := .cells #[.bool a0_0, .slice A0_1 l0_1.length c0_1] 38 (0, 0)) (by (with_reducible repeat (first | refine blk_drewN ?_ _ | refine blk_drew ?_ | refine blk_alloc ?_ _)); exact BK215.out) hb)
      have n5_ := Aside0.mk (blk_below (g := gb226) (o := .cells #[.bool t221, .slice Ao24 t222.length co24] 25 (0, 0)) (by (with_reducible repeat (first | refine blk_drewN ?_ _ | refine blk_drew ?_ | refine blk_alloc ?_ _)); exact BK226.out) hb)
      have n6_ := Aside0.mk (blk_below (g := gb231) (o := .cells #[.bool t227, .slice Ao31 t228.length co31] 25 (0, 0)) (by (with_reducible repeat (first | refine blk_drewN ?_ _ | refine blk_drew ?_ | refine blk_alloc ?_ _)); exact BK231.out) hb)
      have n7_ := Aside0.mk (blk_below (g := gb237) (o := .cells #[.bool t232, .slice Ao38 t233.length co38] 25 (0, 0)) (by (with_reducible repeat (first | refine blk_drewN ?_ _ | refine blk_drew ?_ | refine blk_alloc ?_ _)); exact BK237.out) hb)
      have n8_ := Aside0.mk (below_step (by repeat (first | (with_reducible first | exact HB.out | apply below_alloc | apply pw_below_drewN | apply below_drew1 | refine below_set ?_ GE215.out | refine below_set ?_ GE226.out | refine below_set ?_ GE231.out | refine below_set ?_ GE237.out) | exact HB.out)) hb)
      clear HO_227001
      clear HO_232001
      clear HO_238001
      clear BK215
      clear BK226
      clear BK231
      clear BK237
      clear HB
      have HO_227001 := n0_
      have HO_232001 := n1_
      have HO_238001 := n2_
      have HO242 := n3_
      have BK215 := n4_
      have BK226 := n5_
      have BK231 := n6_
      have BK237 := n7_
      have HB := n8_
      clear n0_ n1_ n2_ n3_ n4_ n5_ n6_ n7_ n8_
      (try clear hb)
      (try clear hb2)
      (try clear hk)
      (try clear hi)
      (try clear ho0)
      obtain ⟨Ao65, co65, eo65⟩ := Kd.R_slice HO242.out
      (first | subst eo65 | (injection eo65 with f1_ f2_ f3_; have f4_ := f1_.symm; have f5_ := f3_.symm; clear f1_ f2_ f3_; subst f4_; subst f5_))
      refine hK.out _ _ ⟨(blk_cell BK231.out 0).trans rfl, (blk_cell BK231.out 1).trans rfl, (blk_cell BK215.out 0).trans rfl, (blk_cell BK215.out 1).trans rfl⟩ (fun hHeld => ?_)
      clear hK K
      refine norm_ (a' := ?_) ?_ ?_
      rotate_left
      ·show Act.put _ (some 51) _ = _
       simp only [Act.put, List.setIfInBounds_toArray, List.set_cons_zero, List.set_cons_succ, i64_w, i32_w]
       rfl
      refine one_ (i := 3) (N := some 52) #[true, true, true, true, false] rfl rfl (by kernel_rfl) (by decide) (fun K hK => ?_)
      refine goes_ Try.func18 (by kernel_rfl) rfl #[.agg #[.bool t227, .slice Ao31 t228.length co31], .agg #[.bool t239, .slice Ao65 t240.length co65]] (by rfl) rfl rfl (by (try simp only [List.map_toArray, List.map_cons, List.map_nil]); first | done | rfl | (simp only [List.length_drop, List.length_take]; rfl)) ?_
      with_reducible refine (laws_eqPlan.calls kj12 t227 _ _ t228 t239 _ _ t240 true _ ?side1 ?side2 ?side3 ?side4 A59.out).mono ?_
      (case side1 => repeat (first | exact (Kd.R_reads' HO_232001.out).2.2 | (with_reducible refine Kd.C_alloc ?_ _) | (with_reducible refine Kd.C_drewN ?_ _) | (with_reducible refine Kd.C_drew ?_)))
      (case side2 => exact (Kd.R_reads' HO_232001.out).2.1)
      (case side3 => repeat (first | exact (Kd.R_reads' HO242.out).2.2 | (with_reducible refine Kd.C_alloc ?_ _) | (with_reducible refine Kd.C_drewN ?_ _) | (with_reducible refine Kd.C_drew ?_)))
      (case side4 => exact (Kd.R_reads' HO242.out).2.1)
      rintro e w66 ⟨rfl, hb⟩
      refine ⟨_, rfl, ?_⟩
      have n0_ := Aside0.mk (Kd.R_below (by (with_reducible repeat (first | apply Kd.R_alloc | apply Kd.R_drewN | apply Kd.R_drew)); exact HO_227001.out) hb)
      have n1_ := Aside0.mk (Kd.R_below (by (with_reducible repeat (first | apply Kd.R_alloc | apply Kd.R_drewN | apply Kd.R_drew)); exact HO_232001.out) hb)
      have n2_ := Aside0.mk (Kd.R_below (by (with_reducible repeat (first | apply Kd.R_alloc | apply Kd.R_drewN | apply Kd.R_drew)); exact HO_238001.out) hb)
      have n3_ := Aside0.mk (Kd.R_below (by (with_reducible repeat (first | apply Kd.R_alloc | apply Kd.R_drewN | apply Kd.R_drew)); exact HO242.out) hb)
      have n4_ := Aside0.mk (blk_below (g := gb215) (o := .cells #[.bool a0_0, .slice A0_1 l0_1.length c0_1] 38 (0, 0)) (by (with_reducible repeat (first | refine blk_drewN ?_ _ | refine blk_drew ?_ | refine blk_alloc ?_ _)); exact BK215.out) hb)
      have n5_ := Aside0.mk (blk_below (g := gb226) (o := .cells #[.bool t221, .slice Ao24 t222.length co24] 25 (0, 0)) (by (with_reducible repeat (first | refine blk_drewN ?_ _ | refine blk_drew ?_ | refine blk_alloc ?_ _)); exact BK226.out) hb)
      have n6_ := Aside0.mk (blk_below (g := gb231) (o := .cells #[.bool t227, .slice Ao31 t228.length co31] 25 (0, 0)) (by (with_reducible repeat (first | refine blk_drewN ?_ _ | refine blk_drew ?_ | refine blk_alloc ?_ _)); exact BK231.out) hb)
      have n7_ := Aside0.mk (blk_below (g := gb237) (o := .cells #[.bool t232, .slice Ao38 t233.length co38] 25 (0, 0)) (by (with_reducible repeat (first | refine blk_drewN ?_ _ | refine blk_drew ?_ | refine blk_alloc ?_ _)); exact BK237.out) hb)
      have n8_ := Aside0.mk (below_step (by repeat (first | (with_reducible first | exact HB.out | apply below_alloc | apply pw_below_drewN | apply below_drew1 | refine below_set ?_ GE215.out | refine below_set ?_ GE226.out | refine below_set ?_ GE231.out | refine below_set ?_ GE237.out) | exact HB.out)) hb)
      clear HO_227001
      clear HO_232001
      clear HO_238001
      clear HO242
      clear BK215
      clear BK226
      clear BK231
      clear BK237
      clear HB
      have HO_227001 := n0_
      have HO_232001 := n1_
      have HO_238001 := n2_
      have HO242 := n3_
      have BK215 := n4_
      have BK226 := n5_
      have BK231 := n6_
      have BK237 := n7_
      have HB := n8_
      clear n0_ n1_ n2_ n3_ n4_ n5_ n6_ n7_ n8_
      (try clear hb)
      (try clear hb2)
      (try clear hk)
      (try clear hi)
      refine hK.out _ _ ⟨(blk_cell BK231.out 0).trans rfl, (blk_cell BK231.out 1).trans rfl, (blk_cell BK215.out 0).trans rfl, (blk_cell BK215.out 1).trans rfl⟩ (fun hHeld => ?_)
      clear hK K
      refine norm_ (a' := ?_) ?_ ?_
      rotate_left
      ·show Act.put _ (some 52) _ = _
       simp only [Act.put, List.setIfInBounds_toArray, List.set_cons_zero, List.set_cons_succ, i64_w, i32_w]
       rfl
      refine pure_ (i := 4) (N := some 53) (v := ?_) (a' := ?_) #[true, true, true, true, true] rfl rfl (by kernel_rfl) (fun _ _ _ h => h) (Or.inl ⟨by rfl, ?_⟩) ?_ ?_
      rotate_left
      ·intro w'
       go_simp
       with_reducible rfl
      rotate_left
      ·simp only [Act.put, List.setIfInBounds_toArray, List.set_cons_zero, List.set_cons_succ, i64_w, i32_w]
       rfl
      refine done_ (by kernel_rfl) ?_
      have hnb67 := NB231_215.out
      have hnc67 := NB215_231.out
      have hnb68 := NB231_226.out
      have hnc68 := NB226_231.out
      have hnb69 := NB231_237.out
      have hnc69 := NB237_231.out
      have hcz70_0 : w66.cell? ⟨gb231, 0, none⟩ = some (.bool t227) := (blk_cell BK231.out 0).trans rfl
      have hcz70_1 : w66.cell? ⟨gb231, 1, none⟩ = some (.slice Ao31 t228.length co31) := (blk_cell BK231.out 1).trans rfl
      have hfz70_0 := blk_frozen BK231.out 0
      have hfz70_1 := blk_frozen BK231.out 1
      go_upto_region 14 with (first | ((with_reducible refine gate_callee (f := 19) rfl ?_); refine goesL_ (some 56) rfl rfl Try.func19 (by kernel_rfl) rfl #[.agg #[.bool t227, .slice Ao31 t228.length co31], .int .i64 1] rfl (by (try simp only [List.map_toArray, List.map_cons, List.map_nil]); first | done | rfl | (simp only [List.length_drop, List.length_take]; rfl)) ?_; (with_reducible refine (laws_markPlan.calls kj12 t227 (fun k_ => some k_ = (.slice Ao31 t228.length co31 : Value).ownBlock) (.slice Ao31 t228.length co31) t228 1 t244 t245 w _ ?side1 ?side2 A61.out).mono ?_); (case side1 => repeat (first | (with_reducible first | exact HB.out | apply below_alloc | apply pw_below_drewN | apply below_drew1 | refine below_set ?_ GE215.out | refine below_set ?_ GE226.out | refine below_set ?_ GE231.out | refine below_set ?_ GE237.out) | exact HB.out)); (case side2 => exact Kd.R_tight rfl HO_232001.out); rintro e w71 ⟨rfl, hy0, hb, hkp⟩; refine ⟨_, rfl, ?_⟩; have n0_ := Aside0.mk (Kd.R_mono (ok' := fun k_ => some k_ ≠ (.slice Ao31 t228.length co31 : Value).ownBlock ∧ some k_ ≠ (.slice Ao38 t233.length co38 : Value).ownBlock ∧ some k_ ≠ (.slice Ao65 t240.length co65 : Value).ownBlock) (Kd.R_keptB (HO_227001.out) hkp (fun k_ hk_ hs_ => (hk_.1.1) hs_)) (fun k_ hk_ => ⟨hk_.1.1.1, hk_.1.1.2, hk_.1.2⟩)); have n1_ := Aside0.mk (Kd.R_reok rfl hy0 (fun k_ e_ => HO_232001.out.1 k_ e_)); have n2_ := Aside0.mk (Kd.R_mono (ok' := fun k_ => some k_ ≠ (.slice Ao24 t222.length co24 : Value).ownBlock ∧ some k_ ≠ (.slice Ao31 t228.length co31 : Value).ownBlock ∧ some k_ ≠ (.slice Ao65 t240.length co65 : Value).ownBlock) (Kd.R_keptB (HO_238001.out) hkp (fun k_ hk_ hs_ => (hk_.1.2) hs_)) (fun k_ hk_ => ⟨hk_.1.1.1, hk_.1.1.2, hk_.1.2⟩)); have n3_ := Aside0.mk (blk_kept (by (with_reducible repeat (first | refine blk_drewN ?_ _ | refine blk_drew ?_ | refine blk_alloc ?_ _)); exact BK215.out) hkp (fun hs_ => (fun e_ => (Kd.R_ne HO_232001.out BK215.out (by decide)) e_) hs_)); have n4_ := Aside0.mk (blk_kept (by (with_reducible repeat (first | refine blk_drewN ?_ _ | refine blk_drew ?_ | refine blk_alloc ?_ _)); exact BK226.out) hkp (fun hs_ => (fun e_ => (Kd.R_ne HO_232001.out BK226.out (by decide)) e_) hs_)); have n5_ := Aside0.mk (blk_kept (by (with_reducible repeat (first | refine blk_drewN ?_ _ | refine blk_drew ?_ | refine blk_alloc ?_ _)); exact BK231.out) hkp (fun hs_ => (fun e_ => (Kd.R_ne HO_232001.out BK231.out (by decide)) e_) hs_)); have n6_ := Aside0.mk (blk_kept (by (with_reducible repeat (first | refine blk_drewN ?_ _ | refine blk_drew ?_ | refine blk_alloc ?_ _)); exact BK237.out) hkp (fun hs_ => (fun e_ => (Kd.R_ne HO_232001.out BK237.out (by decide)) e_) hs_)); have n7_ := Aside0.mk (Kd.R_mono (ok' := fun k_ => some k_ ≠ (.slice Ao24 t222.length co24 : Value).ownBlock ∧ some k_ ≠ (.slice Ao31 t228.length co31 : Value).ownBlock ∧ some k_ ≠ (.slice Ao38 t233.length co38 : Value).ownBlock) (Kd.R_keptB (HO242.out) hkp (fun k_ hk_ hs_ => (hk_.1.2) hs_)) (fun k_ hk_ => ⟨hk_.1.1.1.2, hk_.1.1.2, hk_.1.2⟩)); have n8_ := Aside0.mk (hb); clear HO_227001; clear HO_232001; clear HO_238001; clear BK215; clear BK226; clear BK231; clear BK237; clear HO242; clear HB; have HO_227001 := n0_; have HO_232001 := n1_; have HO_238001 := n2_; have BK215 := n3_; have BK226 := n4_; have BK231 := n5_; have BK237 := n6_; have HO242 := n7_; have HB := n8_; clear n0_ n1_ n2_ n3_ n4_ n5_ n6_ n7_ n8_; (try clear hb); (try clear hkp); (try clear hy0)))
      (try simp only [Act.put, List.setIfInBounds_toArray, List.set_cons_zero, List.set_cons_succ])
      go_cut [69] (fun v69 wc => ∃ (kq : Nat) (x69_61 : Bool), v69 = .bool x69_61 ∧ Aside0 (laws_FnExactPlanShift.j1 kq a1 a2 t225 x69_61 a0_0 l0_1 t221 t222 t232 t233 = some r) ∧ Aside0 (kq ≤ kj12) ∧ Aside0 (Kd.R k32 32 wc w.heap.size (fun k_ => some k_ ≠ ((.slice Ao31 t228.length co31) : Value).ownBlock ∧ some k_ ≠ ((.slice Ao38 t233.length co38) : Value).ownBlock) (.slice Ao24 t222.length co24) t222) ∧ Aside0 (Kd.R k32 32 wc w.heap.size (fun k_ => some k_ ≠ ((.slice Ao24 t222.length co24) : Value).ownBlock ∧ some k_ ≠ ((.slice Ao38 t233.length co38) : Value).ownBlock) (.slice Ao31 t228.length co31) t245) ∧ Aside0 (Kd.R k32 32 wc w.heap.size (fun k_ => some k_ ≠ ((.slice Ao24 t222.length co24) : Value).ownBlock ∧ some k_ ≠ ((.slice Ao31 t228.length co31) : Value).ownBlock) (.slice Ao38 t233.length co38) t233) ∧ Aside0 (wc.heap[gb215]? = some (.cells #[.bool a0_0, (.slice A0_1 l0_1.length c0_1)] 38 (0, 0))) ∧ Aside0 (wc.heap[gb226]? = some (.cells #[.bool t221, (.slice Ao24 t222.length co24)] 25 (0, 0))) ∧ Aside0 (wc.heap[gb231]? = some (.cells #[.bool t227, (.slice Ao31 t228.length co31)] 25 (0, 0))) ∧ Aside0 (wc.heap[gb237]? = some (.cells #[.bool t232, (.slice Ao38 t233.length co38)] 25 (0, 0))) ∧ Aside0 (Below w.heap.size w wc))
      case first =>
       have H := HC62.out
       clear HC62
       by_cases c72 : t244 < 0
       ·rw [if_pos c72] at H
        have c72b0 : decide (t244 < 0) = true := decide_eq_true c72
        clear c72
        (first | rw [c72b0] | (simp only [i64_w, i32_w]; rw [c72b0]) | skip)
        have H' := Aside0.mk H
        clear H
        go_wp2
        go_meet
        case rel => exact ⟨_, (true), (by first | rfl | (simp; done) | (simp [*]; done)), H', ⟨by have := HJ12.out; first | omega | exact Nat.le_refl _⟩, ⟨by (with_reducible repeat (first | apply Kd.R_alloc | apply Kd.R_drewN | apply Kd.R_drew)); exact Kd.R_mono HO_227001.out (fun _ hk => ⟨hk.1, hk.2.1⟩)⟩, ⟨by (with_reducible repeat (first | apply Kd.R_alloc | apply Kd.R_drewN | apply Kd.R_drew)); exact Kd.R_mono HO_232001.out (fun _ hk => ⟨hk.1.1, hk.1.2⟩)⟩, ⟨by (with_reducible repeat (first | apply Kd.R_alloc | apply Kd.R_drewN | apply Kd.R_drew)); exact Kd.R_mono HO_238001.out (fun _ hk => ⟨hk.1, hk.2.1⟩)⟩, ⟨by (with_reducible repeat (first | refine blk_drewN ?_ _ | refine blk_drew ?_ | refine blk_alloc ?_ _)); exact BK215.out⟩, ⟨by (with_reducible repeat (first | refine blk_drewN ?_ _ | refine blk_drew ?_ | refine blk_alloc ?_ _)); exact BK226.out⟩, ⟨by (with_reducible repeat (first | refine blk_drewN ?_ _ | refine blk_drew ?_ | refine blk_alloc ?_ _)); exact BK231.out⟩, ⟨by (with_reducible repeat (first | refine blk_drewN ?_ _ | refine blk_drew ?_ | refine blk_alloc ?_ _)); exact BK237.out⟩, ⟨by repeat (first | (with_reducible first | exact HB.out | apply below_alloc | apply pw_below_drewN | apply below_drew1 | refine below_set ?_ GE215.out | refine below_set ?_ GE226.out | refine below_set ?_ GE231.out | refine below_set ?_ GE237.out) | exact HB.out)⟩⟩
       ·rw [if_neg c72] at H
        have c72b0 : decide (t244 < 0) = false := decide_eq_false c72
        clear c72
        (first | rw [c72b0] | (simp only [i64_w, i32_w]; rw [c72b0]) | skip)
        replace H := Option.bind_eq_some_iff.mp H
        obtain ⟨t246, A730, H⟩ := H
        replace H : (if t246 = true then (laws_FnExactPlanShift.j1 kj12 a1 a2 t225 (t236 != t225) a0_0 l0_1 t221 t222 t232 t233) else (laws_FnExactPlanShift.j1 kj12 a1 a2 t225 true a0_0 l0_1 t221 t222 t232 t233)) = some r := H
        have A73 := Aside0.mk A730
        clear A730
        by_cases c74 : t246 = true
        ·subst c74
         have H1 : (laws_FnExactPlanShift.j1 kj12 a1 a2 t225 (t236 != t225) a0_0 l0_1 t221 t222 t232 t233) = some r := by rw [if_pos rfl] at H; exact H
         clear H
         have H := H1
         clear H1
         have H' := Aside0.mk H
         clear H
         have hnb75 := NB237_215.out
         have hnc75 := NB215_237.out
         have hnb76 := NB237_226.out
         have hnc76 := NB226_237.out
         have hnb77 := NB237_231.out
         have hnc77 := NB231_237.out
         have hcz78_0 : w71.cell? ⟨gb237, 0, none⟩ = some (.bool t232) := (blk_cell BK237.out 0).trans rfl
         have hcz78_1 : w71.cell? ⟨gb237, 1, none⟩ = some (.slice Ao38 t233.length co38) := (blk_cell BK237.out 1).trans rfl
         have hfz78_0 := blk_frozen BK237.out 0
         have hfz78_1 := blk_frozen BK237.out 1
         have hnb79 := NB226_215.out
         have hnc79 := NB215_226.out
         have hnb80 := NB226_231.out
         have hnc80 := NB231_226.out
         have hcz81_0 : w71.cell? ⟨gb226, 0, none⟩ = some (.bool t221) := (blk_cell BK226.out 0).trans rfl
         have hcz81_1 : w71.cell? ⟨gb226, 1, none⟩ = some (.slice Ao24 t222.length co24) := (blk_cell BK226.out 1).trans rfl
         have hfz81_0 := blk_frozen BK226.out 0
         have hfz81_1 := blk_frozen BK226.out 1
         go_wp2_with (first | (go_at_call 18; (with_reducible refine (laws_eqPlan.calls kj12 t232 _ _ t233 t221 _ _ t222 true _ ?side1 ?side2 ?side3 ?side4 A73.out).mono ?_); (case side1 => repeat (first | exact (Kd.R_reads' HO_238001.out).2.2 | (with_reducible refine Kd.C_alloc ?_ _) | (with_reducible refine Kd.C_drewN ?_ _) | (with_reducible refine Kd.C_drew ?_))); (case side2 => exact (Kd.R_reads' HO_238001.out).2.1); (case side3 => repeat (first | exact (Kd.R_reads' HO_227001.out).2.2 | (with_reducible refine Kd.C_alloc ?_ _) | (with_reducible refine Kd.C_drewN ?_ _) | (with_reducible refine Kd.C_drew ?_))); (case side4 => exact (Kd.R_reads' HO_227001.out).2.1); rintro e w82 ⟨rfl, hb⟩; have n0_ := Aside0.mk (Kd.R_below (by (with_reducible repeat (first | apply Kd.R_alloc | apply Kd.R_drewN | apply Kd.R_drew)); exact HO_227001.out) hb); have n1_ := Aside0.mk (Kd.R_below (by (with_reducible repeat (first | apply Kd.R_alloc | apply Kd.R_drewN | apply Kd.R_drew)); exact HO_232001.out) hb); have n2_ := Aside0.mk (Kd.R_below (by (with_reducible repeat (first | apply Kd.R_alloc | apply Kd.R_drewN | apply Kd.R_drew)); exact HO_238001.out) hb); have n3_ := Aside0.mk (Kd.R_below (by (with_reducible repeat (first | apply Kd.R_alloc | apply Kd.R_drewN | apply Kd.R_drew)); exact HO242.out) hb); have n4_ := Aside0.mk (blk_below (g := gb215) (o := .cells #[.bool a0_0, .slice A0_1 l0_1.length c0_1] 38 (0, 0)) (by (with_reducible repeat (first | refine blk_drewN ?_ _ | refine blk_drew ?_ | refine blk_alloc ?_ _)); exact BK215.out) hb); have n5_ := Aside0.mk (blk_below (g := gb226) (o := .cells #[.bool t221, .slice Ao24 t222.length co24] 25 (0, 0)) (by (with_reducible repeat (first | refine blk_drewN ?_ _ | refine blk_drew ?_ | refine blk_alloc ?_ _)); exact BK226.out) hb); have n6_ := Aside0.mk (blk_below (g := gb231) (o := .cells #[.bool t227, .slice Ao31 t228.length co31] 25 (0, 0)) (by (with_reducible repeat (first | refine blk_drewN ?_ _ | refine blk_drew ?_ | refine blk_alloc ?_ _)); exact BK231.out) hb); have n7_ := Aside0.mk (blk_below (g := gb237) (o := .cells #[.bool t232, .slice Ao38 t233.length co38] 25 (0, 0)) (by (with_reducible repeat (first | refine blk_drewN ?_ _ | refine blk_drew ?_ | refine blk_alloc ?_ _)); exact BK237.out) hb); have n8_ := Aside0.mk (below_step (by repeat (first | (with_reducible first | exact HB.out | apply below_alloc | apply pw_below_drewN | apply below_drew1 | refine below_set ?_ GE215.out | refine below_set ?_ GE226.out | refine below_set ?_ GE231.out | refine below_set ?_ GE237.out) | exact HB.out)) hb); clear HO_227001; clear HO_232001; clear HO_238001; clear HO242; clear BK215; clear BK226; clear BK231; clear BK237; clear HB; have HO_227001 := n0_; have HO_232001 := n1_; have HO_238001 := n2_; have HO242 := n3_; have BK215 := n4_; have BK226 := n5_; have BK231 := n6_; have BK237 := n7_; have HB := n8_; clear n0_ n1_ n2_ n3_ n4_ n5_ n6_ n7_ n8_; (try clear hb); (try clear hb2); (try clear hk); (try clear hi)))
         go_meet
         case rel => exact ⟨_, ((t236 != t225)), (by first | rfl | (simp; done) | (simp [*]; done)), H', ⟨by have := HJ12.out; first | omega | exact Nat.le_refl _⟩, ⟨by (with_reducible repeat (first | apply Kd.R_alloc | apply Kd.R_drewN | apply Kd.R_drew)); exact Kd.R_mono HO_227001.out (fun _ hk => ⟨hk.1, hk.2.1⟩)⟩, ⟨by (with_reducible repeat (first | apply Kd.R_alloc | apply Kd.R_drewN | apply Kd.R_drew)); exact Kd.R_mono HO_232001.out (fun _ hk => ⟨hk.1.1, hk.1.2⟩)⟩, ⟨by (with_reducible repeat (first | apply Kd.R_alloc | apply Kd.R_drewN | apply Kd.R_drew)); exact Kd.R_mono HO_238001.out (fun _ hk => ⟨hk.1, hk.2.1⟩)⟩, ⟨by (with_reducible repeat (first | refine blk_drewN ?_ _ | refine blk_drew ?_ | refine blk_alloc ?_ _)); exact BK215.out⟩, ⟨by (with_reducible repeat (first | refine blk_drewN ?_ _ | refine blk_drew ?_ | refine blk_alloc ?_ _)); exact BK226.out⟩, ⟨by (with_reducible repeat (first | refine blk_drewN ?_ _ | refine blk_drew ?_ | refine blk_alloc ?_ _)); exact BK231.out⟩, ⟨by (with_reducible repeat (first | refine blk_drewN ?_ _ | refine blk_drew ?_ | refine blk_alloc ?_ _)); exact BK237.out⟩, ⟨by repeat (first | (with_reducible first | exact HB.out | apply below_alloc | apply pw_below_drewN | apply below_drew1 | refine below_set ?_ GE215.out | refine below_set ?_ GE226.out | refine below_set ?_ GE231.out | refine below_set ?_ GE237.out) | exact HB.out)⟩⟩
        ·replace c74 := Bool.eq_false_iff.mpr c74
         subst c74
         have H1 : (laws_FnExactPlanShift.j1 kj12 a1 a2 t225 true a0_0 l0_1 t221 t222 t232 t233) = some r := by rw [if_neg (show ¬ (false = true) by decide)] at H; exact H
         clear H
         have H := H1
         clear H1
         have H' := Aside0.mk H
         clear H
         have hnb83 := NB237_215.out
         have hnc83 := NB215_237.out
         have hnb84 := NB237_226.out
         have hnc84 := NB226_237.out
         have hnb85 := NB237_231.out
         have hnc85 := NB231_237.out
         have hcz86_0 : w71.cell? ⟨gb237, 0, none⟩ = some (.bool t232) := (blk_cell BK237.out 0).trans rfl
         have hcz86_1 : w71.cell? ⟨gb237, 1, none⟩ = some (.slice Ao38 t233.length co38) := (blk_cell BK237.out 1).trans rfl
         have hfz86_0 := blk_frozen BK237.out 0
         have hfz86_1 := blk_frozen BK237.out 1
         have hnb87 := NB226_215.out
         have hnc87 := NB215_226.out
         have hnb88 := NB226_231.out
         have hnc88 := NB231_226.out
         have hcz89_0 : w71.cell? ⟨gb226, 0, none⟩ = some (.bool t221) := (blk_cell BK226.out 0).trans rfl
         have hcz89_1 : w71.cell? ⟨gb226, 1, none⟩ = some (.slice Ao24 t222.length co24) := (blk_cell BK226.out 1).trans rfl
         have hfz89_0 := blk_frozen BK226.out 0
         have hfz89_1 := blk_frozen BK226.out 1
         go_wp2_with (first | (go_at_call 18; (with_reducible refine (laws_eqPlan.calls kj12 t232 _ _ t233 t221 _ _ t222 false _ ?side1 ?side2 ?side3 ?side4 A73.out).mono ?_); (case side1 => repeat (first | exact (Kd.R_reads' HO_238001.out).2.2 | (with_reducible refine Kd.C_alloc ?_ _) | (with_reducible refine Kd.C_drewN ?_ _) | (with_reducible refine Kd.C_drew ?_))); (case side2 => exact (Kd.R_reads' HO_238001.out).2.1); (case side3 => repeat (first | exact (Kd.R_reads' HO_227001.out).2.2 | (with_reducible refine Kd.C_alloc ?_ _) | (with_reducible refine Kd.C_drewN ?_ _) | (with_reducible refine Kd.C_drew ?_))); (case side4 => exact (Kd.R_reads' HO_227001.out).2.1); rintro e w90 ⟨rfl, hb⟩; have n0_ := Aside0.mk (Kd.R_below (by (with_reducible repeat (first | apply Kd.R_alloc | apply Kd.R_drewN | apply Kd.R_drew)); exact HO_227001.out) hb); have n1_ := Aside0.mk (Kd.R_below (by (with_reducible repeat (first | apply Kd.R_alloc | apply Kd.R_drewN | apply Kd.R_drew)); exact HO_232001.out) hb); have n2_ := Aside0.mk (Kd.R_below (by (with_reducible repeat (first | apply Kd.R_alloc | apply Kd.R_drewN | apply Kd.R_drew)); exact HO_238001.out) hb); have n3_ := Aside0.mk (Kd.R_below (by (with_reducible repeat (first | apply Kd.R_alloc | apply Kd.R_drewN | apply Kd.R_drew)); exact HO242.out) hb); have n4_ := Aside0.mk (blk_below (g := gb215) (o := .cells #[.bool a0_0, .slice A0_1 l0_1.length c0_1] 38 (0, 0)) (by (with_reducible repeat (first | refine blk_drewN ?_ _ | refine blk_drew ?_ | refine blk_alloc ?_ _)); exact BK215.out) hb); have n5_ := Aside0.mk (blk_below (g := gb226) (o := .cells #[.bool t221, .slice Ao24 t222.length co24] 25 (0, 0)) (by (with_reducible repeat (first | refine blk_drewN ?_ _ | refine blk_drew ?_ | refine blk_alloc ?_ _)); exact BK226.out) hb); have n6_ := Aside0.mk (blk_below (g := gb231) (o := .cells #[.bool t227, .slice Ao31 t228.length co31] 25 (0, 0)) (by (with_reducible repeat (first | refine blk_drewN ?_ _ | refine blk_drew ?_ | refine blk_alloc ?_ _)); exact BK231.out) hb); have n7_ := Aside0.mk (blk_below (g := gb237) (o := .cells #[.bool t232, .slice Ao38 t233.length co38] 25 (0, 0)) (by (with_reducible repeat (first | refine blk_drewN ?_ _ | refine blk_drew ?_ | refine blk_alloc ?_ _)); exact BK237.out) hb); have n8_ := Aside0.mk (below_step (by repeat (first | (with_reducible first | exact HB.out | apply below_alloc | apply pw_below_drewN | apply below_drew1 | refine below_set ?_ GE215.out | refine below_set ?_ GE226.out | refine below_set ?_ GE231.out | refine below_set ?_ GE237.out) | exact HB.out)) hb); clear HO_227001; clear HO_232001; clear HO_238001; clear HO242; clear BK215; clear BK226; clear BK231; clear BK237; clear HB; have HO_227001 := n0_; have HO_232001 := n1_; have HO_238001 := n2_; have HO242 := n3_; have BK215 := n4_; have BK226 := n5_; have BK231 := n6_; have BK237 := n7_; have HB := n8_; clear n0_ n1_ n2_ n3_ n4_ n5_ n6_ n7_ n8_; (try clear hb); (try clear hb2); (try clear hk); (try clear hi)))
         go_meet
         case rel => exact ⟨_, (true), (by first | rfl | (simp; done) | (simp [*]; done)), H', ⟨by have := HJ12.out; first | omega | exact Nat.le_refl _⟩, ⟨by (with_reducible repeat (first | apply Kd.R_alloc | apply Kd.R_drewN | apply Kd.R_drew)); exact Kd.R_mono HO_227001.out (fun _ hk => ⟨hk.1, hk.2.1⟩)⟩, ⟨by (with_reducible repeat (first | apply Kd.R_alloc | apply Kd.R_drewN | apply Kd.R_drew)); exact Kd.R_mono HO_232001.out (fun _ hk => ⟨hk.1.1, hk.1.2⟩)⟩, ⟨by (with_reducible repeat (first | apply Kd.R_alloc | apply Kd.R_drewN | apply Kd.R_drew)); exact Kd.R_mono HO_238001.out (fun _ hk => ⟨hk.1, hk.2.1⟩)⟩, ⟨by (with_reducible repeat (first | refine blk_drewN ?_ _ | refine blk_drew ?_ | refine blk_alloc ?_ _)); exact BK215.out⟩, ⟨by (with_reducible repeat (first | refine blk_drewN ?_ _ | refine blk_drew ?_ | refine blk_alloc ?_ _)); exact BK226.out⟩, ⟨by (with_reducible repeat (first | refine blk_drewN ?_ _ | refine blk_drew ?_ | refine blk_alloc ?_ _)); exact BK231.out⟩, ⟨by (with_reducible repeat (first | refine blk_drewN ?_ _ | refine blk_drew ?_ | refine blk_alloc ?_ _)); exact BK237.out⟩, ⟨by repeat (first | (with_reducible first | exact HB.out | apply below_alloc | apply pw_below_drewN | apply below_drew1 | refine below_set ?_ GE215.out | refine below_set ?_ GE226.out | refine below_set ?_ GE231.out | refine below_set ?_ GE237.out) | exact HB.out)⟩⟩
      case rest =>
       clear HC62
       try clear c1
       try clear c2
       try clear p2
       try clear c3
       try clear c4
       try clear c5
       try clear c5b0
       try clear c6
       try clear c7
       try clear c8
       try clear c14
       try clear c15
       try clear c16
       try clear c17
       try clear c18
       try clear c19
       try clear c22
       try clear c28
       try clear c29
       try clear c34
       try clear c35
       try clear c36
       try clear c40
       try clear c41
       try clear c42
       try clear c43
       try clear c45
       try clear c46
       try clear c49
       try clear c50
       try clear c51
       try clear c53
       try clear c54
       try clear c57
       try clear c60
       try clear c67
       try clear c68
       try clear c69
       try clear c72
       try clear c72b0
       try clear c74
       try clear c75
       try clear c76
       try clear c77
       try clear c79
       try clear c80
       try clear c83
       try clear c84
       try clear c85
       try clear c87
       try clear c88
       try clear hcz15_0
       try clear hcz15_1
       try clear hcz17_0
       try clear hcz17_1
       try clear hcz23_0
       try clear hcz23_1
       try clear hcz25_0
       try clear hcz25_1
       try clear hcz30_0
       try clear hcz30_1
       try clear hcz37_0
       try clear hcz37_1
       try clear hcz44_0
       try clear hcz44_1
       try clear hcz47_0
       try clear hcz47_1
       try clear hcz52_0
       try clear hcz52_1
       try clear hcz55_0
       try clear hcz55_1
       try clear hcz70_0
       try clear hcz70_1
       try clear hcz78_0
       try clear hcz78_1
       try clear hcz7_0
       try clear hcz7_1
       try clear hcz81_0
       try clear hcz81_1
       try clear hcz86_0
       try clear hcz86_1
       try clear hcz89_0
       try clear hcz89_1
       try clear hfz15_0
       try clear hfz15_1
       try clear hfz17_0
       try clear hfz17_1
       try clear hfz23_0
       try clear hfz23_1
       try clear hfz25_0
       try clear hfz25_1
       try clear hfz30_0
       try clear hfz30_1
       try clear hfz37_0
       try clear hfz37_1
       try clear hfz44_0
       try clear hfz44_1
       try clear hfz47_0
       try clear hfz47_1
       try clear hfz52_0
       try clear hfz52_1
       try clear hfz55_0
       try clear hfz55_1
       try clear hfz70_0
       try clear hfz70_1
       try clear hfz78_0
       try clear hfz78_1
       try clear hfz7_0
       try clear hfz7_1
       try clear hfz81_0
       try clear hfz81_1
       try clear hfz86_0
       try clear hfz86_1
       try clear hfz89_0
       try clear hfz89_1
       try clear p2
       obtain ⟨kq, x69_61, rfl, HA, HJ61, HO_227001, HO_232001, HO_238001, BK215, BK226, BK231, BK237, HB⟩ := hcut
       have hl232001_61 := (Kd.R_reads' HO_232001.out).1
       rw [hl232001_61] at HO_232001
       (try simp only [hl232001_61])
       (try simp only [hl232001_61] at BK215)
       (try simp only [hl232001_61] at BK226)
       (try simp only [hl232001_61] at BK231)
       (try simp only [hl232001_61] at BK237)
       (try simp only [hl232001_61] at HO_227001)
       (try simp only [hl232001_61] at HO_238001)
       cases kq with
       | zero => exact absurd HA.out (by simp [laws_FnExactPlanShift.j1])
       | succ kj61 =>
        have H := HA.out
        clear HA
        simp only [laws_FnExactPlanShift.j1] at H
        by_cases c91 : x69_61 = true
        ·subst c91
         have H1 : (some false) = some r := by rw [if_pos rfl] at H; exact H
         clear H
         have H := H1
         clear H1
         exact absurd ((Option.some.inj H).trans HRT_.out) (by decide)
        ·replace c91 := Bool.eq_false_iff.mpr c91
         subst c91
         have H1 : ((laws_markPlan.f kj61 t232 t233 1).bind fun bt247 => ((laws_heldPlan.f kj61 t232 bt247.2 1).bind fun t249 => (if t249 < 0 then (some false) else (if t249 = bt247.1 then ((laws_toPlan.f kj61 a0_0 l0_1).bind fun bt250 => ((impl_PlanShift.f kj61 bt250.1 bt250.2 a1 a2).bind fun bt254 => ((laws_eqPlan.f kj61 bt254.1 bt254.2.1 t221 t222).bind fun t260 => (if t260 = true then (laws_FnExactPlanShift.j2 kj61 bt247.1 (bt254.2.2 != t225) t232 bt247.2) else (laws_FnExactPlanShift.j2 kj61 bt247.1 true t232 bt247.2))))) else (some false))))) = some r := by rw [if_neg (show ¬ (false = true) by decide)] at H; exact H
         clear H
         have H := H1
         clear H1
         replace H := Option.bind_eq_some_iff.mp H
         obtain ⟨⟨t247, t248⟩, A920, H⟩ := H
         replace H : ((laws_heldPlan.f kj61 t232 t248 1).bind fun t249 => (if t249 < 0 then (some false) else (if t249 = t247 then ((laws_toPlan.f kj61 a0_0 l0_1).bind fun bt250 => ((impl_PlanShift.f kj61 bt250.1 bt250.2 a1 a2).bind fun bt254 => ((laws_eqPlan.f kj61 bt254.1 bt254.2.1 t221 t222).bind fun t260 => (if t260 = true then (laws_FnExactPlanShift.j2 kj61 t247 (bt254.2.2 != t225) t232 t248) else (laws_FnExactPlanShift.j2 kj61 t247 true t232 t248))))) else (some false)))) = some r := H
         have A92 := Aside0.mk A920
         clear A920
         replace H := Option.bind_eq_some_iff.mp H
         obtain ⟨t249, A930, H⟩ := H
         replace H : (if t249 < 0 then (some false) else (if t249 = t247 then ((laws_toPlan.f kj61 a0_0 l0_1).bind fun bt250 => ((impl_PlanShift.f kj61 bt250.1 bt250.2 a1 a2).bind fun bt254 => ((laws_eqPlan.f kj61 bt254.1 bt254.2.1 t221 t222).bind fun t260 => (if t260 = true then (laws_FnExactPlanShift.j2 kj61 t247 (bt254.2.2 != t225) t232 t248) else (laws_FnExactPlanShift.j2 kj61 t247 true t232 t248))))) else (some false))) = some r := H
         have A93 := Aside0.mk A930
         clear A930
         by_cases c94 : t249 < 0
         ·rw [if_pos c94] at H
          have c94b0 : decide (t249 < 0) = true := decide_eq_true c94
          clear c94
          exact absurd ((Option.some.inj H).trans HRT_.out) (by decide)
         ·rw [if_neg c94] at H
          have c94b0 : decide (t249 < 0) = false := decide_eq_false c94
          clear c94
          by_cases c95 : t249 = t247
          ·rw [if_pos c95] at H
           have c95b0 : (t249 == t247) = true := beq_iff_eq.mpr c95
           have c95b1 : (t249 != t247) = false := bne_eq_false_iff_eq.mpr c95
           clear c95
           replace H := Option.bind_eq_some_iff.mp H
           obtain ⟨⟨t250, t251⟩, A960, H⟩ := H
           replace H : ((impl_PlanShift.f kj61 t250 t251 a1 a2).bind fun bt254 => ((laws_eqPlan.f kj61 bt254.1 bt254.2.1 t221 t222).bind fun t260 => (if t260 = true then (laws_FnExactPlanShift.j2 kj61 t247 (bt254.2.2 != t225) t232 t248) else (laws_FnExactPlanShift.j2 kj61 t247 true t232 t248)))) = some r := H
           have A96 := Aside0.mk A960
           clear A960
           replace H := Option.bind_eq_some_iff.mp H
           obtain ⟨⟨t254, t255, t258⟩, A970, H⟩ := H
           replace H : ((laws_eqPlan.f kj61 t254 t255 t221 t222).bind fun t260 => (if t260 = true then (laws_FnExactPlanShift.j2 kj61 t247 (t258 != t225) t232 t248) else (laws_FnExactPlanShift.j2 kj61 t247 true t232 t248))) = some r := H
           have A97 := Aside0.mk A970
           clear A970
           have HC98 := Aside0.mk H
           clear H
           have hnb99 := NB237_215.out
           have hnc99 := NB215_237.out
           have hnb100 := NB237_226.out
           have hnc100 := NB226_237.out
           have hnb101 := NB237_231.out
           have hnc101 := NB231_237.out
           have hcz102_0 : wc.cell? ⟨gb237, 0, none⟩ = some (.bool t232) := (blk_cell BK237.out 0).trans rfl
           have hcz102_1 : wc.cell? ⟨gb237, 1, none⟩ = some (.slice Ao38 t233.length co38) := (blk_cell BK237.out 1).trans rfl
           have hfz102_0 := blk_frozen BK237.out 0
           have hfz102_1 := blk_frozen BK237.out 1
           go_upto_region 25 with (first | ((with_reducible refine gate_callee (f := 19) rfl ?_); refine goesL_ (some 72) rfl rfl Try.func19 (by kernel_rfl) rfl #[.agg #[.bool t232, .slice Ao38 t233.length co38], .int .i64 1] rfl (by (try simp only [List.map_toArray, List.map_cons, List.map_nil]); first | done | rfl | (simp only [List.length_drop, List.length_take]; rfl)) ?_; (with_reducible refine (laws_markPlan.calls kj61 t232 (fun k_ => some k_ = (.slice Ao38 t233.length co38 : Value).ownBlock) (.slice Ao38 t233.length co38) t233 1 t247 t248 w _ ?side1 ?side2 A92.out).mono ?_); (case side1 => repeat (first | (with_reducible first | exact HB.out | apply below_alloc | apply pw_below_drewN | apply below_drew1 | refine below_set ?_ GE215.out | refine below_set ?_ GE226.out | refine below_set ?_ GE231.out | refine below_set ?_ GE237.out) | exact HB.out)); (case side2 => exact Kd.R_tight rfl HO_238001.out); rintro e w103 ⟨rfl, hy0, hb, hkp⟩; refine ⟨_, rfl, ?_⟩; have n0_ := Aside0.mk (Kd.R_mono (ok' := fun k_ => some k_ ≠ (.slice Ao31 t245.length co31 : Value).ownBlock ∧ some k_ ≠ (.slice Ao38 t233.length co38 : Value).ownBlock) (Kd.R_keptB (HO_227001.out) hkp (fun k_ hk_ hs_ => (hk_.2) hs_)) (fun k_ hk_ => ⟨hk_.1.1, hk_.1.2⟩)); have n1_ := Aside0.mk (Kd.R_mono (ok' := fun k_ => some k_ ≠ (.slice Ao24 t222.length co24 : Value).ownBlock ∧ some k_ ≠ (.slice Ao38 t233.length co38 : Value).ownBlock) (Kd.R_keptB (HO_232001.out) hkp (fun k_ hk_ hs_ => (hk_.2) hs_)) (fun k_ hk_ => ⟨hk_.1.1, hk_.1.2⟩)); have n2_ := Aside0.mk (Kd.R_reok rfl hy0 (fun k_ e_ => HO_238001.out.1 k_ e_)); have n3_ := Aside0.mk (blk_kept (by (with_reducible repeat (first | refine blk_drewN ?_ _ | refine blk_drew ?_ | refine blk_alloc ?_ _)); exact BK215.out) hkp (fun hs_ => (fun e_ => (Kd.R_ne HO_238001.out BK215.out (by decide)) e_) hs_)); have n4_ := Aside0.mk (blk_kept (by (with_reducible repeat (first | refine blk_drewN ?_ _ | refine blk_drew ?_ | refine blk_alloc ?_ _)); exact BK226.out) hkp (fun hs_ => (fun e_ => (Kd.R_ne HO_238001.out BK226.out (by decide)) e_) hs_)); have n5_ := Aside0.mk (blk_kept (by (with_reducible repeat (first | refine blk_drewN ?_ _ | refine blk_drew ?_ | refine blk_alloc ?_ _)); exact BK231.out) hkp (fun hs_ => (fun e_ => (Kd.R_ne HO_238001.out BK231.out (by decide)) e_) hs_)); have n6_ := Aside0.mk (blk_kept (by (with_reducible repeat (first | refine blk_drewN ?_ _ | refine blk_drew ?_ | refine blk_alloc ?_ _)); exact BK237.out) hkp (fun hs_ => (fun e_ => (Kd.R_ne HO_238001.out BK237.out (by decide)) e_) hs_)); have n7_ := Aside0.mk (hb); clear HO_227001; clear HO_232001; clear HO_238001; clear BK215; clear BK226; clear BK231; clear BK237; clear HB; have HO_227001 := n0_; have HO_232001 := n1_; have HO_238001 := n2_; have BK215 := n3_; have BK226 := n4_; have BK231 := n5_; have BK237 := n6_; have HB := n7_; clear n0_ n1_ n2_ n3_ n4_ n5_ n6_ n7_; (try clear hb); (try clear hkp); (try clear hy0); have hcz104_0 : w103.cell? ⟨gb237, 0, none⟩ = some (.bool t232) := (blk_cell BK237.out 0).trans rfl; have hcz104_1 : w103.cell? ⟨gb237, 1, none⟩ = some (.slice Ao38 t233.length co38) := (blk_cell BK237.out 1).trans rfl; have hfz104_0 := blk_frozen BK237.out 0; have hfz104_1 := blk_frozen BK237.out 1) | ((with_reducible refine gate_callee (f := 20) rfl ?_); refine goesL_ (some 75) rfl rfl Try.func20 (by kernel_rfl) rfl #[.agg #[.bool t232, .slice Ao38 t248.length co38], .int .i64 1] rfl (by (try simp only [List.map_toArray, List.map_cons, List.map_nil]); first | done | (rw [show t248.length = t233.length from (Kd.R_reads' HO_238001.out).1.symm] <;> rfl) | rfl | (simp only [List.length_drop, List.length_take]; rfl)) ?_; (with_reducible refine (laws_heldPlan.calls kj61 t232 _ _ t248 1 t249 _ ?side1 ?side2 A93.out).mono ?_); (case side1 => repeat (first | exact (Kd.R_reads' HO_238001.out).2.2 | (with_reducible refine Kd.C_alloc ?_ _) | (with_reducible refine Kd.C_drewN ?_ _) | (with_reducible refine Kd.C_drew ?_))); (case side2 => rw [show t248.length = t233.length from (Kd.R_reads' HO_238001.out).1.symm]; exact (Kd.R_reads' HO_238001.out).2.1); rintro e w105 ⟨rfl, hb⟩; refine ⟨_, rfl, ?_⟩; have n0_ := Aside0.mk (Kd.R_below (by (with_reducible repeat (first | apply Kd.R_alloc | apply Kd.R_drewN | apply Kd.R_drew)); exact HO_227001.out) hb); have n1_ := Aside0.mk (Kd.R_below (by (with_reducible repeat (first | apply Kd.R_alloc | apply Kd.R_drewN | apply Kd.R_drew)); exact HO_232001.out) hb); have n2_ := Aside0.mk (Kd.R_below (by (with_reducible repeat (first | apply Kd.R_alloc | apply Kd.R_drewN | apply Kd.R_drew)); exact HO_238001.out) hb); have n3_ := Aside0.mk (blk_below (g := gb215) (o := .cells #[.bool a0_0, .slice A0_1 l0_1.length c0_1] 38 (0, 0)) (by (with_reducible repeat (first | refine blk_drewN ?_ _ | refine blk_drew ?_ | refine blk_alloc ?_ _)); exact BK215.out) hb); have n4_ := Aside0.mk (blk_below (g := gb226) (o := .cells #[.bool t221, .slice Ao24 t222.length co24] 25 (0, 0)) (by (with_reducible repeat (first | refine blk_drewN ?_ _ | refine blk_drew ?_ | refine blk_alloc ?_ _)); exact BK226.out) hb); have n5_ := Aside0.mk (blk_below (g := gb231) (o := .cells #[.bool t227, .slice Ao31 t245.length co31] 25 (0, 0)) (by (with_reducible repeat (first | refine blk_drewN ?_ _ | refine blk_drew ?_ | refine blk_alloc ?_ _)); exact BK231.out) hb); have n6_ := Aside0.mk (blk_below (g := gb237) (o := .cells #[.bool t232, .slice Ao38 t233.length co38] 25 (0, 0)) (by (with_reducible repeat (first | refine blk_drewN ?_ _ | refine blk_drew ?_ | refine blk_alloc ?_ _)); exact BK237.out) hb); have n7_ := Aside0.mk (below_step (by repeat (first | (with_reducible first | exact HB.out | apply below_alloc | apply pw_below_drewN | apply below_drew1 | refine below_set ?_ GE215.out | refine below_set ?_ GE226.out | refine below_set ?_ GE231.out | refine below_set ?_ GE237.out) | exact HB.out)) hb); clear HO_227001; clear HO_232001; clear HO_238001; clear BK215; clear BK226; clear BK231; clear BK237; clear HB; have HO_227001 := n0_; have HO_232001 := n1_; have HO_238001 := n2_; have BK215 := n3_; have BK226 := n4_; have BK231 := n5_; have BK237 := n6_; have HB := n7_; clear n0_ n1_ n2_ n3_ n4_ n5_ n6_ n7_; (try clear hb); (try clear hb2); (try clear hk); (try clear hi); have hnb106 := NB215_226.out; have hnc106 := NB226_215.out; have hnb107 := NB215_231.out; have hnc107 := NB231_215.out; have hcz108_0 : w105.cell? ⟨gb215, 0, none⟩ = some (.bool a0_0) := (blk_cell BK215.out 0).trans rfl; have hcz108_1 : w105.cell? ⟨gb215, 1, none⟩ = some (.slice A0_1 l0_1.length c0_1) := (blk_cell BK215.out 1).trans rfl; have hfz108_0 := blk_frozen BK215.out 0; have hfz108_1 := blk_frozen BK215.out 1) | ((with_reducible refine gate_callee (f := 17) rfl ?_); refine goesL_ (some 83) rfl rfl Try.func17 (by kernel_rfl) rfl #[.agg #[.bool a0_0, .slice A0_1 l0_1.length c0_1]] rfl (by (try simp only [List.map_toArray, List.map_cons, List.map_nil]); first | done | rfl | (simp only [List.length_drop, List.length_take]; rfl)) ?_; (with_reducible refine (laws_toPlan.calls kj61 a0_0 _ _ l0_1 t250 t251 _ ?side1 ?side2 A96.out).mono ?_); (case side1 => repeat (first | exact (Kd.C_below HR0_1.out HB.out) | (with_reducible refine Kd.C_alloc ?_ _) | (with_reducible refine Kd.C_drewN ?_ _) | (with_reducible refine Kd.C_drew ?_))); (case side2 => exact HC0_1.out); rintro e w109 ⟨v252, rfl, ho0, hb⟩; refine ⟨_, rfl, ?_⟩; have n0_ := Aside0.mk (Kd.R_elder' (by (with_reducible repeat (first | apply Kd.R_alloc | apply Kd.R_drewN | apply Kd.R_drew)); exact HO_227001.out) (Kd.R_base ho0) hb); have n1_ := Aside0.mk (Kd.R_elder' (by (with_reducible repeat (first | apply Kd.R_alloc | apply Kd.R_drewN | apply Kd.R_drew)); exact HO_232001.out) (Kd.R_base ho0) hb); have n2_ := Aside0.mk (Kd.R_elder' (by (with_reducible repeat (first | apply Kd.R_alloc | apply Kd.R_drewN | apply Kd.R_drew)); exact HO_238001.out) (Kd.R_base ho0) hb); have n3_ := Aside0.mk (Kd.R_lower (Kd.R_new' (Kd.R_new' (Kd.R_new' ho0 (Kd.R_lt (by (with_reducible repeat (first | apply Kd.R_alloc | apply Kd.R_drewN | apply Kd.R_drew)); exact HO_227001.out))) (Kd.R_lt (by (with_reducible repeat (first | apply Kd.R_alloc | apply Kd.R_drewN | apply Kd.R_drew)); exact HO_232001.out))) (Kd.R_lt (by (with_reducible repeat (first | apply Kd.R_alloc | apply Kd.R_drewN | apply Kd.R_drew)); exact HO_238001.out))) (below_size (by repeat (first | (with_reducible first | exact HB.out | apply below_alloc | apply pw_below_drewN | apply below_drew1 | refine below_set ?_ GE215.out | refine below_set ?_ GE226.out | refine below_set ?_ GE231.out | refine below_set ?_ GE237.out) | exact HB.out)))); have n4_ := Aside0.mk (blk_below (g := gb215) (o := .cells #[.bool a0_0, .slice A0_1 l0_1.length c0_1] 38 (0, 0)) (by (with_reducible repeat (first | refine blk_drewN ?_ _ | refine blk_drew ?_ | refine blk_alloc ?_ _)); exact BK215.out) hb); have n5_ := Aside0.mk (blk_below (g := gb226) (o := .cells #[.bool t221, .slice Ao24 t222.length co24] 25 (0, 0)) (by (with_reducible repeat (first | refine blk_drewN ?_ _ | refine blk_drew ?_ | refine blk_alloc ?_ _)); exact BK226.out) hb); have n6_ := Aside0.mk (blk_below (g := gb231) (o := .cells #[.bool t227, .slice Ao31 t245.length co31] 25 (0, 0)) (by (with_reducible repeat (first | refine blk_drewN ?_ _ | refine blk_drew ?_ | refine blk_alloc ?_ _)); exact BK231.out) hb); have n7_ := Aside0.mk (blk_below (g := gb237) (o := .cells #[.bool t232, .slice Ao38 t233.length co38] 25 (0, 0)) (by (with_reducible repeat (first | refine blk_drewN ?_ _ | refine blk_drew ?_ | refine blk_alloc ?_ _)); exact BK237.out) hb); have n8_ := Aside0.mk (below_step (by repeat (first | (with_reducible first | exact HB.out | apply below_alloc | apply pw_below_drewN | apply below_drew1 | refine below_set ?_ GE215.out | refine below_set ?_ GE226.out | refine below_set ?_ GE231.out | refine below_set ?_ GE237.out) | exact HB.out)) hb); clear HO_227001; clear HO_232001; clear HO_238001; clear BK215; clear BK226; clear BK231; clear BK237; clear HB; have HO_227001 := n0_; have HO_232001 := n1_; have HO_238001 := n2_; have HO253 := n3_; have BK215 := n4_; have BK226 := n5_; have BK231 := n6_; have BK237 := n7_; have HB := n8_; clear n0_ n1_ n2_ n3_ n4_ n5_ n6_ n7_ n8_; (try clear hb); (try clear hb2); (try clear hk); (try clear hi); (try clear ho0); obtain ⟨Ao110, co110, eo110⟩ := Kd.R_slice HO253.out; subst eo110) | ((with_reducible refine gate_callee (f := 14) rfl ?_); refine goesL_ (some 86) rfl rfl Try.func14 (by kernel_rfl) rfl #[.agg #[.bool t250, .slice Ao110 t251.length co110], .int .i64 a1, .int .i64 a2] rfl (by (try simp only [List.map_toArray, List.map_cons, List.map_nil]); first | done | rfl | (simp only [List.length_drop, List.length_take]; rfl)) ?_; (with_reducible refine (impl_PlanShift.calls kj61 t250 _ _ t251 a1 a2 t254 t255 t258 _ ?side1 ?side2 A97.out).mono ?_); (case side1 => repeat (first | exact (Kd.R_reads' HO253.out).2.2 | (with_reducible refine Kd.C_alloc ?_ _) | (with_reducible refine Kd.C_drewN ?_ _) | (with_reducible refine Kd.C_drew ?_))); (case side2 => exact (Kd.R_reads' HO253.out).2.1); rintro e w111 ⟨v256, rfl, ho0, hb⟩; refine ⟨_, rfl, ?_⟩; have n0_ := Aside0.mk (Kd.R_elder' (by (with_reducible repeat (first | apply Kd.R_alloc | apply Kd.R_drewN | apply Kd.R_drew)); exact HO_227001.out) (Kd.R_base ho0) hb); have n1_ := Aside0.mk (Kd.R_elder' (by (with_reducible repeat (first | apply Kd.R_alloc | apply Kd.R_drewN | apply Kd.R_drew)); exact HO_232001.out) (Kd.R_base ho0) hb); have n2_ := Aside0.mk (Kd.R_elder' (by (with_reducible repeat (first | apply Kd.R_alloc | apply Kd.R_drewN | apply Kd.R_drew)); exact HO_238001.out) (Kd.R_base ho0) hb); have n3_ := Aside0.mk (Kd.R_elder' (by (with_reducible repeat (first | apply Kd.R_alloc | apply Kd.R_drewN | apply Kd.R_drew)); exact HO253.out) (Kd.R_base ho0) hb); have n4_ := Aside0.mk (Kd.R_lower (Kd.R_new' (Kd.R_new' (Kd.R_new' (Kd.R_new' ho0 (Kd.R_lt (by (with_reducible repeat (first | apply Kd.R_alloc | apply Kd.R_drewN | apply Kd.R_drew)); exact HO_227001.out))) (Kd.R_lt (by (with_reducible repeat (first | apply Kd.R_alloc | apply Kd.R_drewN | apply Kd.R_drew)); exact HO_232001.out))) (Kd.R_lt (by (with_reducible repeat (first | apply Kd.R_alloc | apply Kd.R_drewN | apply Kd.R_drew)); exact HO_238001.out))) (Kd.R_lt (by (with_reducible repeat (first | apply Kd.R_alloc | apply Kd.R_drewN | apply Kd.R_drew)); exact HO253.out))) (below_size (by repeat (first | (with_reducible first | exact HB.out | apply below_alloc | apply pw_below_drewN | apply below_drew1 | refine below_set ?_ GE215.out | refine below_set ?_ GE226.out | refine below_set ?_ GE231.out | refine below_set ?_ GE237.out) | exact HB.out)))); have n5_ := Aside0.mk (blk_below (g := gb215) (o := .cells #[.bool a0_0, .slice A0_1 l0_1.length c0_1] 38 (0, 0)) (by (with_reducible repeat (first | refine blk_drewN ?_ _ | refine blk_drew ?_ | refine blk_alloc ?_ _)); exact BK215.out) hb); have n6_ := Aside0.mk (blk_below (g := gb226) (o := .cells #[.bool t221, .slice Ao24 t222.length co24] 25 (0, 0)) (by (with_reducible repeat (first | refine blk_drewN ?_ _ | refine blk_drew ?_ | refine blk_alloc ?_ _)); exact BK226.out) hb); have n7_ := Aside0.mk (blk_below (g := gb231) (o := .cells #[.bool t227, .slice Ao31 t245.length co31] 25 (0, 0)) (by (with_reducible repeat (first | refine blk_drewN ?_ _ | refine blk_drew ?_ | refine blk_alloc ?_ _)); exact BK231.out) hb); have n8_ := Aside0.mk (blk_below (g := gb237) (o := .cells #[.bool t232, .slice Ao38 t233.length co38] 25 (0, 0)) (by (with_reducible repeat (first | refine blk_drewN ?_ _ | refine blk_drew ?_ | refine blk_alloc ?_ _)); exact BK237.out) hb); have n9_ := Aside0.mk (below_step (by repeat (first | (with_reducible first | exact HB.out | apply below_alloc | apply pw_below_drewN | apply below_drew1 | refine below_set ?_ GE215.out | refine below_set ?_ GE226.out | refine below_set ?_ GE231.out | refine below_set ?_ GE237.out) | exact HB.out)) hb); clear HO_227001; clear HO_232001; clear HO_238001; clear HO253; clear BK215; clear BK226; clear BK231; clear BK237; clear HB; have HO_227001 := n0_; have HO_232001 := n1_; have HO_238001 := n2_; have HO253 := n3_; have HO257 := n4_; have BK215 := n5_; have BK226 := n6_; have BK231 := n7_; have BK237 := n8_; have HB := n9_; clear n0_ n1_ n2_ n3_ n4_ n5_ n6_ n7_ n8_ n9_; (try clear hb); (try clear hb2); (try clear hk); (try clear hi); (try clear ho0)) | ((with_reducible refine gate_dst (N := 16) rfl ?_); refine box_event ?hg (N := 16) ?hd (cs := #[.bool false, .slice none 0 0]) (t := 25) ?hr ?_; (case hd => rfl); (case hg => rfl); (case hr => first | (go_simp; done) | (go_simp; rfl)); intro gb259 hg w112 hbox hb; have n0_ := Aside0.mk (Kd.R_below (by (with_reducible repeat (first | apply Kd.R_alloc | apply Kd.R_drewN | apply Kd.R_drew)); exact HO_227001.out) hb); have n1_ := Aside0.mk (Kd.R_below (by (with_reducible repeat (first | apply Kd.R_alloc | apply Kd.R_drewN | apply Kd.R_drew)); exact HO_232001.out) hb); have n2_ := Aside0.mk (Kd.R_below (by (with_reducible repeat (first | apply Kd.R_alloc | apply Kd.R_drewN | apply Kd.R_drew)); exact HO_238001.out) hb); have n3_ := Aside0.mk (Kd.R_below (by (with_reducible repeat (first | apply Kd.R_alloc | apply Kd.R_drewN | apply Kd.R_drew)); exact HO253.out) hb); have n4_ := Aside0.mk (Kd.R_below (by (with_reducible repeat (first | apply Kd.R_alloc | apply Kd.R_drewN | apply Kd.R_drew)); exact HO257.out) hb); have n5_ := Aside0.mk (blk_below (g := gb215) (o := .cells #[.bool a0_0, .slice A0_1 l0_1.length c0_1] 38 (0, 0)) (by (with_reducible repeat (first | refine blk_drewN ?_ _ | refine blk_drew ?_ | refine blk_alloc ?_ _)); exact BK215.out) hb); have n6_ := Aside0.mk (blk_below (g := gb226) (o := .cells #[.bool t221, .slice Ao24 t222.length co24] 25 (0, 0)) (by (with_reducible repeat (first | refine blk_drewN ?_ _ | refine blk_drew ?_ | refine blk_alloc ?_ _)); exact BK226.out) hb); have n7_ := Aside0.mk (blk_below (g := gb231) (o := .cells #[.bool t227, .slice Ao31 t245.length co31] 25 (0, 0)) (by (with_reducible repeat (first | refine blk_drewN ?_ _ | refine blk_drew ?_ | refine blk_alloc ?_ _)); exact BK231.out) hb); have n8_ := Aside0.mk (blk_below (g := gb237) (o := .cells #[.bool t232, .slice Ao38 t233.length co38] 25 (0, 0)) (by (with_reducible repeat (first | refine blk_drewN ?_ _ | refine blk_drew ?_ | refine blk_alloc ?_ _)); exact BK237.out) hb); have n9_ := Aside0.mk (below_step (by repeat (first | (with_reducible first | exact HB.out | apply below_alloc | apply pw_below_drewN | apply below_drew1 | refine below_set ?_ GE215.out | refine below_set ?_ GE226.out | refine below_set ?_ GE231.out | refine below_set ?_ GE237.out) | exact HB.out)) hb); have n10_ := Aside0.mk (hbox); have n11_ := Aside0.mk ((by rw [hg]; exact (below_size (by repeat (first | (with_reducible first | exact HB.out | apply below_alloc | apply pw_below_drewN | apply below_drew1 | refine below_set ?_ GE215.out | refine below_set ?_ GE226.out | refine below_set ?_ GE231.out | refine below_set ?_ GE237.out) | exact HB.out))) : w.heap.size ≤ gb259)); have n12_ := Aside0.mk ((by rw [hg]; exact (below_size (by repeat (first | (with_reducible first | exact HB.out | apply below_alloc | apply pw_below_drewN | apply below_drew1 | refine below_set ?_ GE215.out | refine below_set ?_ GE226.out | refine below_set ?_ GE231.out | refine below_set ?_ GE237.out) | exact HB.out))) : w.heap.size ≤ gb259)); have n13_ := Aside0.mk ((by rw [hg]; exact Nat.ne_of_lt (blk_lt (g := gb215) (o := .cells #[.bool a0_0, .slice A0_1 l0_1.length c0_1] 38 (0, 0)) (by (with_reducible repeat (first | refine blk_drewN ?_ _ | refine blk_drew ?_ | refine blk_alloc ?_ _)); exact BK215.out)) : gb215 ≠ gb259)); have n14_ := Aside0.mk ((by rw [hg]; exact Nat.ne_of_gt (blk_lt (g := gb215) (o := .cells #[.bool a0_0, .slice A0_1 l0_1.length c0_1] 38 (0, 0)) (by (with_reducible repeat (first | refine blk_drewN ?_ _ | refine blk_drew ?_ | refine blk_alloc ?_ _)); exact BK215.out)) : gb259 ≠ gb215)); have n15_ := Aside0.mk ((by rw [hg]; exact Nat.ne_of_lt (blk_lt (g := gb226) (o := .cells #[.bool t221, .slice Ao24 t222.length co24] 25 (0, 0)) (by (with_reducible repeat (first | refine blk_drewN ?_ _ | refine blk_drew ?_ | refine blk_alloc ?_ _)); exact BK226.out)) : gb226 ≠ gb259)); have n16_ := Aside0.mk ((by rw [hg]; exact Nat.ne_of_gt (blk_lt (g := gb226) (o := .cells #[.bool t221, .slice Ao24 t222.length co24] 25 (0, 0)) (by (with_reducible repeat (first | refine blk_drewN ?_ _ | refine blk_drew ?_ | refine blk_alloc ?_ _)); exact BK226.out)) : gb259 ≠ gb226)); have n17_ := Aside0.mk ((by rw [hg]; exact Nat.ne_of_lt (blk_lt (g := gb231) (o := .cells #[.bool t227, .slice Ao31 t245.length co31] 25 (0, 0)) (by (with_reducible repeat (first | refine blk_drewN ?_ _ | refine blk_drew ?_ | refine blk_alloc ?_ _)); exact BK231.out)) : gb231 ≠ gb259)); have n18_ := Aside0.mk ((by rw [hg]; exact Nat.ne_of_gt (blk_lt (g := gb231) (o := .cells #[.bool t227, .slice Ao31 t245.length co31] 25 (0, 0)) (by (with_reducible repeat (first | refine blk_drewN ?_ _ | refine blk_drew ?_ | refine blk_alloc ?_ _)); exact BK231.out)) : gb259 ≠ gb231)); have n19_ := Aside0.mk ((by rw [hg]; exact Nat.ne_of_lt (blk_lt (g := gb237) (o := .cells #[.bool t232, .slice Ao38 t233.length co38] 25 (0, 0)) (by (with_reducible repeat (first | refine blk_drewN ?_ _ | refine blk_drew ?_ | refine blk_alloc ?_ _)); exact BK237.out)) : gb237 ≠ gb259)); have n20_ := Aside0.mk ((by rw [hg]; exact Nat.ne_of_gt (blk_lt (g := gb237) (o := .cells #[.bool t232, .slice Ao38 t233.length co38] 25 (0, 0)) (by (with_reducible repeat (first | refine blk_drewN ?_ _ | refine blk_drew ?_ | refine blk_alloc ?_ _)); exact BK237.out)) : gb259 ≠ gb237)); clear HO_227001; clear HO_232001; clear HO_238001; clear HO253; clear HO257; clear BK215; clear BK226; clear BK231; clear BK237; clear HB; have HO_227001 := n0_; have HO_232001 := n1_; have HO_238001 := n2_; have HO253 := n3_; have HO257 := n4_; have BK215 := n5_; have BK226 := n6_; have BK231 := n7_; have BK237 := n8_; have HB := n9_; have BK259 := n10_; have GW259 := n11_; have GE259 := n12_; have NB215_259 := n13_; have NB259_215 := n14_; have NB226_259 := n15_; have NB259_226 := n16_; have NB231_259 := n17_; have NB259_231 := n18_; have NB237_259 := n19_; have NB259_237 := n20_; clear n0_ n1_ n2_ n3_ n4_ n5_ n6_ n7_ n8_ n9_ n10_ n11_ n12_ n13_ n14_ n15_ n16_ n17_ n18_ n19_ n20_; clear hb hbox hg; have hnb113 := NB259_215.out; have hnc113 := NB215_259.out; have hnb114 := NB259_226.out; have hnc114 := NB226_259.out; have hnb115 := NB259_231.out; have hnc115 := NB231_259.out; have hnb116 := NB259_237.out; have hnc116 := NB237_259.out; have hcz117_0 : w112.cell? ⟨gb259, 0, none⟩ = some (.bool false) := (blk_cell BK259.out 0).trans rfl; have hcz117_1 : w112.cell? ⟨gb259, 1, none⟩ = some (.slice none 0 0) := (blk_cell BK259.out 1).trans rfl; have hfz117_0 := blk_frozen BK259.out 0; have hfz117_1 := blk_frozen BK259.out 1; obtain ⟨Ao118, co118, eo118⟩ := Kd.R_slice HO257.out; subst eo118))
           (try simp only [Act.put, List.setIfInBounds_toArray, List.set_cons_zero, List.set_cons_succ])
           go_cut [97] (fun v97 wc => ∃ (kq : Nat) (x97_97 : Bool), v97 = .bool x97_97 ∧ Aside0 (laws_FnExactPlanShift.j2 kq t247 x97_97 t232 t248 = some r) ∧ Aside0 (kq ≤ kj61) ∧ Aside0 (Kd.R k32 32 wc w.heap.size (fun k_ => some k_ ≠ ((.slice Ao31 t245.length co31) : Value).ownBlock ∧ some k_ ≠ ((.slice Ao38 t233.length co38) : Value).ownBlock ∧ some k_ ≠ ((.slice Ao118 t255.length co118) : Value).ownBlock) (.slice Ao24 t222.length co24) t222) ∧ Aside0 (Kd.R k32 32 wc w.heap.size (fun k_ => some k_ ≠ ((.slice Ao24 t222.length co24) : Value).ownBlock ∧ some k_ ≠ ((.slice Ao38 t233.length co38) : Value).ownBlock ∧ some k_ ≠ ((.slice Ao118 t255.length co118) : Value).ownBlock) (.slice Ao31 t245.length co31) t245) ∧ Aside0 (Kd.R k32 32 wc w.heap.size (fun k_ => some k_ ≠ ((.slice Ao24 t222.length co24) : Value).ownBlock ∧ some k_ ≠ ((.slice Ao31 t245.length co31) : Value).ownBlock ∧ some k_ ≠ ((.slice Ao118 t255.length co118) : Value).ownBlock) (.slice Ao38 t233.length co38) t248) ∧ Aside0 (Kd.R k32 32 wc w.heap.size (fun k_ => some k_ ≠ ((.slice Ao24 t222.length co24) : Value).ownBlock ∧ some k_ ≠ ((.slice Ao31 t245.length co31) : Value).ownBlock ∧ some k_ ≠ ((.slice Ao38 t233.length co38) : Value).ownBlock) (.slice Ao118 t255.length co118) t255) ∧ Aside0 (wc.heap[gb215]? = some (.cells #[.bool a0_0, (.slice A0_1 l0_1.length c0_1)] 38 (0, 0))) ∧ Aside0 (wc.heap[gb226]? = some (.cells #[.bool t221, (.slice Ao24 t222.length co24)] 25 (0, 0))) ∧ Aside0 (wc.heap[gb231]? = some (.cells #[.bool t227, (.slice Ao31 t245.length co31)] 25 (0, 0))) ∧ Aside0 (wc.heap[gb237]? = some (.cells #[.bool t232, (.slice Ao38 t233.length co38)] 25 (0, 0))) ∧ Aside0 (wc.heap[gb259]? = some (.cells #[.bool t254, (.slice Ao118 t255.length co118)] 25 (0, 0))) ∧ Aside0 (Below w.heap.size w wc))
           case first =>
            have H := HC98.out
            clear HC98
            replace H := Option.bind_eq_some_iff.mp H
            obtain ⟨t260, A1190, H⟩ := H
            replace H : (if t260 = true then (laws_FnExactPlanShift.j2 kj61 t247 (t258 != t225) t232 t248) else (laws_FnExactPlanShift.j2 kj61 t247 true t232 t248)) = some r := H
            have A119 := Aside0.mk A1190
            clear A1190
            by_cases c120 : t260 = true
            ·subst c120
             have H1 : (laws_FnExactPlanShift.j2 kj61 t247 (t258 != t225) t232 t248) = some r := by rw [if_pos rfl] at H; exact H
             clear H
             have H := H1
             clear H1
             have H' := Aside0.mk H
             clear H
             have hnb121 := NB259_215.out
             have hnc121 := NB215_259.out
             have hnb122 := NB259_226.out
             have hnc122 := NB226_259.out
             have hnb123 := NB259_231.out
             have hnc123 := NB231_259.out
             have hnb124 := NB259_237.out
             have hnc124 := NB237_259.out
             have hcz125_0 : w112.cell? ⟨gb259, 0, none⟩ = some (.bool false) := (blk_cell BK259.out 0).trans rfl
             have hcz125_1 : w112.cell? ⟨gb259, 1, none⟩ = some (.slice none 0 0) := (blk_cell BK259.out 1).trans rfl
             have hfz125_0 := blk_frozen BK259.out 0
             have hfz125_1 := blk_frozen BK259.out 1
             have hnb126 := NB226_215.out
             have hnc126 := NB215_226.out
             have hnb127 := NB226_231.out
             have hnc127 := NB231_226.out
             have hnb128 := NB226_237.out
             have hnc128 := NB237_226.out
             have hcz129_0 : w112.cell? ⟨gb226, 0, none⟩ = some (.bool t221) := (blk_cell BK226.out 0).trans rfl
             have hcz129_1 : w112.cell? ⟨gb226, 1, none⟩ = some (.slice Ao24 t222.length co24) := (blk_cell BK226.out 1).trans rfl
             have hfz129_0 := blk_frozen BK226.out 0
             have hfz129_1 := blk_frozen BK226.out 1
             go_wp2_with (first | ((with_reducible refine gate_callee (f := 18) rfl ?_); refine goesL_ (some 91) rfl rfl Try.func18 (by kernel_rfl) rfl #[.agg #[.bool t254, .slice Ao118 t255.length co118], .agg #[.bool t221, .slice Ao24 t222.length co24]] rfl (by (try simp only [List.map_toArray, List.map_cons, List.map_nil]); first | done | rfl | (simp only [List.length_drop, List.length_take]; rfl)) ?_; (with_reducible refine (laws_eqPlan.calls kj61 t254 _ _ t255 t221 _ _ t222 true _ ?side1 ?side2 ?side3 ?side4 A119.out).mono ?_); (case side1 => refine (Kd.R_reads' (e := 32) (base := w.heap.size) (ok := fun k_ => ((((True ∧ some k_ ≠ (.slice Ao24 t222.length co24 : Value).ownBlock) ∧ some k_ ≠ (.slice Ao31 t245.length co31 : Value).ownBlock) ∧ some k_ ≠ (.slice Ao38 t233.length co38 : Value).ownBlock) ∧ some k_ ≠ (.slice Ao110 t251.length co110 : Value).ownBlock)) (n := t255.length) (c := co118) ?_).2.2; exact (by (with_reducible repeat (first | apply Kd.R_alloc | apply Kd.R_drewN | apply Kd.R_drew)); exact (Kd.R_mono (Kd.R_far (p := ⟨gb259, 1, none⟩) (Kd.R_far (p := ⟨gb259, 0, none⟩) (Kd.R_types HO257.out BK259.out (by decide)) (fun _ hk => hk.2) (.bool t254)) (fun _ hk => hk.2) (.slice Ao118 t255.length co118)) (fun _ h_ => h_.1)))); (case side2 => exact (Kd.R_reads' HO257.out).2.1); (case side3 => refine (Kd.R_reads' (e := 32) (base := w.heap.size) (ok := fun k_ => (((some k_ ≠ (.slice Ao31 t245.length co31 : Value).ownBlock ∧ some k_ ≠ (.slice Ao38 t233.length co38 : Value).ownBlock) ∧ some k_ ≠ (.slice Ao110 t251.length co110 : Value).ownBlock) ∧ some k_ ≠ (.slice Ao118 t255.length co118 : Value).ownBlock)) (n := t222.length) (c := co24) ?_).2.2; exact (by (with_reducible repeat (first | apply Kd.R_alloc | apply Kd.R_drewN | apply Kd.R_drew)); exact (Kd.R_mono (Kd.R_far (p := ⟨gb259, 1, none⟩) (Kd.R_far (p := ⟨gb259, 0, none⟩) (Kd.R_types HO_227001.out BK259.out (by decide)) (fun _ hk => hk.2) (.bool t254)) (fun _ hk => hk.2) (.slice Ao118 t255.length co118)) (fun _ h_ => h_.1)))); (case side4 => exact (Kd.R_reads' HO_227001.out).2.1); rintro e w130 ⟨rfl, hb⟩; refine ⟨_, rfl, ?_⟩; have n0_ := Aside0.mk (Kd.R_below (by (with_reducible repeat (first | apply Kd.R_alloc | apply Kd.R_drewN | apply Kd.R_drew)); exact (Kd.R_mono (Kd.R_far (p := ⟨gb259, 1, none⟩) (Kd.R_far (p := ⟨gb259, 0, none⟩) (Kd.R_types HO_227001.out BK259.out (by decide)) (fun _ hk => hk.2) (.bool t254)) (fun _ hk => hk.2) (.slice Ao118 t255.length co118)) (fun _ h_ => h_.1))) hb); have n1_ := Aside0.mk (Kd.R_below (by (with_reducible repeat (first | apply Kd.R_alloc | apply Kd.R_drewN | apply Kd.R_drew)); exact (Kd.R_mono (Kd.R_far (p := ⟨gb259, 1, none⟩) (Kd.R_far (p := ⟨gb259, 0, none⟩) (Kd.R_types HO_232001.out BK259.out (by decide)) (fun _ hk => hk.2) (.bool t254)) (fun _ hk => hk.2) (.slice Ao118 t255.length co118)) (fun _ h_ => h_.1))) hb); have n2_ := Aside0.mk (Kd.R_below (by (with_reducible repeat (first | apply Kd.R_alloc | apply Kd.R_drewN | apply Kd.R_drew)); exact (Kd.R_mono (Kd.R_far (p := ⟨gb259, 1, none⟩) (Kd.R_far (p := ⟨gb259, 0, none⟩) (Kd.R_types HO_238001.out BK259.out (by decide)) (fun _ hk => hk.2) (.bool t254)) (fun _ hk => hk.2) (.slice Ao118 t255.length co118)) (fun _ h_ => h_.1))) hb); have n3_ := Aside0.mk (Kd.R_below (by (with_reducible repeat (first | apply Kd.R_alloc | apply Kd.R_drewN | apply Kd.R_drew)); exact (Kd.R_mono (Kd.R_far (p := ⟨gb259, 1, none⟩) (Kd.R_far (p := ⟨gb259, 0, none⟩) (Kd.R_types HO253.out BK259.out (by decide)) (fun _ hk => hk.2) (.bool t254)) (fun _ hk => hk.2) (.slice Ao118 t255.length co118)) (fun _ h_ => h_.1))) hb); have n4_ := Aside0.mk (Kd.R_below (by (with_reducible repeat (first | apply Kd.R_alloc | apply Kd.R_drewN | apply Kd.R_drew)); exact (Kd.R_mono (Kd.R_far (p := ⟨gb259, 1, none⟩) (Kd.R_far (p := ⟨gb259, 0, none⟩) (Kd.R_types HO257.out BK259.out (by decide)) (fun _ hk => hk.2) (.bool t254)) (fun _ hk => hk.2) (.slice Ao118 t255.length co118)) (fun _ h_ => h_.1))) hb); have n5_ := Aside0.mk (blk_below (g := gb215) (o := .cells #[.bool a0_0, .slice A0_1 l0_1.length c0_1] 38 (0, 0)) (by (with_reducible repeat (first | refine blk_drewN ?_ _ | refine blk_drew ?_ | refine blk_alloc ?_ _)); refine blk_far ?_ NB215_259.out _; (with_reducible repeat (first | refine blk_drewN ?_ _ | refine blk_drew ?_ | refine blk_alloc ?_ _)); refine blk_far ?_ NB215_259.out _; (with_reducible repeat (first | refine blk_drewN ?_ _ | refine blk_drew ?_ | refine blk_alloc ?_ _)); exact BK215.out) hb); have n6_ := Aside0.mk (blk_below (g := gb226) (o := .cells #[.bool t221, .slice Ao24 t222.length co24] 25 (0, 0)) (by (with_reducible repeat (first | refine blk_drewN ?_ _ | refine blk_drew ?_ | refine blk_alloc ?_ _)); refine blk_far ?_ NB226_259.out _; (with_reducible repeat (first | refine blk_drewN ?_ _ | refine blk_drew ?_ | refine blk_alloc ?_ _)); refine blk_far ?_ NB226_259.out _; (with_reducible repeat (first | refine blk_drewN ?_ _ | refine blk_drew ?_ | refine blk_alloc ?_ _)); exact BK226.out) hb); have n7_ := Aside0.mk (blk_below (g := gb231) (o := .cells #[.bool t227, .slice Ao31 t245.length co31] 25 (0, 0)) (by (with_reducible repeat (first | refine blk_drewN ?_ _ | refine blk_drew ?_ | refine blk_alloc ?_ _)); refine blk_far ?_ NB231_259.out _; (with_reducible repeat (first | refine blk_drewN ?_ _ | refine blk_drew ?_ | refine blk_alloc ?_ _)); refine blk_far ?_ NB231_259.out _; (with_reducible repeat (first | refine blk_drewN ?_ _ | refine blk_drew ?_ | refine blk_alloc ?_ _)); exact BK231.out) hb); have n8_ := Aside0.mk (blk_below (g := gb237) (o := .cells #[.bool t232, .slice Ao38 t233.length co38] 25 (0, 0)) (by (with_reducible repeat (first | refine blk_drewN ?_ _ | refine blk_drew ?_ | refine blk_alloc ?_ _)); refine blk_far ?_ NB237_259.out _; (with_reducible repeat (first | refine blk_drewN ?_ _ | refine blk_drew ?_ | refine blk_alloc ?_ _)); refine blk_far ?_ NB237_259.out _; (with_reducible repeat (first | refine blk_drewN ?_ _ | refine blk_drew ?_ | refine blk_alloc ?_ _)); exact BK237.out) hb); have n9_ := Aside0.mk (blk_below (g := gb259) (o := .cells #[.bool t254, .slice Ao118 t255.length co118] 25 (0, 0)) (by (with_reducible repeat (first | refine blk_drewN ?_ _ | refine blk_drew ?_ | refine blk_alloc ?_ _)); refine blk_put (cs := #[.bool t254, .slice none 0 0]) ?_ 1 _ rfl; (with_reducible repeat (first | refine blk_drewN ?_ _ | refine blk_drew ?_ | refine blk_alloc ?_ _)); refine blk_put (cs := #[.bool false, .slice none 0 0]) ?_ 0 _ rfl; (with_reducible repeat (first | refine blk_drewN ?_ _ | refine blk_drew ?_ | refine blk_alloc ?_ _)); exact BK259.out) hb); have n10_ := Aside0.mk (below_step (by repeat (first | (with_reducible first | exact HB.out | apply below_alloc | apply pw_below_drewN | apply below_drew1 | refine below_set ?_ GE215.out | refine below_set ?_ GE226.out | refine below_set ?_ GE231.out | refine below_set ?_ GE237.out | refine below_set ?_ GE259.out) | exact HB.out)) hb); clear HO_227001; clear HO_232001; clear HO_238001; clear HO253; clear HO257; clear BK215; clear BK226; clear BK231; clear BK237; clear BK259; clear HB; have HO_227001 := n0_; have HO_232001 := n1_; have HO_238001 := n2_; have HO253 := n3_; have HO257 := n4_; have BK215 := n5_; have BK226 := n6_; have BK231 := n7_; have BK237 := n8_; have BK259 := n9_; have HB := n10_; clear n0_ n1_ n2_ n3_ n4_ n5_ n6_ n7_ n8_ n9_ n10_; (try clear hb); (try clear hb2); (try clear hk); (try clear hi)))
             go_meet
             case rel => exact ⟨_, ((t258 != t225)), (by first | rfl | (simp; done) | (simp [*]; done)), H', ⟨by have := HJ12.out; have := HJ61.out; first | omega | exact Nat.le_refl _⟩, ⟨by (try simp only [hl232001_61]); (with_reducible repeat (first | apply Kd.R_alloc | apply Kd.R_drewN | apply Kd.R_drew)); exact Kd.R_mono HO_227001.out (fun _ hk => ⟨hk.1.1.1, ⟨hk.1.1.2, hk.2⟩⟩)⟩, ⟨by (try simp only [hl232001_61]); (with_reducible repeat (first | apply Kd.R_alloc | apply Kd.R_drewN | apply Kd.R_drew)); exact Kd.R_mono HO_232001.out (fun _ hk => ⟨hk.1.1.1, ⟨hk.1.1.2, hk.2⟩⟩)⟩, ⟨by (try simp only [hl232001_61]); (with_reducible repeat (first | apply Kd.R_alloc | apply Kd.R_drewN | apply Kd.R_drew)); exact Kd.R_mono HO_238001.out (fun _ hk => ⟨hk.1.1.1, ⟨hk.1.1.2, hk.2⟩⟩)⟩, ⟨by (try simp only [hl232001_61]); (with_reducible repeat (first | apply Kd.R_alloc | apply Kd.R_drewN | apply Kd.R_drew)); exact Kd.R_mono HO257.out (fun _ hk => ⟨hk.1.1.1.2, ⟨hk.1.1.2, hk.1.2⟩⟩)⟩, ⟨by (try simp only [hl232001_61]); (with_reducible repeat (first | refine blk_drewN ?_ _ | refine blk_drew ?_ | refine blk_alloc ?_ _)); exact BK215.out⟩, ⟨by (try simp only [hl232001_61]); (with_reducible repeat (first | refine blk_drewN ?_ _ | refine blk_drew ?_ | refine blk_alloc ?_ _)); exact BK226.out⟩, ⟨by (try simp only [hl232001_61]); (with_reducible repeat (first | refine blk_drewN ?_ _ | refine blk_drew ?_ | refine blk_alloc ?_ _)); exact BK231.out⟩, ⟨by (try simp only [hl232001_61]); (with_reducible repeat (first | refine blk_drewN ?_ _ | refine blk_drew ?_ | refine blk_alloc ?_ _)); exact BK237.out⟩, ⟨by (try simp only [hl232001_61]); (with_reducible repeat (first | refine blk_drewN ?_ _ | refine blk_drew ?_ | refine blk_alloc ?_ _)); exact BK259.out⟩, ⟨by repeat (first | (with_reducible first | exact HB.out | apply below_alloc | apply pw_below_drewN | apply below_drew1 | refine below_set ?_ GE215.out | refine below_set ?_ GE226.out | refine below_set ?_ GE231.out | refine below_set ?_ GE237.out | refine below_set ?_ GE259.out) | exact HB.out)⟩⟩
            ·replace c120 := Bool.eq_false_iff.mpr c120
             subst c120
             have H1 : (laws_FnExactPlanShift.j2 kj61 t247 true t232 t248) = some r := by rw [if_neg (show ¬ (false = true) by decide)] at H; exact H
             clear H
             have H := H1
             clear H1
             have H' := Aside0.mk H
             clear H
             have hnb131 := NB259_215.out
             have hnc131 := NB215_259.out
             have hnb132 := NB259_226.out
             have hnc132 := NB226_259.out
             have hnb133 := NB259_231.out
             have hnc133 := NB231_259.out
             have hnb134 := NB259_237.out
             have hnc134 := NB237_259.out
             have hcz135_0 : w112.cell? ⟨gb259, 0, none⟩ = some (.bool false) := (blk_cell BK259.out 0).trans rfl
             have hcz135_1 : w112.cell? ⟨gb259, 1, none⟩ = some (.slice none 0 0) := (blk_cell BK259.out 1).trans rfl
             have hfz135_0 := blk_frozen BK259.out 0
             have hfz135_1 := blk_frozen BK259.out 1
             have hnb136 := NB226_215.out
             have hnc136 := NB215_226.out
             have hnb137 := NB226_231.out
             have hnc137 := NB231_226.out
             have hnb138 := NB226_237.out
             have hnc138 := NB237_226.out
             have hcz139_0 : w112.cell? ⟨gb226, 0, none⟩ = some (.bool t221) := (blk_cell BK226.out 0).trans rfl
             have hcz139_1 : w112.cell? ⟨gb226, 1, none⟩ = some (.slice Ao24 t222.length co24) := (blk_cell BK226.out 1).trans rfl
             have hfz139_0 := blk_frozen BK226.out 0
             have hfz139_1 := blk_frozen BK226.out 1
             go_wp2_with (first | ((with_reducible refine gate_callee (f := 18) rfl ?_); refine goesL_ (some 91) rfl rfl Try.func18 (by kernel_rfl) rfl #[.agg #[.bool t254, .slice Ao118 t255.length co118], .agg #[.bool t221, .slice Ao24 t222.length co24]] rfl (by (try simp only [List.map_toArray, List.map_cons, List.map_nil]); first | done | rfl | (simp only [List.length_drop, List.length_take]; rfl)) ?_; (with_reducible refine (laws_eqPlan.calls kj61 t254 _ _ t255 t221 _ _ t222 false _ ?side1 ?side2 ?side3 ?side4 A119.out).mono ?_); (case side1 => refine (Kd.R_reads' (e := 32) (base := w.heap.size) (ok := fun k_ => ((((True ∧ some k_ ≠ (.slice Ao24 t222.length co24 : Value).ownBlock) ∧ some k_ ≠ (.slice Ao31 t245.length co31 : Value).ownBlock) ∧ some k_ ≠ (.slice Ao38 t233.length co38 : Value).ownBlock) ∧ some k_ ≠ (.slice Ao110 t251.length co110 : Value).ownBlock)) (n := t255.length) (c := co118) ?_).2.2; exact (by (with_reducible repeat (first | apply Kd.R_alloc | apply Kd.R_drewN | apply Kd.R_drew)); exact (Kd.R_mono (Kd.R_far (p := ⟨gb259, 1, none⟩) (Kd.R_far (p := ⟨gb259, 0, none⟩) (Kd.R_types HO257.out BK259.out (by decide)) (fun _ hk => hk.2) (.bool t254)) (fun _ hk => hk.2) (.slice Ao118 t255.length co118)) (fun _ h_ => h_.1)))); (case side2 => exact (Kd.R_reads' HO257.out).2.1); (case side3 => refine (Kd.R_reads' (e := 32) (base := w.heap.size) (ok := fun k_ => (((some k_ ≠ (.slice Ao31 t245.length co31 : Value).ownBlock ∧ some k_ ≠ (.slice Ao38 t233.length co38 : Value).ownBlock) ∧ some k_ ≠ (.slice Ao110 t251.length co110 : Value).ownBlock) ∧ some k_ ≠ (.slice Ao118 t255.length co118 : Value).ownBlock)) (n := t222.length) (c := co24) ?_).2.2; exact (by (with_reducible repeat (first | apply Kd.R_alloc | apply Kd.R_drewN | apply Kd.R_drew)); exact (Kd.R_mono (Kd.R_far (p := ⟨gb259, 1, none⟩) (Kd.R_far (p := ⟨gb259, 0, none⟩) (Kd.R_types HO_227001.out BK259.out (by decide)) (fun _ hk => hk.2) (.bool t254)) (fun _ hk => hk.2) (.slice Ao118 t255.length co118)) (fun _ h_ => h_.1)))); (case side4 => exact (Kd.R_reads' HO_227001.out).2.1); rintro e w140 ⟨rfl, hb⟩; refine ⟨_, rfl, ?_⟩; have n0_ := Aside0.mk (Kd.R_below (by (with_reducible repeat (first | apply Kd.R_alloc | apply Kd.R_drewN | apply Kd.R_drew)); exact (Kd.R_mono (Kd.R_far (p := ⟨gb259, 1, none⟩) (Kd.R_far (p := ⟨gb259, 0, none⟩) (Kd.R_types HO_227001.out BK259.out (by decide)) (fun _ hk => hk.2) (.bool t254)) (fun _ hk => hk.2) (.slice Ao118 t255.length co118)) (fun _ h_ => h_.1))) hb); have n1_ := Aside0.mk (Kd.R_below (by (with_reducible repeat (first | apply Kd.R_alloc | apply Kd.R_drewN | apply Kd.R_drew)); exact (Kd.R_mono (Kd.R_far (p := ⟨gb259, 1, none⟩) (Kd.R_far (p := ⟨gb259, 0, none⟩) (Kd.R_types HO_232001.out BK259.out (by decide)) (fun _ hk => hk.2) (.bool t254)) (fun _ hk => hk.2) (.slice Ao118 t255.length co118)) (fun _ h_ => h_.1))) hb); have n2_ := Aside0.mk (Kd.R_below (by (with_reducible repeat (first | apply Kd.R_alloc | apply Kd.R_drewN | apply Kd.R_drew)); exact (Kd.R_mono (Kd.R_far (p := ⟨gb259, 1, none⟩) (Kd.R_far (p := ⟨gb259, 0, none⟩) (Kd.R_types HO_238001.out BK259.out (by decide)) (fun _ hk => hk.2) (.bool t254)) (fun _ hk => hk.2) (.slice Ao118 t255.length co118)) (fun _ h_ => h_.1))) hb); have n3_ := Aside0.mk (Kd.R_below (by (with_reducible repeat (first | apply Kd.R_alloc | apply Kd.R_drewN | apply Kd.R_drew)); exact (Kd.R_mono (Kd.R_far (p := ⟨gb259, 1, none⟩) (Kd.R_far (p := ⟨gb259, 0, none⟩) (Kd.R_types HO253.out BK259.out (by decide)) (fun _ hk => hk.2) (.bool t254)) (fun _ hk => hk.2) (.slice Ao118 t255.length co118)) (fun _ h_ => h_.1))) hb); have n4_ := Aside0.mk (Kd.R_below (by (with_reducible repeat (first | apply Kd.R_alloc | apply Kd.R_drewN | apply Kd.R_drew)); exact (Kd.R_mono (Kd.R_far (p := ⟨gb259, 1, none⟩) (Kd.R_far (p := ⟨gb259, 0, none⟩) (Kd.R_types HO257.out BK259.out (by decide)) (fun _ hk => hk.2) (.bool t254)) (fun _ hk => hk.2) (.slice Ao118 t255.length co118)) (fun _ h_ => h_.1))) hb); have n5_ := Aside0.mk (blk_below (g := gb215) (o := .cells #[.bool a0_0, .slice A0_1 l0_1.length c0_1] 38 (0, 0)) (by (with_reducible repeat (first | refine blk_drewN ?_ _ | refine blk_drew ?_ | refine blk_alloc ?_ _)); refine blk_far ?_ NB215_259.out _; (with_reducible repeat (first | refine blk_drewN ?_ _ | refine blk_drew ?_ | refine blk_alloc ?_ _)); refine blk_far ?_ NB215_259.out _; (with_reducible repeat (first | refine blk_drewN ?_ _ | refine blk_drew ?_ | refine blk_alloc ?_ _)); exact BK215.out) hb); have n6_ := Aside0.mk (blk_below (g := gb226) (o := .cells #[.bool t221, .slice Ao24 t222.length co24] 25 (0, 0)) (by (with_reducible repeat (first | refine blk_drewN ?_ _ | refine blk_drew ?_ | refine blk_alloc ?_ _)); refine blk_far ?_ NB226_259.out _; (with_reducible repeat (first | refine blk_drewN ?_ _ | refine blk_drew ?_ | refine blk_alloc ?_ _)); refine blk_far ?_ NB226_259.out _; (with_reducible repeat (first | refine blk_drewN ?_ _ | refine blk_drew ?_ | refine blk_alloc ?_ _)); exact BK226.out) hb); have n7_ := Aside0.mk (blk_below (g := gb231) (o := .cells #[.bool t227, .slice Ao31 t245.length co31] 25 (0, 0)) (by (with_reducible repeat (first | refine blk_drewN ?_ _ | refine blk_drew ?_ | refine blk_alloc ?_ _)); refine blk_far ?_ NB231_259.out _; (with_reducible repeat (first | refine blk_drewN ?_ _ | refine blk_drew ?_ | refine blk_alloc ?_ _)); refine blk_far ?_ NB231_259.out _; (with_reducible repeat (first | refine blk_drewN ?_ _ | refine blk_drew ?_ | refine blk_alloc ?_ _)); exact BK231.out) hb); have n8_ := Aside0.mk (blk_below (g := gb237) (o := .cells #[.bool t232, .slice Ao38 t233.length co38] 25 (0, 0)) (by (with_reducible repeat (first | refine blk_drewN ?_ _ | refine blk_drew ?_ | refine blk_alloc ?_ _)); refine blk_far ?_ NB237_259.out _; (with_reducible repeat (first | refine blk_drewN ?_ _ | refine blk_drew ?_ | refine blk_alloc ?_ _)); refine blk_far ?_ NB237_259.out _; (with_reducible repeat (first | refine blk_drewN ?_ _ | refine blk_drew ?_ | refine blk_alloc ?_ _)); exact BK237.out) hb); have n9_ := Aside0.mk (blk_below (g := gb259) (o := .cells #[.bool t254, .slice Ao118 t255.length co118] 25 (0, 0)) (by (with_reducible repeat (first | refine blk_drewN ?_ _ | refine blk_drew ?_ | refine blk_alloc ?_ _)); refine blk_put (cs := #[.bool t254, .slice none 0 0]) ?_ 1 _ rfl; (with_reducible repeat (first | refine blk_drewN ?_ _ | refine blk_drew ?_ | refine blk_alloc ?_ _)); refine blk_put (cs := #[.bool false, .slice none 0 0]) ?_ 0 _ rfl; (with_reducible repeat (first | refine blk_drewN ?_ _ | refine blk_drew ?_ | refine blk_alloc ?_ _)); exact BK259.out) hb); have n10_ := Aside0.mk (below_step (by repeat (first | (with_reducible first | exact HB.out | apply below_alloc | apply pw_below_drewN | apply below_drew1 | refine below_set ?_ GE215.out | refine below_set ?_ GE226.out | refine below_set ?_ GE231.out | refine below_set ?_ GE237.out | refine below_set ?_ GE259.out) | exact HB.out)) hb); clear HO_227001; clear HO_232001; clear HO_238001; clear HO253; clear HO257; clear BK215; clear BK226; clear BK231; clear BK237; clear BK259; clear HB; have HO_227001 := n0_; have HO_232001 := n1_; have HO_238001 := n2_; have HO253 := n3_; have HO257 := n4_; have BK215 := n5_; have BK226 := n6_; have BK231 := n7_; have BK237 := n8_; have BK259 := n9_; have HB := n10_; clear n0_ n1_ n2_ n3_ n4_ n5_ n6_ n7_ n8_ n9_ n10_; (try clear hb); (try clear hb2); (try clear hk); (try clear hi)))
             go_meet
             case rel => exact ⟨_, (true), (by first | rfl | (simp; done) | (simp [*]; done)), H', ⟨by have := HJ12.out; have := HJ61.out; first | omega | exact Nat.le_refl _⟩, ⟨by (try simp only [hl232001_61]); (with_reducible repeat (first | apply Kd.R_alloc | apply Kd.R_drewN | apply Kd.R_drew)); exact Kd.R_mono HO_227001.out (fun _ hk => ⟨hk.1.1.1, ⟨hk.1.1.2, hk.2⟩⟩)⟩, ⟨by (try simp only [hl232001_61]); (with_reducible repeat (first | apply Kd.R_alloc | apply Kd.R_drewN | apply Kd.R_drew)); exact Kd.R_mono HO_232001.out (fun _ hk => ⟨hk.1.1.1, ⟨hk.1.1.2, hk.2⟩⟩)⟩, ⟨by (try simp only [hl232001_61]); (with_reducible repeat (first | apply Kd.R_alloc | apply Kd.R_drewN | apply Kd.R_drew)); exact Kd.R_mono HO_238001.out (fun _ hk => ⟨hk.1.1.1, ⟨hk.1.1.2, hk.2⟩⟩)⟩, ⟨by (try simp only [hl232001_61]); (with_reducible repeat (first | apply Kd.R_alloc | apply Kd.R_drewN | apply Kd.R_drew)); exact Kd.R_mono HO257.out (fun _ hk => ⟨hk.1.1.1.2, ⟨hk.1.1.2, hk.1.2⟩⟩)⟩, ⟨by (try simp only [hl232001_61]); (with_reducible repeat (first | refine blk_drewN ?_ _ | refine blk_drew ?_ | refine blk_alloc ?_ _)); exact BK215.out⟩, ⟨by (try simp only [hl232001_61]); (with_reducible repeat (first | refine blk_drewN ?_ _ | refine blk_drew ?_ | refine blk_alloc ?_ _)); exact BK226.out⟩, ⟨by (try simp only [hl232001_61]); (with_reducible repeat (first | refine blk_drewN ?_ _ | refine blk_drew ?_ | refine blk_alloc ?_ _)); exact BK231.out⟩, ⟨by (try simp only [hl232001_61]); (with_reducible repeat (first | refine blk_drewN ?_ _ | refine blk_drew ?_ | refine blk_alloc ?_ _)); exact BK237.out⟩, ⟨by (try simp only [hl232001_61]); (with_reducible repeat (first | refine blk_drewN ?_ _ | refine blk_drew ?_ | refine blk_alloc ?_ _)); exact BK259.out⟩, ⟨by repeat (first | (with_reducible first | exact HB.out | apply below_alloc | apply pw_below_drewN | apply below_drew1 | refine below_set ?_ GE215.out | refine below_set ?_ GE226.out | refine below_set ?_ GE231.out | refine below_set ?_ GE237.out | refine below_set ?_ GE259.out) | exact HB.out)⟩⟩
           case rest =>
            clear HC98
            try clear c1
            try clear c2
            try clear p2
            try clear c3
            try clear c4
            try clear c5
            try clear c5b0
            try clear c6
            try clear c7
            try clear c8
            try clear c9
            try clear c10
            try clear c11
            try clear c12
            try clear c13
            try clear c14
            try clear c15
            try clear c16
            try clear c17
            try clear c18
            try clear c19
            try clear c20
            try clear c22
            try clear c28
            try clear c29
            try clear c34
            try clear c35
            try clear c36
            try clear c40
            try clear c41
            try clear c42
            try clear c43
            try clear c45
            try clear c46
            try clear c49
            try clear c50
            try clear c51
            try clear c53
            try clear c54
            try clear c57
            try clear c60
            try clear c67
            try clear c68
            try clear c69
            try clear c72
            try clear c72b0
            try clear c74
            try clear c75
            try clear c76
            try clear c77
            try clear c79
            try clear c80
            try clear c83
            try clear c84
            try clear c85
            try clear c87
            try clear c88
            try clear c91
            try clear c94
            try clear c94b0
            try clear c95
            try clear c95b0
            try clear c95b1
            try clear c99
            try clear c100
            try clear c101
            try clear c106
            try clear c107
            try clear c113
            try clear c114
            try clear c115
            try clear c116
            try clear c120
            try clear c121
            try clear c122
            try clear c123
            try clear c124
            try clear c126
            try clear c127
            try clear c128
            try clear c131
            try clear c132
            try clear c133
            try clear c134
            try clear c136
            try clear c137
            try clear c138
            try clear hcz102_0
            try clear hcz102_1
            try clear hcz104_0
            try clear hcz104_1
            try clear hcz108_0
            try clear hcz108_1
            try clear hcz117_0
            try clear hcz117_1
            try clear hcz125_0
            try clear hcz125_1
            try clear hcz129_0
            try clear hcz129_1
            try clear hcz135_0
            try clear hcz135_1
            try clear hcz139_0
            try clear hcz139_1
            try clear hcz15_0
            try clear hcz15_1
            try clear hcz17_0
            try clear hcz17_1
            try clear hcz23_0
            try clear hcz23_1
            try clear hcz25_0
            try clear hcz25_1
            try clear hcz30_0
            try clear hcz30_1
            try clear hcz37_0
            try clear hcz37_1
            try clear hcz44_0
            try clear hcz44_1
            try clear hcz47_0
            try clear hcz47_1
            try clear hcz52_0
            try clear hcz52_1
            try clear hcz55_0
            try clear hcz55_1
            try clear hcz70_0
            try clear hcz70_1
            try clear hcz78_0
            try clear hcz78_1
            try clear hcz7_0
            try clear hcz7_1
            try clear hcz81_0
            try clear hcz81_1
            try clear hcz86_0
            try clear hcz86_1
            try clear hcz89_0
            try clear hcz89_1
            try clear hfz102_0
            try clear hfz102_1
            try clear hfz104_0
            try clear hfz104_1
            try clear hfz108_0
            try clear hfz108_1
            try clear hfz117_0
            try clear hfz117_1
            try clear hfz125_0
            try clear hfz125_1
            try clear hfz129_0
            try clear hfz129_1
            try clear hfz135_0
            try clear hfz135_1
            try clear hfz139_0
            try clear hfz139_1
            try clear hfz15_0
            try clear hfz15_1
            try clear hfz17_0
            try clear hfz17_1
            try clear hfz23_0
            try clear hfz23_1
            try clear hfz25_0
            try clear hfz25_1
            try clear hfz30_0
            try clear hfz30_1
            try clear hfz37_0
            try clear hfz37_1
            try clear hfz44_0
            try clear hfz44_1
            try clear hfz47_0
            try clear hfz47_1
            try clear hfz52_0
            try clear hfz52_1
            try clear hfz55_0
            try clear hfz55_1
            try clear hfz70_0
            try clear hfz70_1
            try clear hfz78_0
            try clear hfz78_1
            try clear hfz7_0
            try clear hfz7_1
            try clear hfz81_0
            try clear hfz81_1
            try clear hfz86_0
            try clear hfz86_1
            try clear hfz89_0
            try clear hfz89_1
            try clear p2
            obtain ⟨kq, x97_97, rfl, HA, HJ97, HO_227001, HO_232001, HO_238001, HO_260001, BK215, BK226, BK231, BK237, BK259, HB⟩ := hcut
            have hl238001_97 := (Kd.R_reads' HO_238001.out).1
            rw [hl238001_97] at HO_238001
            (try simp only [hl238001_97])
            (try simp only [hl238001_97] at BK215)
            (try simp only [hl238001_97] at BK226)
            (try simp only [hl238001_97] at BK231)
            (try simp only [hl238001_97] at BK237)
            (try simp only [hl238001_97] at BK259)
            (try simp only [hl238001_97] at HO_227001)
            (try simp only [hl238001_97] at HO_232001)
            (try simp only [hl238001_97] at HO_260001)
            cases kq with
            | zero => exact absurd HA.out (by simp [laws_FnExactPlanShift.j2])
            | succ kj97 =>
             have H := HA.out
             clear HA
             simp only [laws_FnExactPlanShift.j2] at H
             by_cases c141 : x97_97 = true
             ·subst c141
              have H1 : (some false) = some r := by rw [if_pos rfl] at H; exact H
              clear H
              have H := H1
              clear H1
              exact absurd ((Option.some.inj H).trans HRT_.out) (by decide)
             ·replace c141 := Bool.eq_false_iff.mpr c141
              subst c141
              have H1 : ((laws_heldPlan.f kj97 t232 t248 1).bind fun t261 => (if t261 < 0 then (some false) else (if t261 = t247 then (some true) else (some false)))) = some r := by rw [if_neg (show ¬ (false = true) by decide)] at H; exact H
              clear H
              have H := H1
              clear H1
              replace H := Option.bind_eq_some_iff.mp H
              obtain ⟨t261, A1420, H⟩ := H
              replace H : (if t261 < 0 then (some false) else (if t261 = t247 then (some true) else (some false))) = some r := H
              have A142 := Aside0.mk A1420
              clear A1420
              by_cases c143 : t261 < 0
              ·rw [if_pos c143] at H
               have c143b0 : decide (t261 < 0) = true := decide_eq_true c143
               clear c143
               exact absurd ((Option.some.inj H).trans HRT_.out) (by decide)
              ·rw [if_neg c143] at H
               have c143b0 : decide (t261 < 0) = false := decide_eq_false c143
               clear c143
               by_cases c144 : t261 = t247
               ·rw [if_pos c144] at H
                have c144b0 : (t261 == t247) = true := beq_iff_eq.mpr c144
                have c144b1 : (t261 != t247) = false := bne_eq_false_iff_eq.mpr c144
                clear c144
                obtain rfl := Option.some.inj H
                have hnb145 := NB237_215.out
                have hnc145 := NB215_237.out
                have hnb146 := NB237_226.out
                have hnc146 := NB226_237.out
                have hnb147 := NB237_231.out
                have hnc147 := NB231_237.out
                have hnb148 := NB237_259.out
                have hnc148 := NB259_237.out
                have hcz149_0 : wc.cell? ⟨gb237, 0, none⟩ = some (.bool t232) := (blk_cell BK237.out 0).trans rfl
                have hcz149_1 : wc.cell? ⟨gb237, 1, none⟩ = some (.slice Ao38 t248.length co38) := (blk_cell BK237.out 1).trans rfl
                have hfz149_0 := blk_frozen BK237.out 0
                have hfz149_1 := blk_frozen BK237.out 1
                go_wp2_with (first | ((with_reducible refine gate_callee (f := 20) rfl ?_); refine goesL_ (some 100) rfl rfl Try.func20 (by kernel_rfl) rfl #[.agg #[.bool t232, .slice Ao38 t248.length co38], .int .i64 1] rfl (by (try simp only [List.map_toArray, List.map_cons, List.map_nil]); first | done | rfl | (simp only [List.length_drop, List.length_take]; rfl)) ?_; (with_reducible refine (laws_heldPlan.calls kj97 t232 _ _ t248 1 t261 _ ?side1 ?side2 A142.out).mono ?_); (case side1 => repeat (first | exact (Kd.R_reads' HO_238001.out).2.2 | (with_reducible refine Kd.C_alloc ?_ _) | (with_reducible refine Kd.C_drewN ?_ _) | (with_reducible refine Kd.C_drew ?_))); (case side2 => exact (Kd.R_reads' HO_238001.out).2.1); rintro e w150 ⟨rfl, hb⟩; refine ⟨_, rfl, ?_⟩; have n0_ := Aside0.mk (Kd.R_below (by (with_reducible repeat (first | apply Kd.R_alloc | apply Kd.R_drewN | apply Kd.R_drew)); exact HO_227001.out) hb); have n1_ := Aside0.mk (Kd.R_below (by (with_reducible repeat (first | apply Kd.R_alloc | apply Kd.R_drewN | apply Kd.R_drew)); exact HO_232001.out) hb); have n2_ := Aside0.mk (Kd.R_below (by (with_reducible repeat (first | apply Kd.R_alloc | apply Kd.R_drewN | apply Kd.R_drew)); exact HO_238001.out) hb); have n3_ := Aside0.mk (Kd.R_below (by (with_reducible repeat (first | apply Kd.R_alloc | apply Kd.R_drewN | apply Kd.R_drew)); exact HO_260001.out) hb); have n4_ := Aside0.mk (blk_below (g := gb215) (o := .cells #[.bool a0_0, .slice A0_1 l0_1.length c0_1] 38 (0, 0)) (by (with_reducible repeat (first | refine blk_drewN ?_ _ | refine blk_drew ?_ | refine blk_alloc ?_ _)); exact BK215.out) hb); have n5_ := Aside0.mk (blk_below (g := gb226) (o := .cells #[.bool t221, .slice Ao24 t222.length co24] 25 (0, 0)) (by (with_reducible repeat (first | refine blk_drewN ?_ _ | refine blk_drew ?_ | refine blk_alloc ?_ _)); exact BK226.out) hb); have n6_ := Aside0.mk (blk_below (g := gb231) (o := .cells #[.bool t227, .slice Ao31 t245.length co31] 25 (0, 0)) (by (with_reducible repeat (first | refine blk_drewN ?_ _ | refine blk_drew ?_ | refine blk_alloc ?_ _)); exact BK231.out) hb); have n7_ := Aside0.mk (blk_below (g := gb237) (o := .cells #[.bool t232, .slice Ao38 t248.length co38] 25 (0, 0)) (by (with_reducible repeat (first | refine blk_drewN ?_ _ | refine blk_drew ?_ | refine blk_alloc ?_ _)); exact BK237.out) hb); have n8_ := Aside0.mk (blk_below (g := gb259) (o := .cells #[.bool t254, .slice Ao118 t255.length co118] 25 (0, 0)) (by (with_reducible repeat (first | refine blk_drewN ?_ _ | refine blk_drew ?_ | refine blk_alloc ?_ _)); exact BK259.out) hb); have n9_ := Aside0.mk (below_step (by repeat (first | (with_reducible first | exact HB.out | apply below_alloc | apply pw_below_drewN | apply below_drew1 | refine below_set ?_ GE215.out | refine below_set ?_ GE226.out | refine below_set ?_ GE231.out | refine below_set ?_ GE237.out | refine below_set ?_ GE259.out) | exact HB.out)) hb); clear HO_227001; clear HO_232001; clear HO_238001; clear HO_260001; clear BK215; clear BK226; clear BK231; clear BK237; clear BK259; clear HB; have HO_227001 := n0_; have HO_232001 := n1_; have HO_238001 := n2_; have HO_260001 := n3_; have BK215 := n4_; have BK226 := n5_; have BK231 := n6_; have BK237 := n7_; have BK259 := n8_; have HB := n9_; clear n0_ n1_ n2_ n3_ n4_ n5_ n6_ n7_ n8_ n9_; (try clear hb); (try clear hb2); (try clear hk); (try clear hi)))
                go_ret
                exact ⟨by first | rfl | (simp [errW_none, errW_some] <;> rfl) | (simp [*, errW_none, errW_some] <;> rfl), by repeat (first | (with_reducible first | exact HB.out | apply below_alloc | apply pw_below_drewN | apply below_drew1 | refine below_set ?_ GE215.out | refine below_set ?_ GE226.out | refine below_set ?_ GE231.out | refine below_set ?_ GE237.out | refine below_set ?_ GE259.out) | exact HB.out)⟩
               ·rw [if_neg c144] at H
                have c144b0 : (t261 == t247) = false := beq_eq_false_iff_ne.mpr c144
                have c144b1 : (t261 != t247) = true := bne_iff_ne.mpr c144
                exact absurd ((Option.some.inj H).trans HRT_.out) (by decide)
          ·rw [if_neg c95] at H
           have c95b0 : (t249 == t247) = false := beq_eq_false_iff_ne.mpr c95
           have c95b1 : (t249 != t247) = true := bne_iff_ne.mpr c95
           exact absurd ((Option.some.inj H).trans HRT_.out) (by decide)
     ·replace c60 := Bool.eq_false_iff.mpr c60
      subst c60
      have H1 : (some false) = some r := by rw [if_neg (show ¬ (false = true) by decide)] at H; exact H
      clear H
      have H := H1
      clear H1
      exact absurd ((Option.some.inj H).trans HRT_.out) (by decide)

end Go.Proofs.Ythiddhipphaacaa.PFnExactPlanShift
