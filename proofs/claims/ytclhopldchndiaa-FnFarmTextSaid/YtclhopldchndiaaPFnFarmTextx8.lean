-- written by a program of this session (tools/hprint.py, a turned copy of the kit print) out of the translation; Lean checks it
import Derived.Test.YtclhopldchndiaaPFnFarmTextx0
import Derived.Test.YtclhopldchndiaaPFnFarmTextx1
import Derived.Test.YtclhopldchndiaaPFnFarmTextx2
import Derived.Test.YtclhopldchndiaaPFnFarmTextx3
import Derived.Test.YtclhopldchndiaaPFnFarmTextx4
import Derived.Test.YtclhopldchndiaaPFnFarmTextx6
import Derived.Test.YtclhopldchndiaaPFnFarmTextx7
namespace Go.Proofs.Ytclhopldchndiaa.PFnFarmText
open Go.RowKit Go.Proofs.YtclhopldchndiaaW.PrintWords Go.Proofs.YtclhopldchndiaaW.PrintLast Go.Proofs.YtclhopldchndiaaW.PrintMore
attribute [local go_sem] max2_int min2_int max_two min_two max_three min_three max_four min_four   -- for this text's walks alone
set_option linter.unusedVariables false
set_option linter.unusedSimpArgs false

attribute [local go_sem high] eqA25
/-! ### laws_FnFarmText: function 12 -/
mutual
def laws_FnFarmText.j0 : Nat → List Int → List Int → Bool → Option (Bool)
  | 0, _, _, _ => none
  | k + 1, x0, x1, x21 => if x21 = true then (some true) else ((spec_DrawFarmPut.f k x0).bind fun bt234 => ((impl_FarmPut.f k bt234.1 bt234.2.1 bt234.2.2.1 bt234.2.2.2.1 bt234.2.2.2.2).bind fun t240 => ((impl_FarmGet.f k t240).bind fun bt241 => ((spec_FarmPut.f k bt234.1 bt234.2.1 bt234.2.2.1 bt234.2.2.2.1 bt234.2.2.2.2).bind fun t248 => (if t240.toList = t248.toList then ((spec_FarmOk.f bt234.1 bt234.2.1 bt234.2.2.1 bt234.2.2.2.1 bt234.2.2.2.2).bind fun t249 => (if (bt241.2.2.2.2.2 != t249) = true then (laws_FnFarmText.j1 k x1 true) else (if bt241.2.2.2.2.2 = true then (laws_FnFarmText.j1 k x1 (!(bt241.1 == bt234.1) || (!(bt241.2.1 == bt234.2.1) || (!(bt241.2.2.1 == bt234.2.2.1) || (!(bt241.2.2.2.1 == bt234.2.2.2.1) || (!(bt241.2.2.2.2.1 == bt234.2.2.2.2))))))) else (laws_FnFarmText.j1 k x1 false)))) else (laws_FnFarmText.j1 k x1 true))))))
def laws_FnFarmText.j1 : Nat → List Int → Bool → Option (Bool)
  | 0, _, _ => none
  | k + 1, x1, x48 => if x48 = true then (some false) else ((spec_DrawFarmGet.f k x1).bind fun t250 => ((impl_FarmGet.f k t250).bind fun bt251 => ((spec_FarmGet.f k t250).bind fun bt258 => (if (bt251.1 == bt258.1 && (bt251.2.1 == bt258.2.1 && (bt251.2.2.1 == bt258.2.2.1 && (bt251.2.2.2.1 == bt258.2.2.2.1 && (bt251.2.2.2.2.1 == bt258.2.2.2.2.1))))) = true then (if (bt251.2.2.2.2.2 == bt258.2.2.2.2.2) = true then (if bt251.2.2.2.2.2 = true then ((impl_FarmPut.f k bt251.1 bt251.2.1 bt251.2.2.1 bt251.2.2.2.1 bt251.2.2.2.2.1).bind fun t265 => (some (t265.toList == t250.toList))) else (some true)) else (some false)) else (some false)))))
end
def laws_FnFarmText.f (k : Nat) (l0 : List Int) (l1 : List Int) : Option (Bool) := if (l0.length : Int) > 1048576 then (laws_FnFarmText.j0 k l0 l1 true) else (laws_FnFarmText.j0 k l0 l1 (decide ((l1.length : Int) > 1048576)))
theorem laws_FnFarmText.mono_l : ∀ k, (∀ y0 y1 y2, LeO (laws_FnFarmText.j0 k y0 y1 y2) (laws_FnFarmText.j0 (k + 1) y0 y1 y2)) ∧ (∀ y0 y1, LeO (laws_FnFarmText.j1 k y0 y1) (laws_FnFarmText.j1 (k + 1) y0 y1))
  | 0 => ⟨fun _ _ _ r h => by simp [laws_FnFarmText.j0] at h, fun _ _ r h => by simp [laws_FnFarmText.j1] at h⟩
  | k + 1 => by
    obtain ⟨ih0, ih1⟩ := laws_FnFarmText.mono_l k
    refine ⟨?_, ?_⟩
    · intro y0 y1 y2
      unfold laws_FnFarmText.j0
      repeat' first
      | (with_reducible exact ih0 _ _ _)
      | (with_reducible exact ih1 _ _)
      | (with_reducible exact impl_FarmGet.mono _ _)
      | (with_reducible exact impl_FarmPut.mono _ _ _ _ _ _)
      | (with_reducible exact spec_DrawFarmGet.mono _ _)
      | (with_reducible exact spec_DrawFarmPut.mono _ _)
      | (with_reducible exact spec_FarmGet.mono _ _)
      | (with_reducible exact spec_FarmPut.mono _ _ _ _ _ _)
      | (with_reducible exact LeO.refl _)
      | (with_reducible exact LeO.none _)
      | (with_reducible refine LeO.ite ?_ ?_)
      | (with_reducible refine LeO.bind ?_ (fun _ => ?_))
      | exact ih0 _ _ _
      | exact ih1 _ _
      | exact impl_FarmGet.mono _ _
      | exact impl_FarmPut.mono _ _ _ _ _ _
      | exact spec_DrawFarmGet.mono _ _
      | exact spec_DrawFarmPut.mono _ _
      | exact spec_FarmGet.mono _ _
      | exact spec_FarmPut.mono _ _ _ _ _ _
      | exact LeO.none _
      | refine LeO.ite ?_ ?_
      | refine LeO.bind ?_ (fun _ => ?_)
    · intro y0 y1
      unfold laws_FnFarmText.j1
      repeat' first
      | (with_reducible exact ih0 _ _ _)
      | (with_reducible exact ih1 _ _)
      | (with_reducible exact impl_FarmGet.mono _ _)
      | (with_reducible exact impl_FarmPut.mono _ _ _ _ _ _)
      | (with_reducible exact spec_DrawFarmGet.mono _ _)
      | (with_reducible exact spec_DrawFarmPut.mono _ _)
      | (with_reducible exact spec_FarmGet.mono _ _)
      | (with_reducible exact spec_FarmPut.mono _ _ _ _ _ _)
      | (with_reducible exact LeO.refl _)
      | (with_reducible exact LeO.none _)
      | (with_reducible refine LeO.ite ?_ ?_)
      | (with_reducible refine LeO.bind ?_ (fun _ => ?_))
      | exact ih0 _ _ _
      | exact ih1 _ _
      | exact impl_FarmGet.mono _ _
      | exact impl_FarmPut.mono _ _ _ _ _ _
      | exact spec_DrawFarmGet.mono _ _
      | exact spec_DrawFarmPut.mono _ _
      | exact spec_FarmGet.mono _ _
      | exact spec_FarmPut.mono _ _ _ _ _ _
      | exact LeO.none _
      | refine LeO.ite ?_ ?_
      | refine LeO.bind ?_ (fun _ => ?_)
theorem laws_FnFarmText.mono : ∀ a0 a1 k, LeO (laws_FnFarmText.f k a0 a1) (laws_FnFarmText.f (k + 1) a0 a1) := by
  intro a0 a1 k
  obtain ⟨ih0, ih1⟩ := laws_FnFarmText.mono_l k
  unfold laws_FnFarmText.f
  repeat' first
      | (with_reducible exact ih0 _ _ _)
      | (with_reducible exact ih1 _ _)
      | (with_reducible exact impl_FarmGet.mono _ _)
      | (with_reducible exact impl_FarmPut.mono _ _ _ _ _ _)
      | (with_reducible exact spec_DrawFarmGet.mono _ _)
      | (with_reducible exact spec_DrawFarmPut.mono _ _)
      | (with_reducible exact spec_FarmGet.mono _ _)
      | (with_reducible exact spec_FarmPut.mono _ _ _ _ _ _)
      | (with_reducible exact LeO.refl _)
      | (with_reducible exact LeO.none _)
      | (with_reducible refine LeO.ite ?_ ?_)
      | (with_reducible refine LeO.bind ?_ (fun _ => ?_))
      | exact ih0 _ _ _
      | exact ih1 _ _
      | exact impl_FarmGet.mono _ _
      | exact impl_FarmPut.mono _ _ _ _ _ _
      | exact spec_DrawFarmGet.mono _ _
      | exact spec_DrawFarmPut.mono _ _
      | exact spec_FarmGet.mono _ _
      | exact spec_FarmPut.mono _ _ _ _ _ _
      | exact LeO.none _
      | refine LeO.ite ?_ ?_
      | refine LeO.bind ?_ (fun _ => ?_)
set_option maxHeartbeats 8000000 in
set_option maxRecDepth 100000 in
theorem laws_FnFarmText.calls (k : Nat) (A0 : Option Addr) (c0 : Nat) (l0 : List Int) (A1 : Option Addr) (c1 : Nat) (l1 : List Int) (r : Bool) (w : World) (hr0 : Kd.C (Kd.int .u8) w A0 l0.length l0) (hc0 : l0.length ≤ c0) (hr1 : Kd.C (Kd.int .u8) w A1 l1.length l1) (hc1 : l1.length ≤ c1) (hr_ : r = true) (h : laws_FnFarmText.f k l0 l1 = some r) :
    Calls Try.prog 12 #[.slice A0 l0.length c0, .slice A1 l1.length c1] w fun e w' => e = .returned (.bool r) ∧ Below w.heap.size w w' := by
  have HRT_ := Aside0.mk hr_
  clear hr_
  have hu25 := Try.underlying25
  have HR0 := Aside0.mk hr0
  have HC0 := Aside0.mk hc0
  clear hr0 hc0
  have HR1 := Aside0.mk hr1
  have HC1 := Aside0.mk hc1
  clear hr1 hc1
  have HB := Aside0.mk (Below.refl w.heap.size w)
  have H : (if (l0.length : Int) > 1048576 then (laws_FnFarmText.j0 k l0 l1 true) else (laws_FnFarmText.j0 k l0 l1 (decide ((l1.length : Int) > 1048576)))) = some r := h
  clear h
  have HC3 := Aside0.mk H
  clear H
  go_enter Try.func12, Try.ntmps12
  go_upto_region 1 with (fail)
  go_cut [21] (fun v21 wc => ∃ (kq : Nat) (x21_2 : Bool), v21 = .bool x21_2 ∧ Aside0 (laws_FnFarmText.j0 kq l0 l1 x21_2 = some r) ∧ Aside0 (kq ≤ k) ∧ Aside0 (Below w.heap.size w wc))
  case first =>
    have H := HC3.out
    clear HC3
    by_cases c4 : (l0.length : Int) > 1048576
    · rw [if_pos c4] at H
      have c4b0 : decide (1048576 < (l0.length : Int)) = true := decide_eq_true c4
      have c4b1 : decide (1048576 < l0.length) = true := decide_eq_true (by omega)
      clear c4
      (first | rw [c4b0] | (simp only [i64_w, i32_w]; rw [c4b0]) | skip)
      have H' := Aside0.mk H
      clear H
      go_wp2
      go_meet
      case rel => exact ⟨_, (true), (by first | rfl | (simp; done) | (simp [*]; done)), H', ⟨by first | omega | exact Nat.le_refl _⟩, ⟨by repeat (first | (with_reducible first | exact HB.out | apply below_alloc | apply pw_below_drewN | apply below_drew1) | exact HB.out)⟩⟩
    · rw [if_neg c4] at H
      have c4b0 : decide (1048576 < (l0.length : Int)) = false := decide_eq_false c4
      have c4b1 : decide (1048576 < l0.length) = false := decide_eq_false (by omega)
      clear c4
      (first | rw [c4b0] | (simp only [i64_w, i32_w]; rw [c4b0]) | skip)
      have H' := Aside0.mk H
      clear H
      go_wp2
      go_meet
      case rel => exact ⟨_, (decide ((l1.length : Int) > 1048576)), (by first | rfl | (simp; done) | (simp [*]; done)), H', ⟨by first | omega | exact Nat.le_refl _⟩, ⟨by repeat (first | (with_reducible first | exact HB.out | apply below_alloc | apply pw_below_drewN | apply below_drew1) | exact HB.out)⟩⟩
  case rest =>
    clear HC3
    try clear c1
    try clear p2
    try clear c4
    try clear c4b0
    try clear c4b1
    obtain ⟨kq, x21_2, rfl, HA, HJ2, HB⟩ := hcut
    cases kq with
    | zero => exact absurd HA.out (by simp [laws_FnFarmText.j0])
    | succ kj2 =>
      have H := HA.out
      clear HA
      simp only [laws_FnFarmText.j0] at H
      by_cases c5 : x21_2 = true
      · subst c5
        have H1 : (some true) = some r := by rw [if_pos rfl] at H; exact H
        clear H
        have H := H1
        clear H1
        obtain rfl := Option.some.inj H
        go_wp2
        go_ret
        exact ⟨by first | rfl | (simp [errW_none, errW_some] <;> rfl) | (simp [*, errW_none, errW_some] <;> rfl), by repeat (first | (with_reducible first | exact HB.out | apply below_alloc | apply pw_below_drewN | apply below_drew1) | exact HB.out)⟩
      · replace c5 := Bool.eq_false_iff.mpr c5
        subst c5
        have H1 : ((spec_DrawFarmPut.f kj2 l0).bind fun bt234 => ((impl_FarmPut.f kj2 bt234.1 bt234.2.1 bt234.2.2.1 bt234.2.2.2.1 bt234.2.2.2.2).bind fun t240 => ((impl_FarmGet.f kj2 t240).bind fun bt241 => ((spec_FarmPut.f kj2 bt234.1 bt234.2.1 bt234.2.2.1 bt234.2.2.2.1 bt234.2.2.2.2).bind fun t248 => (if t240.toList = t248.toList then ((spec_FarmOk.f bt234.1 bt234.2.1 bt234.2.2.1 bt234.2.2.2.1 bt234.2.2.2.2).bind fun t249 => (if (bt241.2.2.2.2.2 != t249) = true then (laws_FnFarmText.j1 kj2 l1 true) else (if bt241.2.2.2.2.2 = true then (laws_FnFarmText.j1 kj2 l1 (!(bt241.1 == bt234.1) || (!(bt241.2.1 == bt234.2.1) || (!(bt241.2.2.1 == bt234.2.2.1) || (!(bt241.2.2.2.1 == bt234.2.2.2.1) || (!(bt241.2.2.2.2.1 == bt234.2.2.2.2))))))) else (laws_FnFarmText.j1 kj2 l1 false)))) else (laws_FnFarmText.j1 kj2 l1 true)))))) = some r := by rw [if_neg (show ¬ (false = true) by decide)] at H; exact H
        clear H
        have H := H1
        clear H1
        replace H := Option.bind_eq_some_iff.mp H
        obtain ⟨⟨t234, t235, t236, t237, t238⟩, A60, H⟩ := H
        replace H : ((impl_FarmPut.f kj2 t234 t235 t236 t237 t238).bind fun t240 => ((impl_FarmGet.f kj2 t240).bind fun bt241 => ((spec_FarmPut.f kj2 t234 t235 t236 t237 t238).bind fun t248 => (if t240.toList = t248.toList then ((spec_FarmOk.f t234 t235 t236 t237 t238).bind fun t249 => (if (bt241.2.2.2.2.2 != t249) = true then (laws_FnFarmText.j1 kj2 l1 true) else (if bt241.2.2.2.2.2 = true then (laws_FnFarmText.j1 kj2 l1 (!(bt241.1 == t234) || (!(bt241.2.1 == t235) || (!(bt241.2.2.1 == t236) || (!(bt241.2.2.2.1 == t237) || (!(bt241.2.2.2.2.1 == t238))))))) else (laws_FnFarmText.j1 kj2 l1 false)))) else (laws_FnFarmText.j1 kj2 l1 true))))) = some r := H
        have A6 := Aside0.mk A60
        clear A60
        replace H := Option.bind_eq_some_iff.mp H
        obtain ⟨t240, A70, H⟩ := H
        replace H : ((impl_FarmGet.f kj2 t240).bind fun bt241 => ((spec_FarmPut.f kj2 t234 t235 t236 t237 t238).bind fun t248 => (if t240.toList = t248.toList then ((spec_FarmOk.f t234 t235 t236 t237 t238).bind fun t249 => (if (bt241.2.2.2.2.2 != t249) = true then (laws_FnFarmText.j1 kj2 l1 true) else (if bt241.2.2.2.2.2 = true then (laws_FnFarmText.j1 kj2 l1 (!(bt241.1 == t234) || (!(bt241.2.1 == t235) || (!(bt241.2.2.1 == t236) || (!(bt241.2.2.2.1 == t237) || (!(bt241.2.2.2.2.1 == t238))))))) else (laws_FnFarmText.j1 kj2 l1 false)))) else (laws_FnFarmText.j1 kj2 l1 true)))) = some r := H
        have A7 := Aside0.mk A70
        clear A70
        replace H := Option.bind_eq_some_iff.mp H
        obtain ⟨⟨t241, t242, t243, t244, t245, t246⟩, A80, H⟩ := H
        replace H : ((spec_FarmPut.f kj2 t234 t235 t236 t237 t238).bind fun t248 => (if t240.toList = t248.toList then ((spec_FarmOk.f t234 t235 t236 t237 t238).bind fun t249 => (if (t246 != t249) = true then (laws_FnFarmText.j1 kj2 l1 true) else (if t246 = true then (laws_FnFarmText.j1 kj2 l1 (!(t241 == t234) || (!(t242 == t235) || (!(t243 == t236) || (!(t244 == t237) || (!(t245 == t238))))))) else (laws_FnFarmText.j1 kj2 l1 false)))) else (laws_FnFarmText.j1 kj2 l1 true))) = some r := H
        have A8 := Aside0.mk A80
        clear A80
        have HC9 := Aside0.mk H
        clear H
        go_upto_region 6 with (first | ((with_reducible refine gate_callee (f := 50) rfl ?_); refine goesL_ (some 23) rfl rfl Try.func50 (by kernel_rfl) rfl #[.slice A0 l0.length c0] rfl (by (try simp only [List.map_toArray, List.map_cons, List.map_nil]); first | done | rfl | (simp only [List.length_drop, List.length_take]; rfl)) ?_; (with_reducible refine (spec_DrawFarmPut.calls kj2 _ _ l0 t234 t235 t236 t237 t238 _ ?side1 ?side2 A6.out).mono ?_); (case side1 => repeat (first | exact (Kd.C_below HR0.out HB.out) | (with_reducible refine Kd.C_alloc ?_ _) | (with_reducible refine Kd.C_drewN ?_ _) | (with_reducible refine Kd.C_drew ?_))); (case side2 => exact HC0.out); rintro e w10 ⟨rfl, hb⟩; refine ⟨_, rfl, ?_⟩; have n0_ := Aside0.mk (below_step (by repeat (first | (with_reducible first | exact HB.out | apply below_alloc | apply pw_below_drewN | apply below_drew1) | exact HB.out)) hb); clear HB; have HB := n0_; clear n0_; (try clear hb); (try clear hb2); (try clear hk); (try clear hi)) | ((with_reducible refine gate_dst (N := 5) rfl ?_); (try (refine gate_guard (by rfl) ?_; dsimp only)); refine box_event ?hg (N := 5) ?hd (cs := #[.bool false, .bool false, .bool false, .int .i64 0, .int .i64 0]) (t := 25) ?hr ?_; (case hd => rfl); (case hg => rfl); (case hr => first | (go_simp; done) | (go_simp; rfl)); intro gb239 hg w11 hbox hb; have n0_ := Aside0.mk (below_step (by repeat (first | (with_reducible first | exact HB.out | apply below_alloc | apply pw_below_drewN | apply below_drew1) | exact HB.out)) hb); have n1_ := Aside0.mk (hbox); have n2_ := Aside0.mk ((by rw [hg]; exact (below_size (by repeat (first | (with_reducible first | exact HB.out | apply below_alloc | apply pw_below_drewN | apply below_drew1) | exact HB.out))) : w.heap.size ≤ gb239)); have n3_ := Aside0.mk ((by rw [hg]; exact (below_size (by repeat (first | (with_reducible first | exact HB.out | apply below_alloc | apply pw_below_drewN | apply below_drew1) | exact HB.out))) : w.heap.size ≤ gb239)); clear HB; have HB := n0_; have BK239 := n1_; have GW239 := n2_; have GE239 := n3_; clear n0_ n1_ n2_ n3_; clear hb hbox hg; have hcz12_0 : w11.cell? ⟨gb239, 0, none⟩ = some (.bool false) := (blk_cell BK239.out 0).trans rfl; have hcz12_1 : w11.cell? ⟨gb239, 1, none⟩ = some (.bool false) := (blk_cell BK239.out 1).trans rfl; have hcz12_2 : w11.cell? ⟨gb239, 2, none⟩ = some (.bool false) := (blk_cell BK239.out 2).trans rfl; have hcz12_3 : w11.cell? ⟨gb239, 3, none⟩ = some (.int .i64 0) := (blk_cell BK239.out 3).trans rfl; have hcz12_4 : w11.cell? ⟨gb239, 4, none⟩ = some (.int .i64 0) := (blk_cell BK239.out 4).trans rfl; have hfz12_0 := blk_frozen BK239.out 0; have hfz12_1 := blk_frozen BK239.out 1; have hfz12_2 := blk_frozen BK239.out 2; have hfz12_3 := blk_frozen BK239.out 3; have hfz12_4 := blk_frozen BK239.out 4) | ((with_reducible refine gate_callee (f := 16) rfl ?_); refine goesL_ (some 25) rfl rfl Try.func16 (by kernel_rfl) rfl #[.agg #[.bool t234, .bool t235, .bool t236, .int .i64 t237, .int .i64 t238]] rfl (by (try simp only [List.map_toArray, List.map_cons, List.map_nil]); first | done | rfl | (simp only [List.length_drop, List.length_take]; rfl)) ?_; (with_reducible refine (impl_FarmPut.calls kj2 t234 t235 t236 t237 t238 t240 _ A7.out).mono ?_); rintro e w13 ⟨rfl, hb⟩; refine ⟨_, rfl, ?_⟩; have n0_ := Aside0.mk (blk_below (g := gb239) (o := .cells #[.bool t234, .bool t235, .bool t236, .int .i64 t237, .int .i64 t238] 25 (0, 0)) (by (with_reducible repeat (first | refine blk_drewN ?_ _ | refine blk_drew ?_ | refine blk_alloc ?_ _)); refine blk_put (cs := #[.bool t234, .bool t235, .bool t236, .int .i64 t237, .int .i64 0]) ?_ 4 _ rfl; (with_reducible repeat (first | refine blk_drewN ?_ _ | refine blk_drew ?_ | refine blk_alloc ?_ _)); refine blk_put (cs := #[.bool t234, .bool t235, .bool t236, .int .i64 0, .int .i64 0]) ?_ 3 _ rfl; (with_reducible repeat (first | refine blk_drewN ?_ _ | refine blk_drew ?_ | refine blk_alloc ?_ _)); refine blk_put (cs := #[.bool t234, .bool t235, .bool false, .int .i64 0, .int .i64 0]) ?_ 2 _ rfl; (with_reducible repeat (first | refine blk_drewN ?_ _ | refine blk_drew ?_ | refine blk_alloc ?_ _)); refine blk_put (cs := #[.bool t234, .bool false, .bool false, .int .i64 0, .int .i64 0]) ?_ 1 _ rfl; (with_reducible repeat (first | refine blk_drewN ?_ _ | refine blk_drew ?_ | refine blk_alloc ?_ _)); refine blk_put (cs := #[.bool false, .bool false, .bool false, .int .i64 0, .int .i64 0]) ?_ 0 _ rfl; (with_reducible repeat (first | refine blk_drewN ?_ _ | refine blk_drew ?_ | refine blk_alloc ?_ _)); exact BK239.out) hb); have n1_ := Aside0.mk (below_step (by repeat (first | (with_reducible first | exact HB.out | apply below_alloc | apply pw_below_drewN | apply below_drew1 | refine below_set ?_ GE239.out) | exact HB.out)) hb); clear BK239; clear HB; have BK239 := n0_; have HB := n1_; clear n0_ n1_; (try clear hb); (try clear hb2); (try clear hk); (try clear hi)) | ((with_reducible refine gate_callee (f := 41) rfl ?_); refine goesL_ (some 28) rfl rfl Try.func41 (by kernel_rfl) rfl #[.string t240] rfl (by (try simp only [List.map_toArray, List.map_cons, List.map_nil]); first | done | rfl | (simp only [List.length_drop, List.length_take]; rfl)) ?_; (with_reducible refine (impl_FarmGet.calls kj2 t240 t241 t242 t243 t244 t245 t246 _ A8.out).mono ?_); rintro e w14 ⟨rfl, hb⟩; refine ⟨_, rfl, ?_⟩; have n0_ := Aside0.mk (blk_below (g := gb239) (o := .cells #[.bool t234, .bool t235, .bool t236, .int .i64 t237, .int .i64 t238] 25 (0, 0)) (by (with_reducible repeat (first | refine blk_drewN ?_ _ | refine blk_drew ?_ | refine blk_alloc ?_ _)); exact BK239.out) hb); have n1_ := Aside0.mk (below_step (by repeat (first | (with_reducible first | exact HB.out | apply below_alloc | apply pw_below_drewN | apply below_drew1 | refine below_set ?_ GE239.out) | exact HB.out)) hb); clear BK239; clear HB; have BK239 := n0_; have HB := n1_; clear n0_ n1_; (try clear hb); (try clear hb2); (try clear hk); (try clear hi)) | ((with_reducible refine gate_dst (N := 7) rfl ?_); (try (refine gate_guard (by rfl) ?_; dsimp only)); refine box_event ?hg (N := 7) ?hd (cs := #[.bool false, .bool false, .bool false, .int .i64 0, .int .i64 0]) (t := 25) ?hr ?_; (case hd => rfl); (case hg => rfl); (case hr => first | (go_simp; done) | (go_simp; rfl)); intro gb247 hg w15 hbox hb; have n0_ := Aside0.mk (blk_below (g := gb239) (o := .cells #[.bool t234, .bool t235, .bool t236, .int .i64 t237, .int .i64 t238] 25 (0, 0)) (by (with_reducible repeat (first | refine blk_drewN ?_ _ | refine blk_drew ?_ | refine blk_alloc ?_ _)); exact BK239.out) hb); have n1_ := Aside0.mk (below_step (by repeat (first | (with_reducible first | exact HB.out | apply below_alloc | apply pw_below_drewN | apply below_drew1 | refine below_set ?_ GE239.out) | exact HB.out)) hb); have n2_ := Aside0.mk (hbox); have n3_ := Aside0.mk ((by rw [hg]; exact (below_size (by repeat (first | (with_reducible first | exact HB.out | apply below_alloc | apply pw_below_drewN | apply below_drew1 | refine below_set ?_ GE239.out) | exact HB.out))) : w.heap.size ≤ gb247)); have n4_ := Aside0.mk ((by rw [hg]; exact (below_size (by repeat (first | (with_reducible first | exact HB.out | apply below_alloc | apply pw_below_drewN | apply below_drew1 | refine below_set ?_ GE239.out) | exact HB.out))) : w.heap.size ≤ gb247)); have n5_ := Aside0.mk ((by rw [hg]; exact Nat.ne_of_lt (blk_lt (g := gb239) (o := .cells #[.bool t234, .bool t235, .bool t236, .int .i64 t237, .int .i64 t238] 25 (0, 0)) (by (with_reducible repeat (first | refine blk_drewN ?_ _ | refine blk_drew ?_ | refine blk_alloc ?_ _)); exact BK239.out)) : gb239 ≠ gb247)); have n6_ := Aside0.mk ((by rw [hg]; exact Nat.ne_of_gt (blk_lt (g := gb239) (o := .cells #[.bool t234, .bool t235, .bool t236, .int .i64 t237, .int .i64 t238] 25 (0, 0)) (by (with_reducible repeat (first | refine blk_drewN ?_ _ | refine blk_drew ?_ | refine blk_alloc ?_ _)); exact BK239.out)) : gb247 ≠ gb239)); clear BK239; clear HB; have BK239 := n0_; have HB := n1_; have BK247 := n2_; have GW247 := n3_; have GE247 := n4_; have NB239_247 := n5_; have NB247_239 := n6_; clear n0_ n1_ n2_ n3_ n4_ n5_ n6_; clear hb hbox hg; have hnb16 := NB247_239.out; have hnc16 := NB239_247.out; have hcz17_0 : w15.cell? ⟨gb247, 0, none⟩ = some (.bool false) := (blk_cell BK247.out 0).trans rfl; have hcz17_1 : w15.cell? ⟨gb247, 1, none⟩ = some (.bool false) := (blk_cell BK247.out 1).trans rfl; have hcz17_2 : w15.cell? ⟨gb247, 2, none⟩ = some (.bool false) := (blk_cell BK247.out 2).trans rfl; have hcz17_3 : w15.cell? ⟨gb247, 3, none⟩ = some (.int .i64 0) := (blk_cell BK247.out 3).trans rfl; have hcz17_4 : w15.cell? ⟨gb247, 4, none⟩ = some (.int .i64 0) := (blk_cell BK247.out 4).trans rfl; have hfz17_0 := blk_frozen BK247.out 0; have hfz17_1 := blk_frozen BK247.out 1; have hfz17_2 := blk_frozen BK247.out 2; have hfz17_3 := blk_frozen BK247.out 3; have hfz17_4 := blk_frozen BK247.out 4))
        (try simp only [Act.put, List.setIfInBounds_toArray, List.set_cons_zero, List.set_cons_succ])
        go_cut [48] (fun v48 wc => ∃ (kq : Nat) (x48_8 : Bool), v48 = .bool x48_8 ∧ Aside0 (laws_FnFarmText.j1 kq l1 x48_8 = some r) ∧ Aside0 (kq ≤ kj2) ∧ Aside0 (wc.heap[gb239]? = some (.cells #[.bool t234, .bool t235, .bool t236, .int .i64 t237, .int .i64 t238] 25 (0, 0))) ∧ Aside0 (wc.heap[gb247]? = some (.cells #[.bool t241, .bool t242, .bool t243, .int .i64 t244, .int .i64 t245] 25 (0, 0))) ∧ Aside0 (Below w.heap.size w wc))
        case first =>
          have H := HC9.out
          clear HC9
          replace H := Option.bind_eq_some_iff.mp H
          obtain ⟨t248, A180, H⟩ := H
          replace H : (if t240.toList = t248.toList then ((spec_FarmOk.f t234 t235 t236 t237 t238).bind fun t249 => (if (t246 != t249) = true then (laws_FnFarmText.j1 kj2 l1 true) else (if t246 = true then (laws_FnFarmText.j1 kj2 l1 (!(t241 == t234) || (!(t242 == t235) || (!(t243 == t236) || (!(t244 == t237) || (!(t245 == t238))))))) else (laws_FnFarmText.j1 kj2 l1 false)))) else (laws_FnFarmText.j1 kj2 l1 true)) = some r := H
          have A18 := Aside0.mk A180
          clear A180
          by_cases c19 : t240.toList = t248.toList
          · rw [if_pos c19] at H
            have c19b0 : (t240.toList == t248.toList) = true := beq_iff_eq.mpr c19
            have c19b1 : (t240.toList != t248.toList) = false := bne_eq_false_iff_eq.mpr c19
            clear c19
            (first | rw [c19b0] | (simp only [i64_w, i32_w]; rw [c19b0]) | skip)
            replace H := Option.bind_eq_some_iff.mp H
            obtain ⟨t249, A200, H⟩ := H
            replace H : (if (t246 != t249) = true then (laws_FnFarmText.j1 kj2 l1 true) else (if t246 = true then (laws_FnFarmText.j1 kj2 l1 (!(t241 == t234) || (!(t242 == t235) || (!(t243 == t236) || (!(t244 == t237) || (!(t245 == t238))))))) else (laws_FnFarmText.j1 kj2 l1 false))) = some r := H
            have A20 := Aside0.mk A200
            clear A200
            by_cases c21 : (t246 != t249) = true
            · rw [if_pos c21] at H
              have c21b0 : (t246 != t249) = true := c21
              (try (have c21b1 : decide (t246 = t249) = false := by simpa using c21))
              (try (have c21b2 : (t246 == t249) = false := by simpa using c21))
              (try (have c21b3 : ¬ (t246 = t249) := by simpa using c21))
              clear c21
              have H' := Aside0.mk H
              clear H
              have hnb22 := NB239_247.out
              have hnc22 := NB247_239.out
              have hcz23_0 : w15.cell? ⟨gb239, 0, none⟩ = some (.bool t234) := (blk_cell BK239.out 0).trans rfl
              have hcz23_1 : w15.cell? ⟨gb239, 1, none⟩ = some (.bool t235) := (blk_cell BK239.out 1).trans rfl
              have hcz23_2 : w15.cell? ⟨gb239, 2, none⟩ = some (.bool t236) := (blk_cell BK239.out 2).trans rfl
              have hcz23_3 : w15.cell? ⟨gb239, 3, none⟩ = some (.int .i64 t237) := (blk_cell BK239.out 3).trans rfl
              have hcz23_4 : w15.cell? ⟨gb239, 4, none⟩ = some (.int .i64 t238) := (blk_cell BK239.out 4).trans rfl
              have hfz23_0 := blk_frozen BK239.out 0
              have hfz23_1 := blk_frozen BK239.out 1
              have hfz23_2 := blk_frozen BK239.out 2
              have hfz23_3 := blk_frozen BK239.out 3
              have hfz23_4 := blk_frozen BK239.out 4
              go_wp2_with (first | ((with_reducible refine gate_callee (f := 14) rfl ?_); refine goesL_ (some 33) rfl rfl Try.func14 (by kernel_rfl) rfl #[.agg #[.bool t234, .bool t235, .bool t236, .int .i64 t237, .int .i64 t238]] rfl (by (try simp only [List.map_toArray, List.map_cons, List.map_nil]); first | done | rfl | (simp only [List.length_drop, List.length_take]; rfl)) ?_; (with_reducible refine (spec_FarmPut.calls kj2 t234 t235 t236 t237 t238 t248 _ A18.out).mono ?_); rintro e w24 ⟨rfl, hb⟩; refine ⟨_, rfl, ?_⟩; have n0_ := Aside0.mk (blk_below (g := gb239) (o := .cells #[.bool t234, .bool t235, .bool t236, .int .i64 t237, .int .i64 t238] 25 (0, 0)) (by (with_reducible repeat (first | refine blk_drewN ?_ _ | refine blk_drew ?_ | refine blk_alloc ?_ _)); refine blk_far ?_ NB239_247.out _; (with_reducible repeat (first | refine blk_drewN ?_ _ | refine blk_drew ?_ | refine blk_alloc ?_ _)); refine blk_far ?_ NB239_247.out _; (with_reducible repeat (first | refine blk_drewN ?_ _ | refine blk_drew ?_ | refine blk_alloc ?_ _)); refine blk_far ?_ NB239_247.out _; (with_reducible repeat (first | refine blk_drewN ?_ _ | refine blk_drew ?_ | refine blk_alloc ?_ _)); refine blk_far ?_ NB239_247.out _; (with_reducible repeat (first | refine blk_drewN ?_ _ | refine blk_drew ?_ | refine blk_alloc ?_ _)); refine blk_far ?_ NB239_247.out _; (with_reducible repeat (first | refine blk_drewN ?_ _ | refine blk_drew ?_ | refine blk_alloc ?_ _)); exact BK239.out) hb); have n1_ := Aside0.mk (blk_below (g := gb247) (o := .cells #[.bool t241, .bool t242, .bool t243, .int .i64 t244, .int .i64 t245] 25 (0, 0)) (by (with_reducible repeat (first | refine blk_drewN ?_ _ | refine blk_drew ?_ | refine blk_alloc ?_ _)); refine blk_put (cs := #[.bool t241, .bool t242, .bool t243, .int .i64 t244, .int .i64 0]) ?_ 4 _ rfl; (with_reducible repeat (first | refine blk_drewN ?_ _ | refine blk_drew ?_ | refine blk_alloc ?_ _)); refine blk_put (cs := #[.bool t241, .bool t242, .bool t243, .int .i64 0, .int .i64 0]) ?_ 3 _ rfl; (with_reducible repeat (first | refine blk_drewN ?_ _ | refine blk_drew ?_ | refine blk_alloc ?_ _)); refine blk_put (cs := #[.bool t241, .bool t242, .bool false, .int .i64 0, .int .i64 0]) ?_ 2 _ rfl; (with_reducible repeat (first | refine blk_drewN ?_ _ | refine blk_drew ?_ | refine blk_alloc ?_ _)); refine blk_put (cs := #[.bool t241, .bool false, .bool false, .int .i64 0, .int .i64 0]) ?_ 1 _ rfl; (with_reducible repeat (first | refine blk_drewN ?_ _ | refine blk_drew ?_ | refine blk_alloc ?_ _)); refine blk_put (cs := #[.bool false, .bool false, .bool false, .int .i64 0, .int .i64 0]) ?_ 0 _ rfl; (with_reducible repeat (first | refine blk_drewN ?_ _ | refine blk_drew ?_ | refine blk_alloc ?_ _)); exact BK247.out) hb); have n2_ := Aside0.mk (below_step (by repeat (first | (with_reducible first | exact HB.out | apply below_alloc | apply pw_below_drewN | apply below_drew1 | refine below_set ?_ GE239.out | refine below_set ?_ GE247.out) | exact HB.out)) hb); clear BK239; clear BK247; clear HB; have BK239 := n0_; have BK247 := n1_; have HB := n2_; clear n0_ n1_ n2_; (try clear hb); (try clear hb2); (try clear hk); (try clear hi); have hcz25_0 : w24.cell? ⟨gb239, 0, none⟩ = some (.bool t234) := (blk_cell BK239.out 0).trans rfl; have hcz25_1 : w24.cell? ⟨gb239, 1, none⟩ = some (.bool t235) := (blk_cell BK239.out 1).trans rfl; have hcz25_2 : w24.cell? ⟨gb239, 2, none⟩ = some (.bool t236) := (blk_cell BK239.out 2).trans rfl; have hcz25_3 : w24.cell? ⟨gb239, 3, none⟩ = some (.int .i64 t237) := (blk_cell BK239.out 3).trans rfl; have hcz25_4 : w24.cell? ⟨gb239, 4, none⟩ = some (.int .i64 t238) := (blk_cell BK239.out 4).trans rfl; have hfz25_0 := blk_frozen BK239.out 0; have hfz25_1 := blk_frozen BK239.out 1; have hfz25_2 := blk_frozen BK239.out 2; have hfz25_3 := blk_frozen BK239.out 3; have hfz25_4 := blk_frozen BK239.out 4) | (go_at_call 51; (with_reducible refine (spec_FarmOk.calls t234 t235 t236 t237 t238 t249 _ A20.out).mono ?_); rintro e w26 ⟨rfl, hb⟩; have n0_ := Aside0.mk (blk_below (g := gb239) (o := .cells #[.bool t234, .bool t235, .bool t236, .int .i64 t237, .int .i64 t238] 25 (0, 0)) (by (with_reducible repeat (first | refine blk_drewN ?_ _ | refine blk_drew ?_ | refine blk_alloc ?_ _)); exact BK239.out) hb); have n1_ := Aside0.mk (blk_below (g := gb247) (o := .cells #[.bool t241, .bool t242, .bool t243, .int .i64 t244, .int .i64 t245] 25 (0, 0)) (by (with_reducible repeat (first | refine blk_drewN ?_ _ | refine blk_drew ?_ | refine blk_alloc ?_ _)); exact BK247.out) hb); have n2_ := Aside0.mk (below_step (by repeat (first | (with_reducible first | exact HB.out | apply below_alloc | apply pw_below_drewN | apply below_drew1 | refine below_set ?_ GE239.out | refine below_set ?_ GE247.out) | exact HB.out)) hb); clear BK239; clear BK247; clear HB; have BK239 := n0_; have BK247 := n1_; have HB := n2_; clear n0_ n1_ n2_; (try clear hb); (try clear hb2); (try clear hk); (try clear hi)))
              go_meet
              case rel => exact ⟨_, (true), (by first | rfl | (simp; done) | (simp [*]; done)), H', ⟨by have := HJ2.out; first | omega | exact Nat.le_refl _⟩, ⟨by (with_reducible repeat (first | refine blk_drewN ?_ _ | refine blk_drew ?_ | refine blk_alloc ?_ _)); exact BK239.out⟩, ⟨by (with_reducible repeat (first | refine blk_drewN ?_ _ | refine blk_drew ?_ | refine blk_alloc ?_ _)); exact BK247.out⟩, ⟨by repeat (first | (with_reducible first | exact HB.out | apply below_alloc | apply pw_below_drewN | apply below_drew1 | refine below_set ?_ GE239.out | refine below_set ?_ GE247.out) | exact HB.out)⟩⟩
            · rw [if_neg c21] at H
              have c21b0 : (t246 != t249) = false := by simpa using c21
              (try (have c21b1 : decide (t246 = t249) = true := by simpa using c21))
              (try (have c21b2 : (t246 == t249) = true := by simpa using c21))
              clear c21
              by_cases c27 : t246 = true
              · subst c27
                have H1 : (laws_FnFarmText.j1 kj2 l1 (!(t241 == t234) || (!(t242 == t235) || (!(t243 == t236) || (!(t244 == t237) || (!(t245 == t238))))))) = some r := by rw [if_pos rfl] at H; exact H
                clear H
                have H := H1
                clear H1
                have H' := Aside0.mk H
                clear H
                have hnb28 := NB239_247.out
                have hnc28 := NB247_239.out
                have hcz29_0 : w15.cell? ⟨gb239, 0, none⟩ = some (.bool t234) := (blk_cell BK239.out 0).trans rfl
                have hcz29_1 : w15.cell? ⟨gb239, 1, none⟩ = some (.bool t235) := (blk_cell BK239.out 1).trans rfl
                have hcz29_2 : w15.cell? ⟨gb239, 2, none⟩ = some (.bool t236) := (blk_cell BK239.out 2).trans rfl
                have hcz29_3 : w15.cell? ⟨gb239, 3, none⟩ = some (.int .i64 t237) := (blk_cell BK239.out 3).trans rfl
                have hcz29_4 : w15.cell? ⟨gb239, 4, none⟩ = some (.int .i64 t238) := (blk_cell BK239.out 4).trans rfl
                have hfz29_0 := blk_frozen BK239.out 0
                have hfz29_1 := blk_frozen BK239.out 1
                have hfz29_2 := blk_frozen BK239.out 2
                have hfz29_3 := blk_frozen BK239.out 3
                have hfz29_4 := blk_frozen BK239.out 4
                go_wp2_with (first | ((with_reducible refine gate_callee (f := 14) rfl ?_); refine goesL_ (some 33) rfl rfl Try.func14 (by kernel_rfl) rfl #[.agg #[.bool t234, .bool t235, .bool t236, .int .i64 t237, .int .i64 t238]] rfl (by (try simp only [List.map_toArray, List.map_cons, List.map_nil]); first | done | rfl | (simp only [List.length_drop, List.length_take]; rfl)) ?_; (with_reducible refine (spec_FarmPut.calls kj2 t234 t235 t236 t237 t238 t248 _ A18.out).mono ?_); rintro e w30 ⟨rfl, hb⟩; refine ⟨_, rfl, ?_⟩; have n0_ := Aside0.mk (blk_below (g := gb239) (o := .cells #[.bool t234, .bool t235, .bool t236, .int .i64 t237, .int .i64 t238] 25 (0, 0)) (by (with_reducible repeat (first | refine blk_drewN ?_ _ | refine blk_drew ?_ | refine blk_alloc ?_ _)); refine blk_far ?_ NB239_247.out _; (with_reducible repeat (first | refine blk_drewN ?_ _ | refine blk_drew ?_ | refine blk_alloc ?_ _)); refine blk_far ?_ NB239_247.out _; (with_reducible repeat (first | refine blk_drewN ?_ _ | refine blk_drew ?_ | refine blk_alloc ?_ _)); refine blk_far ?_ NB239_247.out _; (with_reducible repeat (first | refine blk_drewN ?_ _ | refine blk_drew ?_ | refine blk_alloc ?_ _)); refine blk_far ?_ NB239_247.out _; (with_reducible repeat (first | refine blk_drewN ?_ _ | refine blk_drew ?_ | refine blk_alloc ?_ _)); refine blk_far ?_ NB239_247.out _; (with_reducible repeat (first | refine blk_drewN ?_ _ | refine blk_drew ?_ | refine blk_alloc ?_ _)); exact BK239.out) hb); have n1_ := Aside0.mk (blk_below (g := gb247) (o := .cells #[.bool t241, .bool t242, .bool t243, .int .i64 t244, .int .i64 t245] 25 (0, 0)) (by (with_reducible repeat (first | refine blk_drewN ?_ _ | refine blk_drew ?_ | refine blk_alloc ?_ _)); refine blk_put (cs := #[.bool t241, .bool t242, .bool t243, .int .i64 t244, .int .i64 0]) ?_ 4 _ rfl; (with_reducible repeat (first | refine blk_drewN ?_ _ | refine blk_drew ?_ | refine blk_alloc ?_ _)); refine blk_put (cs := #[.bool t241, .bool t242, .bool t243, .int .i64 0, .int .i64 0]) ?_ 3 _ rfl; (with_reducible repeat (first | refine blk_drewN ?_ _ | refine blk_drew ?_ | refine blk_alloc ?_ _)); refine blk_put (cs := #[.bool t241, .bool t242, .bool false, .int .i64 0, .int .i64 0]) ?_ 2 _ rfl; (with_reducible repeat (first | refine blk_drewN ?_ _ | refine blk_drew ?_ | refine blk_alloc ?_ _)); refine blk_put (cs := #[.bool t241, .bool false, .bool false, .int .i64 0, .int .i64 0]) ?_ 1 _ rfl; (with_reducible repeat (first | refine blk_drewN ?_ _ | refine blk_drew ?_ | refine blk_alloc ?_ _)); refine blk_put (cs := #[.bool false, .bool false, .bool false, .int .i64 0, .int .i64 0]) ?_ 0 _ rfl; (with_reducible repeat (first | refine blk_drewN ?_ _ | refine blk_drew ?_ | refine blk_alloc ?_ _)); exact BK247.out) hb); have n2_ := Aside0.mk (below_step (by repeat (first | (with_reducible first | exact HB.out | apply below_alloc | apply pw_below_drewN | apply below_drew1 | refine below_set ?_ GE239.out | refine below_set ?_ GE247.out) | exact HB.out)) hb); clear BK239; clear BK247; clear HB; have BK239 := n0_; have BK247 := n1_; have HB := n2_; clear n0_ n1_ n2_; (try clear hb); (try clear hb2); (try clear hk); (try clear hi); have hcz31_0 : w30.cell? ⟨gb239, 0, none⟩ = some (.bool t234) := (blk_cell BK239.out 0).trans rfl; have hcz31_1 : w30.cell? ⟨gb239, 1, none⟩ = some (.bool t235) := (blk_cell BK239.out 1).trans rfl; have hcz31_2 : w30.cell? ⟨gb239, 2, none⟩ = some (.bool t236) := (blk_cell BK239.out 2).trans rfl; have hcz31_3 : w30.cell? ⟨gb239, 3, none⟩ = some (.int .i64 t237) := (blk_cell BK239.out 3).trans rfl; have hcz31_4 : w30.cell? ⟨gb239, 4, none⟩ = some (.int .i64 t238) := (blk_cell BK239.out 4).trans rfl; have hfz31_0 := blk_frozen BK239.out 0; have hfz31_1 := blk_frozen BK239.out 1; have hfz31_2 := blk_frozen BK239.out 2; have hfz31_3 := blk_frozen BK239.out 3; have hfz31_4 := blk_frozen BK239.out 4) | (go_at_call 51; (with_reducible refine (spec_FarmOk.calls t234 t235 t236 t237 t238 t249 _ A20.out).mono ?_); rintro e w32 ⟨rfl, hb⟩; have n0_ := Aside0.mk (blk_below (g := gb239) (o := .cells #[.bool t234, .bool t235, .bool t236, .int .i64 t237, .int .i64 t238] 25 (0, 0)) (by (with_reducible repeat (first | refine blk_drewN ?_ _ | refine blk_drew ?_ | refine blk_alloc ?_ _)); exact BK239.out) hb); have n1_ := Aside0.mk (blk_below (g := gb247) (o := .cells #[.bool t241, .bool t242, .bool t243, .int .i64 t244, .int .i64 t245] 25 (0, 0)) (by (with_reducible repeat (first | refine blk_drewN ?_ _ | refine blk_drew ?_ | refine blk_alloc ?_ _)); exact BK247.out) hb); have n2_ := Aside0.mk (below_step (by repeat (first | (with_reducible first | exact HB.out | apply below_alloc | apply pw_below_drewN | apply below_drew1 | refine below_set ?_ GE239.out | refine below_set ?_ GE247.out) | exact HB.out)) hb); clear BK239; clear BK247; clear HB; have BK239 := n0_; have BK247 := n1_; have HB := n2_; clear n0_ n1_ n2_; (try clear hb); (try clear hb2); (try clear hk); (try clear hi); have hcz33_0 : w32.cell? ⟨gb247, 0, none⟩ = some (.bool t241) := (blk_cell BK247.out 0).trans rfl; have hcz33_1 : w32.cell? ⟨gb247, 1, none⟩ = some (.bool t242) := (blk_cell BK247.out 1).trans rfl; have hcz33_2 : w32.cell? ⟨gb247, 2, none⟩ = some (.bool t243) := (blk_cell BK247.out 2).trans rfl; have hcz33_3 : w32.cell? ⟨gb247, 3, none⟩ = some (.int .i64 t244) := (blk_cell BK247.out 3).trans rfl; have hcz33_4 : w32.cell? ⟨gb247, 4, none⟩ = some (.int .i64 t245) := (blk_cell BK247.out 4).trans rfl; have hfz33_0 := blk_frozen BK247.out 0; have hfz33_1 := blk_frozen BK247.out 1; have hfz33_2 := blk_frozen BK247.out 2; have hfz33_3 := blk_frozen BK247.out 3; have hfz33_4 := blk_frozen BK247.out 4; have hcz34_0 : w32.cell? ⟨gb239, 0, none⟩ = some (.bool t234) := (blk_cell BK239.out 0).trans rfl; have hcz34_1 : w32.cell? ⟨gb239, 1, none⟩ = some (.bool t235) := (blk_cell BK239.out 1).trans rfl; have hcz34_2 : w32.cell? ⟨gb239, 2, none⟩ = some (.bool t236) := (blk_cell BK239.out 2).trans rfl; have hcz34_3 : w32.cell? ⟨gb239, 3, none⟩ = some (.int .i64 t237) := (blk_cell BK239.out 3).trans rfl; have hcz34_4 : w32.cell? ⟨gb239, 4, none⟩ = some (.int .i64 t238) := (blk_cell BK239.out 4).trans rfl; have hfz34_0 := blk_frozen BK239.out 0; have hfz34_1 := blk_frozen BK239.out 1; have hfz34_2 := blk_frozen BK239.out 2; have hfz34_3 := blk_frozen BK239.out 3; have hfz34_4 := blk_frozen BK239.out 4))
                go_meet
                case rel => exact ⟨_, ((!(t241 == t234) || (!(t242 == t235) || (!(t243 == t236) || (!(t244 == t237) || (!(t245 == t238))))))), (by first | rfl | (simp; done) | (simp [*]; done)), H', ⟨by have := HJ2.out; first | omega | exact Nat.le_refl _⟩, ⟨by (with_reducible repeat (first | refine blk_drewN ?_ _ | refine blk_drew ?_ | refine blk_alloc ?_ _)); exact BK239.out⟩, ⟨by (with_reducible repeat (first | refine blk_drewN ?_ _ | refine blk_drew ?_ | refine blk_alloc ?_ _)); exact BK247.out⟩, ⟨by repeat (first | (with_reducible first | exact HB.out | apply below_alloc | apply pw_below_drewN | apply below_drew1 | refine below_set ?_ GE239.out | refine below_set ?_ GE247.out) | exact HB.out)⟩⟩
              · replace c27 := Bool.eq_false_iff.mpr c27
                subst c27
                have H1 : (laws_FnFarmText.j1 kj2 l1 false) = some r := by rw [if_neg (show ¬ (false = true) by decide)] at H; exact H
                clear H
                have H := H1
                clear H1
                have H' := Aside0.mk H
                clear H
                have hnb35 := NB239_247.out
                have hnc35 := NB247_239.out
                have hcz36_0 : w15.cell? ⟨gb239, 0, none⟩ = some (.bool t234) := (blk_cell BK239.out 0).trans rfl
                have hcz36_1 : w15.cell? ⟨gb239, 1, none⟩ = some (.bool t235) := (blk_cell BK239.out 1).trans rfl
                have hcz36_2 : w15.cell? ⟨gb239, 2, none⟩ = some (.bool t236) := (blk_cell BK239.out 2).trans rfl
                have hcz36_3 : w15.cell? ⟨gb239, 3, none⟩ = some (.int .i64 t237) := (blk_cell BK239.out 3).trans rfl
                have hcz36_4 : w15.cell? ⟨gb239, 4, none⟩ = some (.int .i64 t238) := (blk_cell BK239.out 4).trans rfl
                have hfz36_0 := blk_frozen BK239.out 0
                have hfz36_1 := blk_frozen BK239.out 1
                have hfz36_2 := blk_frozen BK239.out 2
                have hfz36_3 := blk_frozen BK239.out 3
                have hfz36_4 := blk_frozen BK239.out 4
                go_wp2_with (first | ((with_reducible refine gate_callee (f := 14) rfl ?_); refine goesL_ (some 33) rfl rfl Try.func14 (by kernel_rfl) rfl #[.agg #[.bool t234, .bool t235, .bool t236, .int .i64 t237, .int .i64 t238]] rfl (by (try simp only [List.map_toArray, List.map_cons, List.map_nil]); first | done | rfl | (simp only [List.length_drop, List.length_take]; rfl)) ?_; (with_reducible refine (spec_FarmPut.calls kj2 t234 t235 t236 t237 t238 t248 _ A18.out).mono ?_); rintro e w37 ⟨rfl, hb⟩; refine ⟨_, rfl, ?_⟩; have n0_ := Aside0.mk (blk_below (g := gb239) (o := .cells #[.bool t234, .bool t235, .bool t236, .int .i64 t237, .int .i64 t238] 25 (0, 0)) (by (with_reducible repeat (first | refine blk_drewN ?_ _ | refine blk_drew ?_ | refine blk_alloc ?_ _)); refine blk_far ?_ NB239_247.out _; (with_reducible repeat (first | refine blk_drewN ?_ _ | refine blk_drew ?_ | refine blk_alloc ?_ _)); refine blk_far ?_ NB239_247.out _; (with_reducible repeat (first | refine blk_drewN ?_ _ | refine blk_drew ?_ | refine blk_alloc ?_ _)); refine blk_far ?_ NB239_247.out _; (with_reducible repeat (first | refine blk_drewN ?_ _ | refine blk_drew ?_ | refine blk_alloc ?_ _)); refine blk_far ?_ NB239_247.out _; (with_reducible repeat (first | refine blk_drewN ?_ _ | refine blk_drew ?_ | refine blk_alloc ?_ _)); refine blk_far ?_ NB239_247.out _; (with_reducible repeat (first | refine blk_drewN ?_ _ | refine blk_drew ?_ | refine blk_alloc ?_ _)); exact BK239.out) hb); have n1_ := Aside0.mk (blk_below (g := gb247) (o := .cells #[.bool t241, .bool t242, .bool t243, .int .i64 t244, .int .i64 t245] 25 (0, 0)) (by (with_reducible repeat (first | refine blk_drewN ?_ _ | refine blk_drew ?_ | refine blk_alloc ?_ _)); refine blk_put (cs := #[.bool t241, .bool t242, .bool t243, .int .i64 t244, .int .i64 0]) ?_ 4 _ rfl; (with_reducible repeat (first | refine blk_drewN ?_ _ | refine blk_drew ?_ | refine blk_alloc ?_ _)); refine blk_put (cs := #[.bool t241, .bool t242, .bool t243, .int .i64 0, .int .i64 0]) ?_ 3 _ rfl; (with_reducible repeat (first | refine blk_drewN ?_ _ | refine blk_drew ?_ | refine blk_alloc ?_ _)); refine blk_put (cs := #[.bool t241, .bool t242, .bool false, .int .i64 0, .int .i64 0]) ?_ 2 _ rfl; (with_reducible repeat (first | refine blk_drewN ?_ _ | refine blk_drew ?_ | refine blk_alloc ?_ _)); refine blk_put (cs := #[.bool t241, .bool false, .bool false, .int .i64 0, .int .i64 0]) ?_ 1 _ rfl; (with_reducible repeat (first | refine blk_drewN ?_ _ | refine blk_drew ?_ | refine blk_alloc ?_ _)); refine blk_put (cs := #[.bool false, .bool false, .bool false, .int .i64 0, .int .i64 0]) ?_ 0 _ rfl; (with_reducible repeat (first | refine blk_drewN ?_ _ | refine blk_drew ?_ | refine blk_alloc ?_ _)); exact BK247.out) hb); have n2_ := Aside0.mk (below_step (by repeat (first | (with_reducible first | exact HB.out | apply below_alloc | apply pw_below_drewN | apply below_drew1 | refine below_set ?_ GE239.out | refine below_set ?_ GE247.out) | exact HB.out)) hb); clear BK239; clear BK247; clear HB; have BK239 := n0_; have BK247 := n1_; have HB := n2_; clear n0_ n1_ n2_; (try clear hb); (try clear hb2); (try clear hk); (try clear hi); have hcz38_0 : w37.cell? ⟨gb239, 0, none⟩ = some (.bool t234) := (blk_cell BK239.out 0).trans rfl; have hcz38_1 : w37.cell? ⟨gb239, 1, none⟩ = some (.bool t235) := (blk_cell BK239.out 1).trans rfl; have hcz38_2 : w37.cell? ⟨gb239, 2, none⟩ = some (.bool t236) := (blk_cell BK239.out 2).trans rfl; have hcz38_3 : w37.cell? ⟨gb239, 3, none⟩ = some (.int .i64 t237) := (blk_cell BK239.out 3).trans rfl; have hcz38_4 : w37.cell? ⟨gb239, 4, none⟩ = some (.int .i64 t238) := (blk_cell BK239.out 4).trans rfl; have hfz38_0 := blk_frozen BK239.out 0; have hfz38_1 := blk_frozen BK239.out 1; have hfz38_2 := blk_frozen BK239.out 2; have hfz38_3 := blk_frozen BK239.out 3; have hfz38_4 := blk_frozen BK239.out 4) | (go_at_call 51; (with_reducible refine (spec_FarmOk.calls t234 t235 t236 t237 t238 t249 _ A20.out).mono ?_); rintro e w39 ⟨rfl, hb⟩; have n0_ := Aside0.mk (blk_below (g := gb239) (o := .cells #[.bool t234, .bool t235, .bool t236, .int .i64 t237, .int .i64 t238] 25 (0, 0)) (by (with_reducible repeat (first | refine blk_drewN ?_ _ | refine blk_drew ?_ | refine blk_alloc ?_ _)); exact BK239.out) hb); have n1_ := Aside0.mk (blk_below (g := gb247) (o := .cells #[.bool t241, .bool t242, .bool t243, .int .i64 t244, .int .i64 t245] 25 (0, 0)) (by (with_reducible repeat (first | refine blk_drewN ?_ _ | refine blk_drew ?_ | refine blk_alloc ?_ _)); exact BK247.out) hb); have n2_ := Aside0.mk (below_step (by repeat (first | (with_reducible first | exact HB.out | apply below_alloc | apply pw_below_drewN | apply below_drew1 | refine below_set ?_ GE239.out | refine below_set ?_ GE247.out) | exact HB.out)) hb); clear BK239; clear BK247; clear HB; have BK239 := n0_; have BK247 := n1_; have HB := n2_; clear n0_ n1_ n2_; (try clear hb); (try clear hb2); (try clear hk); (try clear hi)))
                go_meet
                case rel => exact ⟨_, (false), (by first | rfl | (simp; done) | (simp [*]; done)), H', ⟨by have := HJ2.out; first | omega | exact Nat.le_refl _⟩, ⟨by (with_reducible repeat (first | refine blk_drewN ?_ _ | refine blk_drew ?_ | refine blk_alloc ?_ _)); exact BK239.out⟩, ⟨by (with_reducible repeat (first | refine blk_drewN ?_ _ | refine blk_drew ?_ | refine blk_alloc ?_ _)); exact BK247.out⟩, ⟨by repeat (first | (with_reducible first | exact HB.out | apply below_alloc | apply pw_below_drewN | apply below_drew1 | refine below_set ?_ GE239.out | refine below_set ?_ GE247.out) | exact HB.out)⟩⟩
          · rw [if_neg c19] at H
            have c19b0 : (t240.toList == t248.toList) = false := beq_eq_false_iff_ne.mpr c19
            have c19b1 : (t240.toList != t248.toList) = true := bne_iff_ne.mpr c19
            (first | rw [c19b0] | (simp only [i64_w, i32_w]; rw [c19b0]) | skip)
            have H' := Aside0.mk H
            clear H
            have hnb40 := NB239_247.out
            have hnc40 := NB247_239.out
            have hcz41_0 : w15.cell? ⟨gb239, 0, none⟩ = some (.bool t234) := (blk_cell BK239.out 0).trans rfl
            have hcz41_1 : w15.cell? ⟨gb239, 1, none⟩ = some (.bool t235) := (blk_cell BK239.out 1).trans rfl
            have hcz41_2 : w15.cell? ⟨gb239, 2, none⟩ = some (.bool t236) := (blk_cell BK239.out 2).trans rfl
            have hcz41_3 : w15.cell? ⟨gb239, 3, none⟩ = some (.int .i64 t237) := (blk_cell BK239.out 3).trans rfl
            have hcz41_4 : w15.cell? ⟨gb239, 4, none⟩ = some (.int .i64 t238) := (blk_cell BK239.out 4).trans rfl
            have hfz41_0 := blk_frozen BK239.out 0
            have hfz41_1 := blk_frozen BK239.out 1
            have hfz41_2 := blk_frozen BK239.out 2
            have hfz41_3 := blk_frozen BK239.out 3
            have hfz41_4 := blk_frozen BK239.out 4
            go_wp2_with (first | ((with_reducible refine gate_callee (f := 14) rfl ?_); refine goesL_ (some 33) rfl rfl Try.func14 (by kernel_rfl) rfl #[.agg #[.bool t234, .bool t235, .bool t236, .int .i64 t237, .int .i64 t238]] rfl (by (try simp only [List.map_toArray, List.map_cons, List.map_nil]); first | done | rfl | (simp only [List.length_drop, List.length_take]; rfl)) ?_; (with_reducible refine (spec_FarmPut.calls kj2 t234 t235 t236 t237 t238 t248 _ A18.out).mono ?_); rintro e w42 ⟨rfl, hb⟩; refine ⟨_, rfl, ?_⟩; have n0_ := Aside0.mk (blk_below (g := gb239) (o := .cells #[.bool t234, .bool t235, .bool t236, .int .i64 t237, .int .i64 t238] 25 (0, 0)) (by (with_reducible repeat (first | refine blk_drewN ?_ _ | refine blk_drew ?_ | refine blk_alloc ?_ _)); refine blk_far ?_ NB239_247.out _; (with_reducible repeat (first | refine blk_drewN ?_ _ | refine blk_drew ?_ | refine blk_alloc ?_ _)); refine blk_far ?_ NB239_247.out _; (with_reducible repeat (first | refine blk_drewN ?_ _ | refine blk_drew ?_ | refine blk_alloc ?_ _)); refine blk_far ?_ NB239_247.out _; (with_reducible repeat (first | refine blk_drewN ?_ _ | refine blk_drew ?_ | refine blk_alloc ?_ _)); refine blk_far ?_ NB239_247.out _; (with_reducible repeat (first | refine blk_drewN ?_ _ | refine blk_drew ?_ | refine blk_alloc ?_ _)); refine blk_far ?_ NB239_247.out _; (with_reducible repeat (first | refine blk_drewN ?_ _ | refine blk_drew ?_ | refine blk_alloc ?_ _)); exact BK239.out) hb); have n1_ := Aside0.mk (blk_below (g := gb247) (o := .cells #[.bool t241, .bool t242, .bool t243, .int .i64 t244, .int .i64 t245] 25 (0, 0)) (by (with_reducible repeat (first | refine blk_drewN ?_ _ | refine blk_drew ?_ | refine blk_alloc ?_ _)); refine blk_put (cs := #[.bool t241, .bool t242, .bool t243, .int .i64 t244, .int .i64 0]) ?_ 4 _ rfl; (with_reducible repeat (first | refine blk_drewN ?_ _ | refine blk_drew ?_ | refine blk_alloc ?_ _)); refine blk_put (cs := #[.bool t241, .bool t242, .bool t243, .int .i64 0, .int .i64 0]) ?_ 3 _ rfl; (with_reducible repeat (first | refine blk_drewN ?_ _ | refine blk_drew ?_ | refine blk_alloc ?_ _)); refine blk_put (cs := #[.bool t241, .bool t242, .bool false, .int .i64 0, .int .i64 0]) ?_ 2 _ rfl; (with_reducible repeat (first | refine blk_drewN ?_ _ | refine blk_drew ?_ | refine blk_alloc ?_ _)); refine blk_put (cs := #[.bool t241, .bool false, .bool false, .int .i64 0, .int .i64 0]) ?_ 1 _ rfl; (with_reducible repeat (first | refine blk_drewN ?_ _ | refine blk_drew ?_ | refine blk_alloc ?_ _)); refine blk_put (cs := #[.bool false, .bool false, .bool false, .int .i64 0, .int .i64 0]) ?_ 0 _ rfl; (with_reducible repeat (first | refine blk_drewN ?_ _ | refine blk_drew ?_ | refine blk_alloc ?_ _)); exact BK247.out) hb); have n2_ := Aside0.mk (below_step (by repeat (first | (with_reducible first | exact HB.out | apply below_alloc | apply pw_below_drewN | apply below_drew1 | refine below_set ?_ GE239.out | refine below_set ?_ GE247.out) | exact HB.out)) hb); clear BK239; clear BK247; clear HB; have BK239 := n0_; have BK247 := n1_; have HB := n2_; clear n0_ n1_ n2_; (try clear hb); (try clear hb2); (try clear hk); (try clear hi)))
            go_meet
            case rel => exact ⟨_, (true), (by first | rfl | (simp; done) | (simp [*]; done)), H', ⟨by have := HJ2.out; first | omega | exact Nat.le_refl _⟩, ⟨by (with_reducible repeat (first | refine blk_drewN ?_ _ | refine blk_drew ?_ | refine blk_alloc ?_ _)); exact BK239.out⟩, ⟨by (with_reducible repeat (first | refine blk_drewN ?_ _ | refine blk_drew ?_ | refine blk_alloc ?_ _)); exact BK247.out⟩, ⟨by repeat (first | (with_reducible first | exact HB.out | apply below_alloc | apply pw_below_drewN | apply below_drew1 | refine below_set ?_ GE239.out | refine below_set ?_ GE247.out) | exact HB.out)⟩⟩
        case rest =>
          clear HC9
          try clear c1
          try clear c2
          try clear p2
          try clear c3
          try clear c4
          try clear c4b0
          try clear c4b1
          try clear c5
          try clear c12
          try clear c14
          try clear c16
          try clear c19
          try clear c19b0
          try clear c19b1
          try clear c21
          try clear c21b0
          try clear c21b1
          try clear c21b2
          try clear c22
          try clear c27
          try clear c28
          try clear c35
          try clear c40
          try clear c41
          try clear hcz12_0
          try clear hcz12_1
          try clear hcz12_2
          try clear hcz12_3
          try clear hcz12_4
          try clear hcz17_0
          try clear hcz17_1
          try clear hcz17_2
          try clear hcz17_3
          try clear hcz17_4
          try clear hcz23_0
          try clear hcz23_1
          try clear hcz23_2
          try clear hcz23_3
          try clear hcz23_4
          try clear hcz25_0
          try clear hcz25_1
          try clear hcz25_2
          try clear hcz25_3
          try clear hcz25_4
          try clear hcz29_0
          try clear hcz29_1
          try clear hcz29_2
          try clear hcz29_3
          try clear hcz29_4
          try clear hcz31_0
          try clear hcz31_1
          try clear hcz31_2
          try clear hcz31_3
          try clear hcz31_4
          try clear hcz33_0
          try clear hcz33_1
          try clear hcz33_2
          try clear hcz33_3
          try clear hcz33_4
          try clear hcz34_0
          try clear hcz34_1
          try clear hcz34_2
          try clear hcz34_3
          try clear hcz34_4
          try clear hcz36_0
          try clear hcz36_1
          try clear hcz36_2
          try clear hcz36_3
          try clear hcz36_4
          try clear hcz38_0
          try clear hcz38_1
          try clear hcz38_2
          try clear hcz38_3
          try clear hcz38_4
          try clear hcz41_0
          try clear hcz41_1
          try clear hcz41_2
          try clear hcz41_3
          try clear hcz41_4
          try clear hfz12_0
          try clear hfz12_1
          try clear hfz12_2
          try clear hfz12_3
          try clear hfz12_4
          try clear hfz17_0
          try clear hfz17_1
          try clear hfz17_2
          try clear hfz17_3
          try clear hfz17_4
          try clear hfz23_0
          try clear hfz23_1
          try clear hfz23_2
          try clear hfz23_3
          try clear hfz23_4
          try clear hfz25_0
          try clear hfz25_1
          try clear hfz25_2
          try clear hfz25_3
          try clear hfz25_4
          try clear hfz29_0
          try clear hfz29_1
          try clear hfz29_2
          try clear hfz29_3
          try clear hfz29_4
          try clear hfz31_0
          try clear hfz31_1
          try clear hfz31_2
          try clear hfz31_3
          try clear hfz31_4
          try clear hfz33_0
          try clear hfz33_1
          try clear hfz33_2
          try clear hfz33_3
          try clear hfz33_4
          try clear hfz34_0
          try clear hfz34_1
          try clear hfz34_2
          try clear hfz34_3
          try clear hfz34_4
          try clear hfz36_0
          try clear hfz36_1
          try clear hfz36_2
          try clear hfz36_3
          try clear hfz36_4
          try clear hfz38_0
          try clear hfz38_1
          try clear hfz38_2
          try clear hfz38_3
          try clear hfz38_4
          try clear hfz41_0
          try clear hfz41_1
          try clear hfz41_2
          try clear hfz41_3
          try clear hfz41_4
          try clear p2
          obtain ⟨kq, x48_8, rfl, HA, HJ8, BK239, BK247, HB⟩ := hcut
          cases kq with
          | zero => exact absurd HA.out (by simp [laws_FnFarmText.j1])
          | succ kj8 =>
            have H := HA.out
            clear HA
            simp only [laws_FnFarmText.j1] at H
            by_cases c43 : x48_8 = true
            · subst c43
              have H1 : (some false) = some r := by rw [if_pos rfl] at H; exact H
              clear H
              have H := H1
              clear H1
              exact absurd ((Option.some.inj H).trans HRT_.out) (by decide)
            · replace c43 := Bool.eq_false_iff.mpr c43
              subst c43
              have H1 : ((spec_DrawFarmGet.f kj8 l1).bind fun t250 => ((impl_FarmGet.f kj8 t250).bind fun bt251 => ((spec_FarmGet.f kj8 t250).bind fun bt258 => (if (bt251.1 == bt258.1 && (bt251.2.1 == bt258.2.1 && (bt251.2.2.1 == bt258.2.2.1 && (bt251.2.2.2.1 == bt258.2.2.2.1 && (bt251.2.2.2.2.1 == bt258.2.2.2.2.1))))) = true then (if (bt251.2.2.2.2.2 == bt258.2.2.2.2.2) = true then (if bt251.2.2.2.2.2 = true then ((impl_FarmPut.f kj8 bt251.1 bt251.2.1 bt251.2.2.1 bt251.2.2.2.1 bt251.2.2.2.2.1).bind fun t265 => (some (t265.toList == t250.toList))) else (some true)) else (some false)) else (some false))))) = some r := by rw [if_neg (show ¬ (false = true) by decide)] at H; exact H
              clear H
              have H := H1
              clear H1
              replace H := Option.bind_eq_some_iff.mp H
              obtain ⟨t250, A440, H⟩ := H
              replace H : ((impl_FarmGet.f kj8 t250).bind fun bt251 => ((spec_FarmGet.f kj8 t250).bind fun bt258 => (if (bt251.1 == bt258.1 && (bt251.2.1 == bt258.2.1 && (bt251.2.2.1 == bt258.2.2.1 && (bt251.2.2.2.1 == bt258.2.2.2.1 && (bt251.2.2.2.2.1 == bt258.2.2.2.2.1))))) = true then (if (bt251.2.2.2.2.2 == bt258.2.2.2.2.2) = true then (if bt251.2.2.2.2.2 = true then ((impl_FarmPut.f kj8 bt251.1 bt251.2.1 bt251.2.2.1 bt251.2.2.2.1 bt251.2.2.2.2.1).bind fun t265 => (some (t265.toList == t250.toList))) else (some true)) else (some false)) else (some false)))) = some r := H
              have A44 := Aside0.mk A440
              clear A440
              replace H := Option.bind_eq_some_iff.mp H
              obtain ⟨⟨t251, t252, t253, t254, t255, t256⟩, A450, H⟩ := H
              replace H : ((spec_FarmGet.f kj8 t250).bind fun bt258 => (if (t251 == bt258.1 && (t252 == bt258.2.1 && (t253 == bt258.2.2.1 && (t254 == bt258.2.2.2.1 && (t255 == bt258.2.2.2.2.1))))) = true then (if (t256 == bt258.2.2.2.2.2) = true then (if t256 = true then ((impl_FarmPut.f kj8 t251 t252 t253 t254 t255).bind fun t265 => (some (t265.toList == t250.toList))) else (some true)) else (some false)) else (some false))) = some r := H
              have A45 := Aside0.mk A450
              clear A450
              replace H := Option.bind_eq_some_iff.mp H
              obtain ⟨⟨t258, t259, t260, t261, t262, t263⟩, A460, H⟩ := H
              replace H : (if (t251 == t258 && (t252 == t259 && (t253 == t260 && (t254 == t261 && (t255 == t262))))) = true then (if (t256 == t263) = true then (if t256 = true then ((impl_FarmPut.f kj8 t251 t252 t253 t254 t255).bind fun t265 => (some (t265.toList == t250.toList))) else (some true)) else (some false)) else (some false)) = some r := H
              have A46 := Aside0.mk A460
              clear A460
              by_cases c47 : (t251 == t258 && (t252 == t259 && (t253 == t260 && (t254 == t261 && (t255 == t262))))) = true
              · rw [if_pos c47] at H
                have c47b0 : (t251 == t258 && (t252 == t259 && (t253 == t260 && (t254 == t261 && (t255 == t262))))) = true := c47
                (try (have c47b1 : decide (t251 = t258 && (t252 == t259 && (t253 == t260 && (t254 == t261 && (t255 == t262))))) = true := by simpa using c47))
                (try (have c47b2 : (t251 == t258 && (t252 == t259 && (t253 == t260 && (t254 == t261 && (t255 == t262))))) = true := by simpa using c47))
                clear c47
                by_cases c48 : (t256 == t263) = true
                · rw [if_pos c48] at H
                  have c48b0 : (t256 == t263) = true := c48
                  (try (have c48b1 : decide (t256 = t263) = true := by simpa using c48))
                  (try (have c48b2 : (t256 == t263) = true := by simpa using c48))
                  clear c48
                  by_cases c49 : t256 = true
                  · subst c49
                    have H1 : ((impl_FarmPut.f kj8 t251 t252 t253 t254 t255).bind fun t265 => (some (t265.toList == t250.toList))) = some r := by rw [if_pos rfl] at H; exact H
                    clear H
                    have H := H1
                    clear H1
                    replace H := Option.bind_eq_some_iff.mp H
                    obtain ⟨t265, A500, H⟩ := H
                    replace H : (some (t265.toList == t250.toList)) = some r := H
                    have A50 := Aside0.mk A500
                    clear A500
                    obtain rfl := Option.some.inj H
                    go_wp2_with (first | ((with_reducible refine gate_callee (f := 52) rfl ?_); refine goesL_ (some 50) rfl rfl Try.func52 (by kernel_rfl) rfl #[.slice A1 l1.length c1] rfl (by (try simp only [List.map_toArray, List.map_cons, List.map_nil]); first | done | rfl | (simp only [List.length_drop, List.length_take]; rfl)) ?_; (with_reducible refine (spec_DrawFarmGet.calls kj8 _ _ l1 t250 _ ?side1 ?side2 A44.out).mono ?_); (case side1 => repeat (first | exact (Kd.C_below HR1.out HB.out) | (with_reducible refine Kd.C_alloc ?_ _) | (with_reducible refine Kd.C_drewN ?_ _) | (with_reducible refine Kd.C_drew ?_))); (case side2 => exact HC1.out); rintro e w51 ⟨rfl, hb⟩; refine ⟨_, rfl, ?_⟩; have n0_ := Aside0.mk (blk_below (g := gb239) (o := .cells #[.bool t234, .bool t235, .bool t236, .int .i64 t237, .int .i64 t238] 25 (0, 0)) (by (with_reducible repeat (first | refine blk_drewN ?_ _ | refine blk_drew ?_ | refine blk_alloc ?_ _)); exact BK239.out) hb); have n1_ := Aside0.mk (blk_below (g := gb247) (o := .cells #[.bool t241, .bool t242, .bool t243, .int .i64 t244, .int .i64 t245] 25 (0, 0)) (by (with_reducible repeat (first | refine blk_drewN ?_ _ | refine blk_drew ?_ | refine blk_alloc ?_ _)); exact BK247.out) hb); have n2_ := Aside0.mk (below_step (by repeat (first | (with_reducible first | exact HB.out | apply below_alloc | apply pw_below_drewN | apply below_drew1 | refine below_set ?_ GE239.out | refine below_set ?_ GE247.out) | exact HB.out)) hb); clear BK239; clear BK247; clear HB; have BK239 := n0_; have BK247 := n1_; have HB := n2_; clear n0_ n1_ n2_; (try clear hb); (try clear hb2); (try clear hk); (try clear hi)) | ((with_reducible refine gate_callee (f := 41) rfl ?_); refine goesL_ (some 53) rfl rfl Try.func41 (by kernel_rfl) rfl #[.string t250] rfl (by (try simp only [List.map_toArray, List.map_cons, List.map_nil]); first | done | rfl | (simp only [List.length_drop, List.length_take]; rfl)) ?_; (with_reducible refine (impl_FarmGet.calls kj8 t250 t251 t252 t253 t254 t255 true _ A45.out).mono ?_); rintro e w52 ⟨rfl, hb⟩; refine ⟨_, rfl, ?_⟩; have n0_ := Aside0.mk (blk_below (g := gb239) (o := .cells #[.bool t234, .bool t235, .bool t236, .int .i64 t237, .int .i64 t238] 25 (0, 0)) (by (with_reducible repeat (first | refine blk_drewN ?_ _ | refine blk_drew ?_ | refine blk_alloc ?_ _)); exact BK239.out) hb); have n1_ := Aside0.mk (blk_below (g := gb247) (o := .cells #[.bool t241, .bool t242, .bool t243, .int .i64 t244, .int .i64 t245] 25 (0, 0)) (by (with_reducible repeat (first | refine blk_drewN ?_ _ | refine blk_drew ?_ | refine blk_alloc ?_ _)); exact BK247.out) hb); have n2_ := Aside0.mk (below_step (by repeat (first | (with_reducible first | exact HB.out | apply below_alloc | apply pw_below_drewN | apply below_drew1 | refine below_set ?_ GE239.out | refine below_set ?_ GE247.out) | exact HB.out)) hb); clear BK239; clear BK247; clear HB; have BK239 := n0_; have BK247 := n1_; have HB := n2_; clear n0_ n1_ n2_; (try clear hb); (try clear hb2); (try clear hk); (try clear hi)) | ((with_reducible refine gate_dst (N := 10) rfl ?_); (try (refine gate_guard (by rfl) ?_; dsimp only)); refine box_event ?hg (N := 10) ?hd (cs := #[.bool false, .bool false, .bool false, .int .i64 0, .int .i64 0]) (t := 25) ?hr ?_; (case hd => rfl); (case hg => rfl); (case hr => first | (go_simp; done) | (go_simp; rfl)); intro gb257 hg w53 hbox hb; have n0_ := Aside0.mk (blk_below (g := gb239) (o := .cells #[.bool t234, .bool t235, .bool t236, .int .i64 t237, .int .i64 t238] 25 (0, 0)) (by (with_reducible repeat (first | refine blk_drewN ?_ _ | refine blk_drew ?_ | refine blk_alloc ?_ _)); exact BK239.out) hb); have n1_ := Aside0.mk (blk_below (g := gb247) (o := .cells #[.bool t241, .bool t242, .bool t243, .int .i64 t244, .int .i64 t245] 25 (0, 0)) (by (with_reducible repeat (first | refine blk_drewN ?_ _ | refine blk_drew ?_ | refine blk_alloc ?_ _)); exact BK247.out) hb); have n2_ := Aside0.mk (below_step (by repeat (first | (with_reducible first | exact HB.out | apply below_alloc | apply pw_below_drewN | apply below_drew1 | refine below_set ?_ GE239.out | refine below_set ?_ GE247.out) | exact HB.out)) hb); have n3_ := Aside0.mk (hbox); have n4_ := Aside0.mk ((by rw [hg]; exact (below_size (by repeat (first | (with_reducible first | exact HB.out | apply below_alloc | apply pw_below_drewN | apply below_drew1 | refine below_set ?_ GE239.out | refine below_set ?_ GE247.out) | exact HB.out))) : w.heap.size ≤ gb257)); have n5_ := Aside0.mk ((by rw [hg]; exact (below_size (by repeat (first | (with_reducible first | exact HB.out | apply below_alloc | apply pw_below_drewN | apply below_drew1 | refine below_set ?_ GE239.out | refine below_set ?_ GE247.out) | exact HB.out))) : w.heap.size ≤ gb257)); have n6_ := Aside0.mk ((by rw [hg]; exact Nat.ne_of_lt (blk_lt (g := gb239) (o := .cells #[.bool t234, .bool t235, .bool t236, .int .i64 t237, .int .i64 t238] 25 (0, 0)) (by (with_reducible repeat (first | refine blk_drewN ?_ _ | refine blk_drew ?_ | refine blk_alloc ?_ _)); exact BK239.out)) : gb239 ≠ gb257)); have n7_ := Aside0.mk ((by rw [hg]; exact Nat.ne_of_gt (blk_lt (g := gb239) (o := .cells #[.bool t234, .bool t235, .bool t236, .int .i64 t237, .int .i64 t238] 25 (0, 0)) (by (with_reducible repeat (first | refine blk_drewN ?_ _ | refine blk_drew ?_ | refine blk_alloc ?_ _)); exact BK239.out)) : gb257 ≠ gb239)); have n8_ := Aside0.mk ((by rw [hg]; exact Nat.ne_of_lt (blk_lt (g := gb247) (o := .cells #[.bool t241, .bool t242, .bool t243, .int .i64 t244, .int .i64 t245] 25 (0, 0)) (by (with_reducible repeat (first | refine blk_drewN ?_ _ | refine blk_drew ?_ | refine blk_alloc ?_ _)); exact BK247.out)) : gb247 ≠ gb257)); have n9_ := Aside0.mk ((by rw [hg]; exact Nat.ne_of_gt (blk_lt (g := gb247) (o := .cells #[.bool t241, .bool t242, .bool t243, .int .i64 t244, .int .i64 t245] 25 (0, 0)) (by (with_reducible repeat (first | refine blk_drewN ?_ _ | refine blk_drew ?_ | refine blk_alloc ?_ _)); exact BK247.out)) : gb257 ≠ gb247)); clear BK239; clear BK247; clear HB; have BK239 := n0_; have BK247 := n1_; have HB := n2_; have BK257 := n3_; have GW257 := n4_; have GE257 := n5_; have NB239_257 := n6_; have NB257_239 := n7_; have NB247_257 := n8_; have NB257_247 := n9_; clear n0_ n1_ n2_ n3_ n4_ n5_ n6_ n7_ n8_ n9_; clear hb hbox hg; have hnb54 := NB257_239.out; have hnc54 := NB239_257.out; have hnb55 := NB257_247.out; have hnc55 := NB247_257.out; have hcz56_0 : w53.cell? ⟨gb257, 0, none⟩ = some (.bool false) := (blk_cell BK257.out 0).trans rfl; have hcz56_1 : w53.cell? ⟨gb257, 1, none⟩ = some (.bool false) := (blk_cell BK257.out 1).trans rfl; have hcz56_2 : w53.cell? ⟨gb257, 2, none⟩ = some (.bool false) := (blk_cell BK257.out 2).trans rfl; have hcz56_3 : w53.cell? ⟨gb257, 3, none⟩ = some (.int .i64 0) := (blk_cell BK257.out 3).trans rfl; have hcz56_4 : w53.cell? ⟨gb257, 4, none⟩ = some (.int .i64 0) := (blk_cell BK257.out 4).trans rfl; have hfz56_0 := blk_frozen BK257.out 0; have hfz56_1 := blk_frozen BK257.out 1; have hfz56_2 := blk_frozen BK257.out 2; have hfz56_3 := blk_frozen BK257.out 3; have hfz56_4 := blk_frozen BK257.out 4) | ((with_reducible refine gate_callee (f := 40) rfl ?_); refine goesL_ (some 58) rfl rfl Try.func40 (by kernel_rfl) rfl #[.string t250] rfl (by (try simp only [List.map_toArray, List.map_cons, List.map_nil]); first | done | rfl | (simp only [List.length_drop, List.length_take]; rfl)) ?_; (with_reducible refine (spec_FarmGet.calls kj8 t250 t258 t259 t260 t261 t262 t263 _ A46.out).mono ?_); rintro e w57 ⟨rfl, hb⟩; refine ⟨_, rfl, ?_⟩; have n0_ := Aside0.mk (blk_below (g := gb239) (o := .cells #[.bool t234, .bool t235, .bool t236, .int .i64 t237, .int .i64 t238] 25 (0, 0)) (by (with_reducible repeat (first | refine blk_drewN ?_ _ | refine blk_drew ?_ | refine blk_alloc ?_ _)); refine blk_far ?_ NB239_257.out _; (with_reducible repeat (first | refine blk_drewN ?_ _ | refine blk_drew ?_ | refine blk_alloc ?_ _)); refine blk_far ?_ NB239_257.out _; (with_reducible repeat (first | refine blk_drewN ?_ _ | refine blk_drew ?_ | refine blk_alloc ?_ _)); refine blk_far ?_ NB239_257.out _; (with_reducible repeat (first | refine blk_drewN ?_ _ | refine blk_drew ?_ | refine blk_alloc ?_ _)); refine blk_far ?_ NB239_257.out _; (with_reducible repeat (first | refine blk_drewN ?_ _ | refine blk_drew ?_ | refine blk_alloc ?_ _)); refine blk_far ?_ NB239_257.out _; (with_reducible repeat (first | refine blk_drewN ?_ _ | refine blk_drew ?_ | refine blk_alloc ?_ _)); exact BK239.out) hb); have n1_ := Aside0.mk (blk_below (g := gb247) (o := .cells #[.bool t241, .bool t242, .bool t243, .int .i64 t244, .int .i64 t245] 25 (0, 0)) (by (with_reducible repeat (first | refine blk_drewN ?_ _ | refine blk_drew ?_ | refine blk_alloc ?_ _)); refine blk_far ?_ NB247_257.out _; (with_reducible repeat (first | refine blk_drewN ?_ _ | refine blk_drew ?_ | refine blk_alloc ?_ _)); refine blk_far ?_ NB247_257.out _; (with_reducible repeat (first | refine blk_drewN ?_ _ | refine blk_drew ?_ | refine blk_alloc ?_ _)); refine blk_far ?_ NB247_257.out _; (with_reducible repeat (first | refine blk_drewN ?_ _ | refine blk_drew ?_ | refine blk_alloc ?_ _)); refine blk_far ?_ NB247_257.out _; (with_reducible repeat (first | refine blk_drewN ?_ _ | refine blk_drew ?_ | refine blk_alloc ?_ _)); refine blk_far ?_ NB247_257.out _; (with_reducible repeat (first | refine blk_drewN ?_ _ | refine blk_drew ?_ | refine blk_alloc ?_ _)); exact BK247.out) hb); have n2_ := Aside0.mk (blk_below (g := gb257) (o := .cells #[.bool t251, .bool t252, .bool t253, .int .i64 t254, .int .i64 t255] 25 (0, 0)) (by (with_reducible repeat (first | refine blk_drewN ?_ _ | refine blk_drew ?_ | refine blk_alloc ?_ _)); refine blk_put (cs := #[.bool t251, .bool t252, .bool t253, .int .i64 t254, .int .i64 0]) ?_ 4 _ rfl; (with_reducible repeat (first | refine blk_drewN ?_ _ | refine blk_drew ?_ | refine blk_alloc ?_ _)); refine blk_put (cs := #[.bool t251, .bool t252, .bool t253, .int .i64 0, .int .i64 0]) ?_ 3 _ rfl; (with_reducible repeat (first | refine blk_drewN ?_ _ | refine blk_drew ?_ | refine blk_alloc ?_ _)); refine blk_put (cs := #[.bool t251, .bool t252, .bool false, .int .i64 0, .int .i64 0]) ?_ 2 _ rfl; (with_reducible repeat (first | refine blk_drewN ?_ _ | refine blk_drew ?_ | refine blk_alloc ?_ _)); refine blk_put (cs := #[.bool t251, .bool false, .bool false, .int .i64 0, .int .i64 0]) ?_ 1 _ rfl; (with_reducible repeat (first | refine blk_drewN ?_ _ | refine blk_drew ?_ | refine blk_alloc ?_ _)); refine blk_put (cs := #[.bool false, .bool false, .bool false, .int .i64 0, .int .i64 0]) ?_ 0 _ rfl; (with_reducible repeat (first | refine blk_drewN ?_ _ | refine blk_drew ?_ | refine blk_alloc ?_ _)); exact BK257.out) hb); have n3_ := Aside0.mk (below_step (by repeat (first | (with_reducible first | exact HB.out | apply below_alloc | apply pw_below_drewN | apply below_drew1 | refine below_set ?_ GE239.out | refine below_set ?_ GE247.out | refine below_set ?_ GE257.out) | exact HB.out)) hb); clear BK239; clear BK247; clear BK257; clear HB; have BK239 := n0_; have BK247 := n1_; have BK257 := n2_; have HB := n3_; clear n0_ n1_ n2_ n3_; (try clear hb); (try clear hb2); (try clear hk); (try clear hi)) | ((with_reducible refine gate_dst (N := 12) rfl ?_); (try (refine gate_guard (by rfl) ?_; dsimp only)); refine box_event ?hg (N := 12) ?hd (cs := #[.bool false, .bool false, .bool false, .int .i64 0, .int .i64 0]) (t := 25) ?hr ?_; (case hd => rfl); (case hg => rfl); (case hr => first | (go_simp; done) | (go_simp; rfl)); intro gb264 hg w58 hbox hb; have n0_ := Aside0.mk (blk_below (g := gb239) (o := .cells #[.bool t234, .bool t235, .bool t236, .int .i64 t237, .int .i64 t238] 25 (0, 0)) (by (with_reducible repeat (first | refine blk_drewN ?_ _ | refine blk_drew ?_ | refine blk_alloc ?_ _)); exact BK239.out) hb); have n1_ := Aside0.mk (blk_below (g := gb247) (o := .cells #[.bool t241, .bool t242, .bool t243, .int .i64 t244, .int .i64 t245] 25 (0, 0)) (by (with_reducible repeat (first | refine blk_drewN ?_ _ | refine blk_drew ?_ | refine blk_alloc ?_ _)); exact BK247.out) hb); have n2_ := Aside0.mk (blk_below (g := gb257) (o := .cells #[.bool t251, .bool t252, .bool t253, .int .i64 t254, .int .i64 t255] 25 (0, 0)) (by (with_reducible repeat (first | refine blk_drewN ?_ _ | refine blk_drew ?_ | refine blk_alloc ?_ _)); exact BK257.out) hb); have n3_ := Aside0.mk (below_step (by repeat (first | (with_reducible first | exact HB.out | apply below_alloc | apply pw_below_drewN | apply below_drew1 | refine below_set ?_ GE239.out | refine below_set ?_ GE247.out | refine below_set ?_ GE257.out) | exact HB.out)) hb); have n4_ := Aside0.mk (hbox); have n5_ := Aside0.mk ((by rw [hg]; exact (below_size (by repeat (first | (with_reducible first | exact HB.out | apply below_alloc | apply pw_below_drewN | apply below_drew1 | refine below_set ?_ GE239.out | refine below_set ?_ GE247.out | refine below_set ?_ GE257.out) | exact HB.out))) : w.heap.size ≤ gb264)); have n6_ := Aside0.mk ((by rw [hg]; exact (below_size (by repeat (first | (with_reducible first | exact HB.out | apply below_alloc | apply pw_below_drewN | apply below_drew1 | refine below_set ?_ GE239.out | refine below_set ?_ GE247.out | refine below_set ?_ GE257.out) | exact HB.out))) : w.heap.size ≤ gb264)); have n7_ := Aside0.mk ((by rw [hg]; exact Nat.ne_of_lt (blk_lt (g := gb239) (o := .cells #[.bool t234, .bool t235, .bool t236, .int .i64 t237, .int .i64 t238] 25 (0, 0)) (by (with_reducible repeat (first | refine blk_drewN ?_ _ | refine blk_drew ?_ | refine blk_alloc ?_ _)); exact BK239.out)) : gb239 ≠ gb264)); have n8_ := Aside0.mk ((by rw [hg]; exact Nat.ne_of_gt (blk_lt (g := gb239) (o := .cells #[.bool t234, .bool t235, .bool t236, .int .i64 t237, .int .i64 t238] 25 (0, 0)) (by (with_reducible repeat (first | refine blk_drewN ?_ _ | refine blk_drew ?_ | refine blk_alloc ?_ _)); exact BK239.out)) : gb264 ≠ gb239)); have n9_ := Aside0.mk ((by rw [hg]; exact Nat.ne_of_lt (blk_lt (g := gb247) (o := .cells #[.bool t241, .bool t242, .bool t243, .int .i64 t244, .int .i64 t245] 25 (0, 0)) (by (with_reducible repeat (first | refine blk_drewN ?_ _ | refine blk_drew ?_ | refine blk_alloc ?_ _)); exact BK247.out)) : gb247 ≠ gb264)); have n10_ := Aside0.mk ((by rw [hg]; exact Nat.ne_of_gt (blk_lt (g := gb247) (o := .cells #[.bool t241, .bool t242, .bool t243, .int .i64 t244, .int .i64 t245] 25 (0, 0)) (by (with_reducible repeat (first | refine blk_drewN ?_ _ | refine blk_drew ?_ | refine blk_alloc ?_ _)); exact BK247.out)) : gb264 ≠ gb247)); have n11_ := Aside0.mk ((by rw [hg]; exact Nat.ne_of_lt (blk_lt (g := gb257) (o := .cells #[.bool t251, .bool t252, .bool t253, .int .i64 t254, .int .i64 t255] 25 (0, 0)) (by (with_reducible repeat (first | refine blk_drewN ?_ _ | refine blk_drew ?_ | refine blk_alloc ?_ _)); exact BK257.out)) : gb257 ≠ gb264)); have n12_ := Aside0.mk ((by rw [hg]; exact Nat.ne_of_gt (blk_lt (g := gb257) (o := .cells #[.bool t251, .bool t252, .bool t253, .int .i64 t254, .int .i64 t255] 25 (0, 0)) (by (with_reducible repeat (first | refine blk_drewN ?_ _ | refine blk_drew ?_ | refine blk_alloc ?_ _)); exact BK257.out)) : gb264 ≠ gb257)); clear BK239; clear BK247; clear BK257; clear HB; have BK239 := n0_; have BK247 := n1_; have BK257 := n2_; have HB := n3_; have BK264 := n4_; have GW264 := n5_; have GE264 := n6_; have NB239_264 := n7_; have NB264_239 := n8_; have NB247_264 := n9_; have NB264_247 := n10_; have NB257_264 := n11_; have NB264_257 := n12_; clear n0_ n1_ n2_ n3_ n4_ n5_ n6_ n7_ n8_ n9_ n10_ n11_ n12_; clear hb hbox hg; have hnb59 := NB264_239.out; have hnc59 := NB239_264.out; have hnb60 := NB264_247.out; have hnc60 := NB247_264.out; have hnb61 := NB264_257.out; have hnc61 := NB257_264.out; have hcz62_0 : w58.cell? ⟨gb264, 0, none⟩ = some (.bool false) := (blk_cell BK264.out 0).trans rfl; have hcz62_1 : w58.cell? ⟨gb264, 1, none⟩ = some (.bool false) := (blk_cell BK264.out 1).trans rfl; have hcz62_2 : w58.cell? ⟨gb264, 2, none⟩ = some (.bool false) := (blk_cell BK264.out 2).trans rfl; have hcz62_3 : w58.cell? ⟨gb264, 3, none⟩ = some (.int .i64 0) := (blk_cell BK264.out 3).trans rfl; have hcz62_4 : w58.cell? ⟨gb264, 4, none⟩ = some (.int .i64 0) := (blk_cell BK264.out 4).trans rfl; have hfz62_0 := blk_frozen BK264.out 0; have hfz62_1 := blk_frozen BK264.out 1; have hfz62_2 := blk_frozen BK264.out 2; have hfz62_3 := blk_frozen BK264.out 3; have hfz62_4 := blk_frozen BK264.out 4; have hcz63_0 : w58.cell? ⟨gb257, 0, none⟩ = some (.bool t251) := (blk_cell BK257.out 0).trans rfl; have hcz63_1 : w58.cell? ⟨gb257, 1, none⟩ = some (.bool t252) := (blk_cell BK257.out 1).trans rfl; have hcz63_2 : w58.cell? ⟨gb257, 2, none⟩ = some (.bool t253) := (blk_cell BK257.out 2).trans rfl; have hcz63_3 : w58.cell? ⟨gb257, 3, none⟩ = some (.int .i64 t254) := (blk_cell BK257.out 3).trans rfl; have hcz63_4 : w58.cell? ⟨gb257, 4, none⟩ = some (.int .i64 t255) := (blk_cell BK257.out 4).trans rfl; have hfz63_0 := blk_frozen BK257.out 0; have hfz63_1 := blk_frozen BK257.out 1; have hfz63_2 := blk_frozen BK257.out 2; have hfz63_3 := blk_frozen BK257.out 3; have hfz63_4 := blk_frozen BK257.out 4) | (go_at_call 16; (with_reducible refine (impl_FarmPut.calls kj8 t251 t252 t253 t254 t255 t265 _ A50.out).mono ?_); rintro e w64 ⟨rfl, hb⟩; have n0_ := Aside0.mk (blk_below (g := gb239) (o := .cells #[.bool t234, .bool t235, .bool t236, .int .i64 t237, .int .i64 t238] 25 (0, 0)) (by (with_reducible repeat (first | refine blk_drewN ?_ _ | refine blk_drew ?_ | refine blk_alloc ?_ _)); refine blk_far ?_ NB239_264.out _; (with_reducible repeat (first | refine blk_drewN ?_ _ | refine blk_drew ?_ | refine blk_alloc ?_ _)); refine blk_far ?_ NB239_264.out _; (with_reducible repeat (first | refine blk_drewN ?_ _ | refine blk_drew ?_ | refine blk_alloc ?_ _)); refine blk_far ?_ NB239_264.out _; (with_reducible repeat (first | refine blk_drewN ?_ _ | refine blk_drew ?_ | refine blk_alloc ?_ _)); refine blk_far ?_ NB239_264.out _; (with_reducible repeat (first | refine blk_drewN ?_ _ | refine blk_drew ?_ | refine blk_alloc ?_ _)); refine blk_far ?_ NB239_264.out _; (with_reducible repeat (first | refine blk_drewN ?_ _ | refine blk_drew ?_ | refine blk_alloc ?_ _)); exact BK239.out) hb); have n1_ := Aside0.mk (blk_below (g := gb247) (o := .cells #[.bool t241, .bool t242, .bool t243, .int .i64 t244, .int .i64 t245] 25 (0, 0)) (by (with_reducible repeat (first | refine blk_drewN ?_ _ | refine blk_drew ?_ | refine blk_alloc ?_ _)); refine blk_far ?_ NB247_264.out _; (with_reducible repeat (first | refine blk_drewN ?_ _ | refine blk_drew ?_ | refine blk_alloc ?_ _)); refine blk_far ?_ NB247_264.out _; (with_reducible repeat (first | refine blk_drewN ?_ _ | refine blk_drew ?_ | refine blk_alloc ?_ _)); refine blk_far ?_ NB247_264.out _; (with_reducible repeat (first | refine blk_drewN ?_ _ | refine blk_drew ?_ | refine blk_alloc ?_ _)); refine blk_far ?_ NB247_264.out _; (with_reducible repeat (first | refine blk_drewN ?_ _ | refine blk_drew ?_ | refine blk_alloc ?_ _)); refine blk_far ?_ NB247_264.out _; (with_reducible repeat (first | refine blk_drewN ?_ _ | refine blk_drew ?_ | refine blk_alloc ?_ _)); exact BK247.out) hb); have n2_ := Aside0.mk (blk_below (g := gb257) (o := .cells #[.bool t251, .bool t252, .bool t253, .int .i64 t254, .int .i64 t255] 25 (0, 0)) (by (with_reducible repeat (first | refine blk_drewN ?_ _ | refine blk_drew ?_ | refine blk_alloc ?_ _)); refine blk_far ?_ NB257_264.out _; (with_reducible repeat (first | refine blk_drewN ?_ _ | refine blk_drew ?_ | refine blk_alloc ?_ _)); refine blk_far ?_ NB257_264.out _; (with_reducible repeat (first | refine blk_drewN ?_ _ | refine blk_drew ?_ | refine blk_alloc ?_ _)); refine blk_far ?_ NB257_264.out _; (with_reducible repeat (first | refine blk_drewN ?_ _ | refine blk_drew ?_ | refine blk_alloc ?_ _)); refine blk_far ?_ NB257_264.out _; (with_reducible repeat (first | refine blk_drewN ?_ _ | refine blk_drew ?_ | refine blk_alloc ?_ _)); refine blk_far ?_ NB257_264.out _; (with_reducible repeat (first | refine blk_drewN ?_ _ | refine blk_drew ?_ | refine blk_alloc ?_ _)); exact BK257.out) hb); have n3_ := Aside0.mk (blk_below (g := gb264) (o := .cells #[.bool t258, .bool t259, .bool t260, .int .i64 t261, .int .i64 t262] 25 (0, 0)) (by (with_reducible repeat (first | refine blk_drewN ?_ _ | refine blk_drew ?_ | refine blk_alloc ?_ _)); refine blk_put (cs := #[.bool t258, .bool t259, .bool t260, .int .i64 t261, .int .i64 0]) ?_ 4 _ rfl; (with_reducible repeat (first | refine blk_drewN ?_ _ | refine blk_drew ?_ | refine blk_alloc ?_ _)); refine blk_put (cs := #[.bool t258, .bool t259, .bool t260, .int .i64 0, .int .i64 0]) ?_ 3 _ rfl; (with_reducible repeat (first | refine blk_drewN ?_ _ | refine blk_drew ?_ | refine blk_alloc ?_ _)); refine blk_put (cs := #[.bool t258, .bool t259, .bool false, .int .i64 0, .int .i64 0]) ?_ 2 _ rfl; (with_reducible repeat (first | refine blk_drewN ?_ _ | refine blk_drew ?_ | refine blk_alloc ?_ _)); refine blk_put (cs := #[.bool t258, .bool false, .bool false, .int .i64 0, .int .i64 0]) ?_ 1 _ rfl; (with_reducible repeat (first | refine blk_drewN ?_ _ | refine blk_drew ?_ | refine blk_alloc ?_ _)); refine blk_put (cs := #[.bool false, .bool false, .bool false, .int .i64 0, .int .i64 0]) ?_ 0 _ rfl; (with_reducible repeat (first | refine blk_drewN ?_ _ | refine blk_drew ?_ | refine blk_alloc ?_ _)); exact BK264.out) hb); have n4_ := Aside0.mk (below_step (by repeat (first | (with_reducible first | exact HB.out | apply below_alloc | apply pw_below_drewN | apply below_drew1 | refine below_set ?_ GE239.out | refine below_set ?_ GE247.out | refine below_set ?_ GE257.out | refine below_set ?_ GE264.out) | exact HB.out)) hb); clear BK239; clear BK247; clear BK257; clear BK264; clear HB; have BK239 := n0_; have BK247 := n1_; have BK257 := n2_; have BK264 := n3_; have HB := n4_; clear n0_ n1_ n2_ n3_ n4_; (try clear hb); (try clear hb2); (try clear hk); (try clear hi)))
                    go_ret
                    exact ⟨by first | rfl | (simp [errW_none, errW_some] <;> rfl) | (simp [*, errW_none, errW_some] <;> rfl), by repeat (first | (with_reducible first | exact HB.out | apply below_alloc | apply pw_below_drewN | apply below_drew1 | refine below_set ?_ GE239.out | refine below_set ?_ GE247.out | refine below_set ?_ GE257.out | refine below_set ?_ GE264.out) | exact HB.out)⟩
                  · replace c49 := Bool.eq_false_iff.mpr c49
                    subst c49
                    have H1 : (some true) = some r := by rw [if_neg (show ¬ (false = true) by decide)] at H; exact H
                    clear H
                    have H := H1
                    clear H1
                    obtain rfl := Option.some.inj H
                    go_wp2_with (first | ((with_reducible refine gate_callee (f := 52) rfl ?_); refine goesL_ (some 50) rfl rfl Try.func52 (by kernel_rfl) rfl #[.slice A1 l1.length c1] rfl (by (try simp only [List.map_toArray, List.map_cons, List.map_nil]); first | done | rfl | (simp only [List.length_drop, List.length_take]; rfl)) ?_; (with_reducible refine (spec_DrawFarmGet.calls kj8 _ _ l1 t250 _ ?side1 ?side2 A44.out).mono ?_); (case side1 => repeat (first | exact (Kd.C_below HR1.out HB.out) | (with_reducible refine Kd.C_alloc ?_ _) | (with_reducible refine Kd.C_drewN ?_ _) | (with_reducible refine Kd.C_drew ?_))); (case side2 => exact HC1.out); rintro e w65 ⟨rfl, hb⟩; refine ⟨_, rfl, ?_⟩; have n0_ := Aside0.mk (blk_below (g := gb239) (o := .cells #[.bool t234, .bool t235, .bool t236, .int .i64 t237, .int .i64 t238] 25 (0, 0)) (by (with_reducible repeat (first | refine blk_drewN ?_ _ | refine blk_drew ?_ | refine blk_alloc ?_ _)); exact BK239.out) hb); have n1_ := Aside0.mk (blk_below (g := gb247) (o := .cells #[.bool t241, .bool t242, .bool t243, .int .i64 t244, .int .i64 t245] 25 (0, 0)) (by (with_reducible repeat (first | refine blk_drewN ?_ _ | refine blk_drew ?_ | refine blk_alloc ?_ _)); exact BK247.out) hb); have n2_ := Aside0.mk (below_step (by repeat (first | (with_reducible first | exact HB.out | apply below_alloc | apply pw_below_drewN | apply below_drew1 | refine below_set ?_ GE239.out | refine below_set ?_ GE247.out) | exact HB.out)) hb); clear BK239; clear BK247; clear HB; have BK239 := n0_; have BK247 := n1_; have HB := n2_; clear n0_ n1_ n2_; (try clear hb); (try clear hb2); (try clear hk); (try clear hi)) | ((with_reducible refine gate_callee (f := 41) rfl ?_); refine goesL_ (some 53) rfl rfl Try.func41 (by kernel_rfl) rfl #[.string t250] rfl (by (try simp only [List.map_toArray, List.map_cons, List.map_nil]); first | done | rfl | (simp only [List.length_drop, List.length_take]; rfl)) ?_; (with_reducible refine (impl_FarmGet.calls kj8 t250 t251 t252 t253 t254 t255 false _ A45.out).mono ?_); rintro e w66 ⟨rfl, hb⟩; refine ⟨_, rfl, ?_⟩; have n0_ := Aside0.mk (blk_below (g := gb239) (o := .cells #[.bool t234, .bool t235, .bool t236, .int .i64 t237, .int .i64 t238] 25 (0, 0)) (by (with_reducible repeat (first | refine blk_drewN ?_ _ | refine blk_drew ?_ | refine blk_alloc ?_ _)); exact BK239.out) hb); have n1_ := Aside0.mk (blk_below (g := gb247) (o := .cells #[.bool t241, .bool t242, .bool t243, .int .i64 t244, .int .i64 t245] 25 (0, 0)) (by (with_reducible repeat (first | refine blk_drewN ?_ _ | refine blk_drew ?_ | refine blk_alloc ?_ _)); exact BK247.out) hb); have n2_ := Aside0.mk (below_step (by repeat (first | (with_reducible first | exact HB.out | apply below_alloc | apply pw_below_drewN | apply below_drew1 | refine below_set ?_ GE239.out | refine below_set ?_ GE247.out) | exact HB.out)) hb); clear BK239; clear BK247; clear HB; have BK239 := n0_; have BK247 := n1_; have HB := n2_; clear n0_ n1_ n2_; (try clear hb); (try clear hb2); (try clear hk); (try clear hi)) | ((with_reducible refine gate_dst (N := 10) rfl ?_); (try (refine gate_guard (by rfl) ?_; dsimp only)); refine box_event ?hg (N := 10) ?hd (cs := #[.bool false, .bool false, .bool false, .int .i64 0, .int .i64 0]) (t := 25) ?hr ?_; (case hd => rfl); (case hg => rfl); (case hr => first | (go_simp; done) | (go_simp; rfl)); intro gb257 hg w67 hbox hb; have n0_ := Aside0.mk (blk_below (g := gb239) (o := .cells #[.bool t234, .bool t235, .bool t236, .int .i64 t237, .int .i64 t238] 25 (0, 0)) (by (with_reducible repeat (first | refine blk_drewN ?_ _ | refine blk_drew ?_ | refine blk_alloc ?_ _)); exact BK239.out) hb); have n1_ := Aside0.mk (blk_below (g := gb247) (o := .cells #[.bool t241, .bool t242, .bool t243, .int .i64 t244, .int .i64 t245] 25 (0, 0)) (by (with_reducible repeat (first | refine blk_drewN ?_ _ | refine blk_drew ?_ | refine blk_alloc ?_ _)); exact BK247.out) hb); have n2_ := Aside0.mk (below_step (by repeat (first | (with_reducible first | exact HB.out | apply below_alloc | apply pw_below_drewN | apply below_drew1 | refine below_set ?_ GE239.out | refine below_set ?_ GE247.out) | exact HB.out)) hb); have n3_ := Aside0.mk (hbox); have n4_ := Aside0.mk ((by rw [hg]; exact (below_size (by repeat (first | (with_reducible first | exact HB.out | apply below_alloc | apply pw_below_drewN | apply below_drew1 | refine below_set ?_ GE239.out | refine below_set ?_ GE247.out) | exact HB.out))) : w.heap.size ≤ gb257)); have n5_ := Aside0.mk ((by rw [hg]; exact (below_size (by repeat (first | (with_reducible first | exact HB.out | apply below_alloc | apply pw_below_drewN | apply below_drew1 | refine below_set ?_ GE239.out | refine below_set ?_ GE247.out) | exact HB.out))) : w.heap.size ≤ gb257)); have n6_ := Aside0.mk ((by rw [hg]; exact Nat.ne_of_lt (blk_lt (g := gb239) (o := .cells #[.bool t234, .bool t235, .bool t236, .int .i64 t237, .int .i64 t238] 25 (0, 0)) (by (with_reducible repeat (first | refine blk_drewN ?_ _ | refine blk_drew ?_ | refine blk_alloc ?_ _)); exact BK239.out)) : gb239 ≠ gb257)); have n7_ := Aside0.mk ((by rw [hg]; exact Nat.ne_of_gt (blk_lt (g := gb239) (o := .cells #[.bool t234, .bool t235, .bool t236, .int .i64 t237, .int .i64 t238] 25 (0, 0)) (by (with_reducible repeat (first | refine blk_drewN ?_ _ | refine blk_drew ?_ | refine blk_alloc ?_ _)); exact BK239.out)) : gb257 ≠ gb239)); have n8_ := Aside0.mk ((by rw [hg]; exact Nat.ne_of_lt (blk_lt (g := gb247) (o := .cells #[.bool t241, .bool t242, .bool t243, .int .i64 t244, .int .i64 t245] 25 (0, 0)) (by (with_reducible repeat (first | refine blk_drewN ?_ _ | refine blk_drew ?_ | refine blk_alloc ?_ _)); exact BK247.out)) : gb247 ≠ gb257)); have n9_ := Aside0.mk ((by rw [hg]; exact Nat.ne_of_gt (blk_lt (g := gb247) (o := .cells #[.bool t241, .bool t242, .bool t243, .int .i64 t244, .int .i64 t245] 25 (0, 0)) (by (with_reducible repeat (first | refine blk_drewN ?_ _ | refine blk_drew ?_ | refine blk_alloc ?_ _)); exact BK247.out)) : gb257 ≠ gb247)); clear BK239; clear BK247; clear HB; have BK239 := n0_; have BK247 := n1_; have HB := n2_; have BK257 := n3_; have GW257 := n4_; have GE257 := n5_; have NB239_257 := n6_; have NB257_239 := n7_; have NB247_257 := n8_; have NB257_247 := n9_; clear n0_ n1_ n2_ n3_ n4_ n5_ n6_ n7_ n8_ n9_; clear hb hbox hg; have hnb68 := NB257_239.out; have hnc68 := NB239_257.out; have hnb69 := NB257_247.out; have hnc69 := NB247_257.out; have hcz70_0 : w67.cell? ⟨gb257, 0, none⟩ = some (.bool false) := (blk_cell BK257.out 0).trans rfl; have hcz70_1 : w67.cell? ⟨gb257, 1, none⟩ = some (.bool false) := (blk_cell BK257.out 1).trans rfl; have hcz70_2 : w67.cell? ⟨gb257, 2, none⟩ = some (.bool false) := (blk_cell BK257.out 2).trans rfl; have hcz70_3 : w67.cell? ⟨gb257, 3, none⟩ = some (.int .i64 0) := (blk_cell BK257.out 3).trans rfl; have hcz70_4 : w67.cell? ⟨gb257, 4, none⟩ = some (.int .i64 0) := (blk_cell BK257.out 4).trans rfl; have hfz70_0 := blk_frozen BK257.out 0; have hfz70_1 := blk_frozen BK257.out 1; have hfz70_2 := blk_frozen BK257.out 2; have hfz70_3 := blk_frozen BK257.out 3; have hfz70_4 := blk_frozen BK257.out 4) | ((with_reducible refine gate_callee (f := 40) rfl ?_); refine goesL_ (some 58) rfl rfl Try.func40 (by kernel_rfl) rfl #[.string t250] rfl (by (try simp only [List.map_toArray, List.map_cons, List.map_nil]); first | done | rfl | (simp only [List.length_drop, List.length_take]; rfl)) ?_; (with_reducible refine (spec_FarmGet.calls kj8 t250 t258 t259 t260 t261 t262 t263 _ A46.out).mono ?_); rintro e w71 ⟨rfl, hb⟩; refine ⟨_, rfl, ?_⟩; have n0_ := Aside0.mk (blk_below (g := gb239) (o := .cells #[.bool t234, .bool t235, .bool t236, .int .i64 t237, .int .i64 t238] 25 (0, 0)) (by (with_reducible repeat (first | refine blk_drewN ?_ _ | refine blk_drew ?_ | refine blk_alloc ?_ _)); refine blk_far ?_ NB239_257.out _; (with_reducible repeat (first | refine blk_drewN ?_ _ | refine blk_drew ?_ | refine blk_alloc ?_ _)); refine blk_far ?_ NB239_257.out _; (with_reducible repeat (first | refine blk_drewN ?_ _ | refine blk_drew ?_ | refine blk_alloc ?_ _)); refine blk_far ?_ NB239_257.out _; (with_reducible repeat (first | refine blk_drewN ?_ _ | refine blk_drew ?_ | refine blk_alloc ?_ _)); refine blk_far ?_ NB239_257.out _; (with_reducible repeat (first | refine blk_drewN ?_ _ | refine blk_drew ?_ | refine blk_alloc ?_ _)); refine blk_far ?_ NB239_257.out _; (with_reducible repeat (first | refine blk_drewN ?_ _ | refine blk_drew ?_ | refine blk_alloc ?_ _)); exact BK239.out) hb); have n1_ := Aside0.mk (blk_below (g := gb247) (o := .cells #[.bool t241, .bool t242, .bool t243, .int .i64 t244, .int .i64 t245] 25 (0, 0)) (by (with_reducible repeat (first | refine blk_drewN ?_ _ | refine blk_drew ?_ | refine blk_alloc ?_ _)); refine blk_far ?_ NB247_257.out _; (with_reducible repeat (first | refine blk_drewN ?_ _ | refine blk_drew ?_ | refine blk_alloc ?_ _)); refine blk_far ?_ NB247_257.out _; (with_reducible repeat (first | refine blk_drewN ?_ _ | refine blk_drew ?_ | refine blk_alloc ?_ _)); refine blk_far ?_ NB247_257.out _; (with_reducible repeat (first | refine blk_drewN ?_ _ | refine blk_drew ?_ | refine blk_alloc ?_ _)); refine blk_far ?_ NB247_257.out _; (with_reducible repeat (first | refine blk_drewN ?_ _ | refine blk_drew ?_ | refine blk_alloc ?_ _)); refine blk_far ?_ NB247_257.out _; (with_reducible repeat (first | refine blk_drewN ?_ _ | refine blk_drew ?_ | refine blk_alloc ?_ _)); exact BK247.out) hb); have n2_ := Aside0.mk (blk_below (g := gb257) (o := .cells #[.bool t251, .bool t252, .bool t253, .int .i64 t254, .int .i64 t255] 25 (0, 0)) (by (with_reducible repeat (first | refine blk_drewN ?_ _ | refine blk_drew ?_ | refine blk_alloc ?_ _)); refine blk_put (cs := #[.bool t251, .bool t252, .bool t253, .int .i64 t254, .int .i64 0]) ?_ 4 _ rfl; (with_reducible repeat (first | refine blk_drewN ?_ _ | refine blk_drew ?_ | refine blk_alloc ?_ _)); refine blk_put (cs := #[.bool t251, .bool t252, .bool t253, .int .i64 0, .int .i64 0]) ?_ 3 _ rfl; (with_reducible repeat (first | refine blk_drewN ?_ _ | refine blk_drew ?_ | refine blk_alloc ?_ _)); refine blk_put (cs := #[.bool t251, .bool t252, .bool false, .int .i64 0, .int .i64 0]) ?_ 2 _ rfl; (with_reducible repeat (first | refine blk_drewN ?_ _ | refine blk_drew ?_ | refine blk_alloc ?_ _)); refine blk_put (cs := #[.bool t251, .bool false, .bool false, .int .i64 0, .int .i64 0]) ?_ 1 _ rfl; (with_reducible repeat (first | refine blk_drewN ?_ _ | refine blk_drew ?_ | refine blk_alloc ?_ _)); refine blk_put (cs := #[.bool false, .bool false, .bool false, .int .i64 0, .int .i64 0]) ?_ 0 _ rfl; (with_reducible repeat (first | refine blk_drewN ?_ _ | refine blk_drew ?_ | refine blk_alloc ?_ _)); exact BK257.out) hb); have n3_ := Aside0.mk (below_step (by repeat (first | (with_reducible first | exact HB.out | apply below_alloc | apply pw_below_drewN | apply below_drew1 | refine below_set ?_ GE239.out | refine below_set ?_ GE247.out | refine below_set ?_ GE257.out) | exact HB.out)) hb); clear BK239; clear BK247; clear BK257; clear HB; have BK239 := n0_; have BK247 := n1_; have BK257 := n2_; have HB := n3_; clear n0_ n1_ n2_ n3_; (try clear hb); (try clear hb2); (try clear hk); (try clear hi)) | ((with_reducible refine gate_dst (N := 12) rfl ?_); (try (refine gate_guard (by rfl) ?_; dsimp only)); refine box_event ?hg (N := 12) ?hd (cs := #[.bool false, .bool false, .bool false, .int .i64 0, .int .i64 0]) (t := 25) ?hr ?_; (case hd => rfl); (case hg => rfl); (case hr => first | (go_simp; done) | (go_simp; rfl)); intro gb264 hg w72 hbox hb; have n0_ := Aside0.mk (blk_below (g := gb239) (o := .cells #[.bool t234, .bool t235, .bool t236, .int .i64 t237, .int .i64 t238] 25 (0, 0)) (by (with_reducible repeat (first | refine blk_drewN ?_ _ | refine blk_drew ?_ | refine blk_alloc ?_ _)); exact BK239.out) hb); have n1_ := Aside0.mk (blk_below (g := gb247) (o := .cells #[.bool t241, .bool t242, .bool t243, .int .i64 t244, .int .i64 t245] 25 (0, 0)) (by (with_reducible repeat (first | refine blk_drewN ?_ _ | refine blk_drew ?_ | refine blk_alloc ?_ _)); exact BK247.out) hb); have n2_ := Aside0.mk (blk_below (g := gb257) (o := .cells #[.bool t251, .bool t252, .bool t253, .int .i64 t254, .int .i64 t255] 25 (0, 0)) (by (with_reducible repeat (first | refine blk_drewN ?_ _ | refine blk_drew ?_ | refine blk_alloc ?_ _)); exact BK257.out) hb); have n3_ := Aside0.mk (below_step (by repeat (first | (with_reducible first | exact HB.out | apply below_alloc | apply pw_below_drewN | apply below_drew1 | refine below_set ?_ GE239.out | refine below_set ?_ GE247.out | refine below_set ?_ GE257.out) | exact HB.out)) hb); have n4_ := Aside0.mk (hbox); have n5_ := Aside0.mk ((by rw [hg]; exact (below_size (by repeat (first | (with_reducible first | exact HB.out | apply below_alloc | apply pw_below_drewN | apply below_drew1 | refine below_set ?_ GE239.out | refine below_set ?_ GE247.out | refine below_set ?_ GE257.out) | exact HB.out))) : w.heap.size ≤ gb264)); have n6_ := Aside0.mk ((by rw [hg]; exact (below_size (by repeat (first | (with_reducible first | exact HB.out | apply below_alloc | apply pw_below_drewN | apply below_drew1 | refine below_set ?_ GE239.out | refine below_set ?_ GE247.out | refine below_set ?_ GE257.out) | exact HB.out))) : w.heap.size ≤ gb264)); have n7_ := Aside0.mk ((by rw [hg]; exact Nat.ne_of_lt (blk_lt (g := gb239) (o := .cells #[.bool t234, .bool t235, .bool t236, .int .i64 t237, .int .i64 t238] 25 (0, 0)) (by (with_reducible repeat (first | refine blk_drewN ?_ _ | refine blk_drew ?_ | refine blk_alloc ?_ _)); exact BK239.out)) : gb239 ≠ gb264)); have n8_ := Aside0.mk ((by rw [hg]; exact Nat.ne_of_gt (blk_lt (g := gb239) (o := .cells #[.bool t234, .bool t235, .bool t236, .int .i64 t237, .int .i64 t238] 25 (0, 0)) (by (with_reducible repeat (first | refine blk_drewN ?_ _ | refine blk_drew ?_ | refine blk_alloc ?_ _)); exact BK239.out)) : gb264 ≠ gb239)); have n9_ := Aside0.mk ((by rw [hg]; exact Nat.ne_of_lt (blk_lt (g := gb247) (o := .cells #[.bool t241, .bool t242, .bool t243, .int .i64 t244, .int .i64 t245] 25 (0, 0)) (by (with_reducible repeat (first | refine blk_drewN ?_ _ | refine blk_drew ?_ | refine blk_alloc ?_ _)); exact BK247.out)) : gb247 ≠ gb264)); have n10_ := Aside0.mk ((by rw [hg]; exact Nat.ne_of_gt (blk_lt (g := gb247) (o := .cells #[.bool t241, .bool t242, .bool t243, .int .i64 t244, .int .i64 t245] 25 (0, 0)) (by (with_reducible repeat (first | refine blk_drewN ?_ _ | refine blk_drew ?_ | refine blk_alloc ?_ _)); exact BK247.out)) : gb264 ≠ gb247)); have n11_ := Aside0.mk ((by rw [hg]; exact Nat.ne_of_lt (blk_lt (g := gb257) (o := .cells #[.bool t251, .bool t252, .bool t253, .int .i64 t254, .int .i64 t255] 25 (0, 0)) (by (with_reducible repeat (first | refine blk_drewN ?_ _ | refine blk_drew ?_ | refine blk_alloc ?_ _)); exact BK257.out)) : gb257 ≠ gb264)); have n12_ := Aside0.mk ((by rw [hg]; exact Nat.ne_of_gt (blk_lt (g := gb257) (o := .cells #[.bool t251, .bool t252, .bool t253, .int .i64 t254, .int .i64 t255] 25 (0, 0)) (by (with_reducible repeat (first | refine blk_drewN ?_ _ | refine blk_drew ?_ | refine blk_alloc ?_ _)); exact BK257.out)) : gb264 ≠ gb257)); clear BK239; clear BK247; clear BK257; clear HB; have BK239 := n0_; have BK247 := n1_; have BK257 := n2_; have HB := n3_; have BK264 := n4_; have GW264 := n5_; have GE264 := n6_; have NB239_264 := n7_; have NB264_239 := n8_; have NB247_264 := n9_; have NB264_247 := n10_; have NB257_264 := n11_; have NB264_257 := n12_; clear n0_ n1_ n2_ n3_ n4_ n5_ n6_ n7_ n8_ n9_ n10_ n11_ n12_; clear hb hbox hg; have hnb73 := NB264_239.out; have hnc73 := NB239_264.out; have hnb74 := NB264_247.out; have hnc74 := NB247_264.out; have hnb75 := NB264_257.out; have hnc75 := NB257_264.out; have hcz76_0 : w72.cell? ⟨gb264, 0, none⟩ = some (.bool false) := (blk_cell BK264.out 0).trans rfl; have hcz76_1 : w72.cell? ⟨gb264, 1, none⟩ = some (.bool false) := (blk_cell BK264.out 1).trans rfl; have hcz76_2 : w72.cell? ⟨gb264, 2, none⟩ = some (.bool false) := (blk_cell BK264.out 2).trans rfl; have hcz76_3 : w72.cell? ⟨gb264, 3, none⟩ = some (.int .i64 0) := (blk_cell BK264.out 3).trans rfl; have hcz76_4 : w72.cell? ⟨gb264, 4, none⟩ = some (.int .i64 0) := (blk_cell BK264.out 4).trans rfl; have hfz76_0 := blk_frozen BK264.out 0; have hfz76_1 := blk_frozen BK264.out 1; have hfz76_2 := blk_frozen BK264.out 2; have hfz76_3 := blk_frozen BK264.out 3; have hfz76_4 := blk_frozen BK264.out 4; have hcz77_0 : w72.cell? ⟨gb257, 0, none⟩ = some (.bool t251) := (blk_cell BK257.out 0).trans rfl; have hcz77_1 : w72.cell? ⟨gb257, 1, none⟩ = some (.bool t252) := (blk_cell BK257.out 1).trans rfl; have hcz77_2 : w72.cell? ⟨gb257, 2, none⟩ = some (.bool t253) := (blk_cell BK257.out 2).trans rfl; have hcz77_3 : w72.cell? ⟨gb257, 3, none⟩ = some (.int .i64 t254) := (blk_cell BK257.out 3).trans rfl; have hcz77_4 : w72.cell? ⟨gb257, 4, none⟩ = some (.int .i64 t255) := (blk_cell BK257.out 4).trans rfl; have hfz77_0 := blk_frozen BK257.out 0; have hfz77_1 := blk_frozen BK257.out 1; have hfz77_2 := blk_frozen BK257.out 2; have hfz77_3 := blk_frozen BK257.out 3; have hfz77_4 := blk_frozen BK257.out 4))
                    go_ret
                    exact ⟨by first | rfl | (simp [errW_none, errW_some] <;> rfl) | (simp [*, errW_none, errW_some] <;> rfl), by repeat (first | (with_reducible first | exact HB.out | apply below_alloc | apply pw_below_drewN | apply below_drew1 | refine below_set ?_ GE239.out | refine below_set ?_ GE247.out | refine below_set ?_ GE257.out | refine below_set ?_ GE264.out) | exact HB.out)⟩
                · rw [if_neg c48] at H
                  have c48b0 : (t256 == t263) = false := by simpa using c48
                  (try (have c48b1 : decide (t256 = t263) = false := by simpa using c48))
                  (try (have c48b2 : (t256 == t263) = false := by simpa using c48))
                  (try (have c48b3 : ¬ (t256 = t263) := by simpa using c48))
                  clear c48
                  exact absurd ((Option.some.inj H).trans HRT_.out) (by decide)
              · rw [if_neg c47] at H
                have c47b0 : (t251 == t258 && (t252 == t259 && (t253 == t260 && (t254 == t261 && (t255 == t262))))) = false := by simpa using c47
                (try (have c47b1 : decide (t251 = t258 && (t252 == t259 && (t253 == t260 && (t254 == t261 && (t255 == t262))))) = false := by simpa using c47))
                (try (have c47b2 : (t251 == t258 && (t252 == t259 && (t253 == t260 && (t254 == t261 && (t255 == t262))))) = false := by simpa using c47))
                (try (have c47b3 : ¬ (t251 = t258 && (t252 == t259 && (t253 == t260 && (t254 == t261 && (t255 == t262))))) := by simpa using c47))
                clear c47
                exact absurd ((Option.some.inj H).trans HRT_.out) (by decide)

/-- THE ONE PURE STATEMENT of laws_FnFarmText: yours. -/
def laws_FnFarmText.Pure : Prop := ∀ (l0 : List Int) (l1 : List Int), l0.length ≤ maxLen → l0.length * 1 ≤ 140737488351232 → (∀ x ∈ l0, (Lit.int .u8 x).wf = true) → l1.length ≤ maxLen → l1.length * 1 ≤ 140737488351232 → (∀ x ∈ l1, (Lit.int .u8 x).wf = true) → ∃ k, laws_FnFarmText.f k l0 l1 = some true
theorem laws_FnFarmText.walk (P : laws_FnFarmText.Pure) (a0 : Option Addr) (len0 cap0 : Nat) (z0 : List Int) (a1 : Option Addr) (len1 cap1 : Nat) (z1 : List Int) (w : World) (w0 : (a0 = none ∧ len0 = 0 ∧ cap0 = 0 ∧ z0 = []) ∨ ∃ x, a0 = some x ∧ len0 ≤ cap0 ∧ cap0 ≤ maxLen ∧ z0.length = cap0 ∧ (∀ i, i < z0.length → w.cell? (x.add i) = some (.int .u8 (z0.getD i 0))) ∧ ∀ n ∈ z0, (Lit.int .u8 n).wf = true) (y0 : len0 * 1 ≤ 140737488351232) (w1 : (a1 = none ∧ len1 = 0 ∧ cap1 = 0 ∧ z1 = []) ∨ ∃ x, a1 = some x ∧ len1 ≤ cap1 ∧ cap1 ≤ maxLen ∧ z1.length = cap1 ∧ (∀ i, i < z1.length → w.cell? (x.add i) = some (.int .u8 (z1.getD i 0))) ∧ ∀ n ∈ z1, (Lit.int .u8 n).wf = true) (y1 : len1 * 1 ≤ 140737488351232) :
    Calls Try.prog 12 #[.slice a0 len0 cap0, .slice a1 len1 cap1] w fun e w' => e = .returned (.bool true) ∧ Below w.heap.size w w' := by
  obtain ⟨l0, rfl, hr0, hm0, hw0, hc0⟩ := ReadsInt.ofRowC w0
  obtain ⟨l1, rfl, hr1, hm1, hw1, hc1⟩ := ReadsInt.ofRowC w1
  obtain ⟨k, h⟩ := P l0 l1 hm0 y0 hw0 hm1 y1 hw1
  refine (laws_FnFarmText.calls k _ _ l0 _ _ l1 true w (Kd.C_of_reads (d := (0 : Int)) (h1 := fun _ => rfl) hr0) hc0 (Kd.C_of_reads (d := (0 : Int)) (h1 := fun _ => rfl) hr1) hc1 rfl h).mono ?_
  rintro e w' ⟨rfl, hd⟩
  exact ⟨rfl, hd⟩

end Go.Proofs.Ytclhopldchndiaa.PFnFarmText
