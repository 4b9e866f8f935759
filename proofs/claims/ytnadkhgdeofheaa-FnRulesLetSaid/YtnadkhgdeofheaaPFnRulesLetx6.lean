-- written by a program of this session (tools/hprint.py, a turned copy of the kit print) out of the translation; Lean checks it
import Derived.Test.YtnadkhgdeofheaaPFnRulesLetx0
import Derived.Test.YtnadkhgdeofheaaPFnRulesLetx2
import Derived.Test.YtnadkhgdeofheaaPFnRulesLetx3
import Derived.Test.YtnadkhgdeofheaaPFnRulesLetx5
namespace Go.Proofs.Ytnadkhgdeofheaa.PFnRulesLet
open Go.RowKit Go.Proofs.YtnadkhgdeofheaaW.PrintWords Go.Proofs.YtnadkhgdeofheaaW.PrintLast Go.Proofs.YtnadkhgdeofheaaW.PrintMore
attribute [local go_sem] max2_int min2_int max_two min_two max_three min_three max_four min_four   -- for this text's walks alone
set_option linter.unusedVariables false
set_option linter.unusedSimpArgs false

/-! ### laws_FnRulesLet: function 3 -/
mutual
noncomputable def laws_FnRulesLet.j0 : Nat → List Int → List Int → Bool → Option (Bool)
  | 0, _, _, _ => none
  | k + 1, x0, x1, x20 => if x20 = true then (some true) else ((spec_DrawRulesLet.f k x0).bind fun bt272 => ((impl_RulesLet.f k bt272.1 bt272.2.1 bt272.2.2.1 bt272.2.2.2.1 bt272.2.2.2.2.1 bt272.2.2.2.2.2.1 bt272.2.2.2.2.2.2.1 bt272.2.2.2.2.2.2.2).bind fun t283 => ((spec_RulesLet.f k bt272.1 bt272.2.1 bt272.2.2.1 bt272.2.2.2.1 bt272.2.2.2.2.1 bt272.2.2.2.2.2.1 bt272.2.2.2.2.2.2.1 bt272.2.2.2.2.2.2.2).bind fun t284 => (if (t283 != t284) = true then (laws_FnRulesLet.j1 k x1 bt272.1 bt272.2.1 t283 true bt272.2.2.1 bt272.2.2.2.1 bt272.2.2.2.2.1 bt272.2.2.2.2.2.1 bt272.2.2.2.2.2.2.1 bt272.2.2.2.2.2.2.2) else ((impl_RulesOk.f k bt272.1).bind fun t285 => ((spec_RulesOk.f k bt272.1).bind fun t286 => (if (t285 != t286) = true then (laws_FnRulesLet.j1 k x1 bt272.1 bt272.2.1 t283 true bt272.2.2.1 bt272.2.2.2.1 bt272.2.2.2.2.1 bt272.2.2.2.2.2.1 bt272.2.2.2.2.2.2.1 bt272.2.2.2.2.2.2.2) else ((spec_RulesOk.f k bt272.1).bind fun t287 => (laws_FnRulesLet.j1 k x1 bt272.1 bt272.2.1 t283 (!t287) bt272.2.2.1 bt272.2.2.2.1 bt272.2.2.2.2.1 bt272.2.2.2.2.2.1 bt272.2.2.2.2.2.2.1 bt272.2.2.2.2.2.2.2)))))))))
noncomputable def laws_FnRulesLet.j1 : Nat → List Int → List (S31) → Int → Bool → Bool → Int → Int → Int → Int → Int → ByteArray → Option (Bool)
  | 0, _, _, _, _, _, _, _, _, _, _, _ => none
  | k + 1, x1, x5, x6, x8, x48, x283000, x283001, x283002, x283003, x283004, x283005 => if x48 = true then ((spec_RulesLet.f k x5 x6 x283000 x283001 x283002 x283003 x283004 x283005).bind fun t288 => (if (x8 == t288) = true then ((impl_RulesOk.f k x5).bind fun t289 => ((spec_RulesOk.f k x5).bind fun t290 => (some (t289 == t290)))) else (some false))) else (laws_FnRulesLet.l0 k x1 x5 x6 x8 false 0 x283000 x283001 x283002 x283003 x283004 x283005)
noncomputable def laws_FnRulesLet.l0 : Nat → List Int → List (S31) → Int → Bool → Bool → Int → Int → Int → Int → Int → Int → ByteArray → Option (Bool)
  | 0, _, _, _, _, _, _, _, _, _, _, _, _ => none
  | k + 1, x1, x5, x6, x8, x9, x10, x283000, x283001, x283002, x283003, x283004, x283005 => if x10 < (x5.length : Int) then (if 0 ≤ x10 then (if x9 = true then (laws_FnRulesLet.l0 k x1 x5 x6 x8 true (wrap64 (x10 + 1)) x283000 x283001 x283002 x283003 x283004 x283005) else (if ((rd_T31 x5 x10).f0) = x283002 then (if ((rd_T31 x5 x10).f1) = x283000 then (if ((rd_T31 x5 x10).f2) = x283003 then (if ((rd_T31 x5 x10).f3) = x283004 then (if x6 = 0 then (if (rd_T31 x5 x10).f4 = true then (laws_FnRulesLet.l0 k x1 x5 x6 x8 true (wrap64 (x10 + 1)) x283000 x283001 x283002 x283003 x283004 x283005) else (if x6 = 1 then (laws_FnRulesLet.l0 k x1 x5 x6 x8 ((rd_T31 x5 x10).f5) (wrap64 (x10 + 1)) x283000 x283001 x283002 x283003 x283004 x283005) else (laws_FnRulesLet.l0 k x1 x5 x6 x8 false (wrap64 (x10 + 1)) x283000 x283001 x283002 x283003 x283004 x283005))) else (if x6 = 1 then (laws_FnRulesLet.l0 k x1 x5 x6 x8 ((rd_T31 x5 x10).f5) (wrap64 (x10 + 1)) x283000 x283001 x283002 x283003 x283004 x283005) else (laws_FnRulesLet.l0 k x1 x5 x6 x8 false (wrap64 (x10 + 1)) x283000 x283001 x283002 x283003 x283004 x283005))) else (laws_FnRulesLet.l0 k x1 x5 x6 x8 false (wrap64 (x10 + 1)) x283000 x283001 x283002 x283003 x283004 x283005)) else (laws_FnRulesLet.l0 k x1 x5 x6 x8 false (wrap64 (x10 + 1)) x283000 x283001 x283002 x283003 x283004 x283005)) else (laws_FnRulesLet.l0 k x1 x5 x6 x8 false (wrap64 (x10 + 1)) x283000 x283001 x283002 x283003 x283004 x283005)) else (laws_FnRulesLet.l0 k x1 x5 x6 x8 false (wrap64 (x10 + 1)) x283000 x283001 x283002 x283003 x283004 x283005))) else (none)) else (if (x8 != x9) = true then (some (x8 == x9)) else (if (x5.length : Int) ≥ 12 then (some (x8 == x9)) else ((some (([] : List (S31)) : List (S31))).bind fun y293 => (if y293.length + x5.length < 3518437208883 then ((some (y293 ++ x5 : List (S31))).bind fun y296 => (if y296.length < 3518437208883 then (if x8 = true then ((impl_RulesLet.f k (y296 ++ [(⟨(x1.length : Int) % 3, 0, 0, 0, true, false⟩ : S31)]) x6 x283000 x283001 x283002 x283003 x283004 x283005).bind fun t302 => (some t302)) else (some true)) else (none))) else (none)))))
end
noncomputable def laws_FnRulesLet.f (k : Nat) (l0 : List Int) (l1 : List Int) : Option (Bool) := if (l0.length : Int) > 1048576 then (laws_FnRulesLet.j0 k l0 l1 true) else (laws_FnRulesLet.j0 k l0 l1 (decide ((l1.length : Int) > 1048576)))
theorem laws_FnRulesLet.mono_l : ∀ k, (∀ y0 y1 y2, LeO (laws_FnRulesLet.j0 k y0 y1 y2) (laws_FnRulesLet.j0 (k + 1) y0 y1 y2)) ∧ (∀ y0 y1 y2 y3 y4 y5 y6 y7 y8 y9 y10, LeO (laws_FnRulesLet.j1 k y0 y1 y2 y3 y4 y5 y6 y7 y8 y9 y10) (laws_FnRulesLet.j1 (k + 1) y0 y1 y2 y3 y4 y5 y6 y7 y8 y9 y10)) ∧ (∀ y0 y1 y2 y3 y4 y5 y6 y7 y8 y9 y10 y11, LeO (laws_FnRulesLet.l0 k y0 y1 y2 y3 y4 y5 y6 y7 y8 y9 y10 y11) (laws_FnRulesLet.l0 (k + 1) y0 y1 y2 y3 y4 y5 y6 y7 y8 y9 y10 y11))
  | 0 => ⟨fun _ _ _ r h => by simp [laws_FnRulesLet.j0] at h, fun _ _ _ _ _ _ _ _ _ _ _ r h => by simp [laws_FnRulesLet.j1] at h, fun _ _ _ _ _ _ _ _ _ _ _ _ r h => by simp [laws_FnRulesLet.l0] at h⟩
  | k + 1 => by
    obtain ⟨ih0, ih1, ih2⟩ := laws_FnRulesLet.mono_l k
    refine ⟨?_, ?_, ?_⟩
    · intro y0 y1 y2
      unfold laws_FnRulesLet.j0
      repeat' first
      | (with_reducible exact ih0 _ _ _)
      | (with_reducible exact ih1 _ _ _ _ _ _ _ _ _ _ _)
      | (with_reducible exact ih2 _ _ _ _ _ _ _ _ _ _ _ _)
      | (with_reducible exact impl_RulesLet.mono _ _ _ _ _ _ _ _ _)
      | (with_reducible exact impl_RulesOk.mono _ _)
      | (with_reducible exact spec_DrawRulesLet.mono _ _)
      | (with_reducible exact spec_RulesLet.mono _ _ _ _ _ _ _ _ _)
      | (with_reducible exact spec_RulesOk.mono _ _)
      | (with_reducible exact LeO.refl _)
      | (with_reducible exact LeO.none _)
      | (with_reducible refine LeO.ite ?_ ?_)
      | (with_reducible refine LeO.bind ?_ (fun _ => ?_))
      | exact ih0 _ _ _
      | exact ih1 _ _ _ _ _ _ _ _ _ _ _
      | exact ih2 _ _ _ _ _ _ _ _ _ _ _ _
      | exact impl_RulesLet.mono _ _ _ _ _ _ _ _ _
      | exact impl_RulesOk.mono _ _
      | exact spec_DrawRulesLet.mono _ _
      | exact spec_RulesLet.mono _ _ _ _ _ _ _ _ _
      | exact spec_RulesOk.mono _ _
      | exact LeO.none _
      | refine LeO.ite ?_ ?_
      | refine LeO.bind ?_ (fun _ => ?_)
    · intro y0 y1 y2 y3 y4 y5 y6 y7 y8 y9 y10
      unfold laws_FnRulesLet.j1
      repeat' first
      | (with_reducible exact ih0 _ _ _)
      | (with_reducible exact ih1 _ _ _ _ _ _ _ _ _ _ _)
      | (with_reducible exact ih2 _ _ _ _ _ _ _ _ _ _ _ _)
      | (with_reducible exact impl_RulesLet.mono _ _ _ _ _ _ _ _ _)
      | (with_reducible exact impl_RulesOk.mono _ _)
      | (with_reducible exact spec_DrawRulesLet.mono _ _)
      | (with_reducible exact spec_RulesLet.mono _ _ _ _ _ _ _ _ _)
      | (with_reducible exact spec_RulesOk.mono _ _)
      | (with_reducible exact LeO.refl _)
      | (with_reducible exact LeO.none _)
      | (with_reducible refine LeO.ite ?_ ?_)
      | (with_reducible refine LeO.bind ?_ (fun _ => ?_))
      | exact ih0 _ _ _
      | exact ih1 _ _ _ _ _ _ _ _ _ _ _
      | exact ih2 _ _ _ _ _ _ _ _ _ _ _ _
      | exact impl_RulesLet.mono _ _ _ _ _ _ _ _ _
      | exact impl_RulesOk.mono _ _
      | exact spec_DrawRulesLet.mono _ _
      | exact spec_RulesLet.mono _ _ _ _ _ _ _ _ _
      | exact spec_RulesOk.mono _ _
      | exact LeO.none _
      | refine LeO.ite ?_ ?_
      | refine LeO.bind ?_ (fun _ => ?_)
    · intro y0 y1 y2 y3 y4 y5 y6 y7 y8 y9 y10 y11
      unfold laws_FnRulesLet.l0
      repeat' first
      | (with_reducible exact ih0 _ _ _)
      | (with_reducible exact ih1 _ _ _ _ _ _ _ _ _ _ _)
      | (with_reducible exact ih2 _ _ _ _ _ _ _ _ _ _ _ _)
      | (with_reducible exact impl_RulesLet.mono _ _ _ _ _ _ _ _ _)
      | (with_reducible exact impl_RulesOk.mono _ _)
      | (with_reducible exact spec_DrawRulesLet.mono _ _)
      | (with_reducible exact spec_RulesLet.mono _ _ _ _ _ _ _ _ _)
      | (with_reducible exact spec_RulesOk.mono _ _)
      | (with_reducible exact LeO.refl _)
      | (with_reducible exact LeO.none _)
      | (with_reducible refine LeO.ite ?_ ?_)
      | (with_reducible refine LeO.bind ?_ (fun _ => ?_))
      | exact ih0 _ _ _
      | exact ih1 _ _ _ _ _ _ _ _ _ _ _
      | exact ih2 _ _ _ _ _ _ _ _ _ _ _ _
      | exact impl_RulesLet.mono _ _ _ _ _ _ _ _ _
      | exact impl_RulesOk.mono _ _
      | exact spec_DrawRulesLet.mono _ _
      | exact spec_RulesLet.mono _ _ _ _ _ _ _ _ _
      | exact spec_RulesOk.mono _ _
      | exact LeO.none _
      | refine LeO.ite ?_ ?_
      | refine LeO.bind ?_ (fun _ => ?_)
theorem laws_FnRulesLet.mono : ∀ a0 a1 k, LeO (laws_FnRulesLet.f k a0 a1) (laws_FnRulesLet.f (k + 1) a0 a1) := by
  intro a0 a1 k
  obtain ⟨ih0, ih1, ih2⟩ := laws_FnRulesLet.mono_l k
  unfold laws_FnRulesLet.f
  repeat' first
      | (with_reducible exact ih0 _ _ _)
      | (with_reducible exact ih1 _ _ _ _ _ _ _ _ _ _ _)
      | (with_reducible exact ih2 _ _ _ _ _ _ _ _ _ _ _ _)
      | (with_reducible exact impl_RulesLet.mono _ _ _ _ _ _ _ _ _)
      | (with_reducible exact impl_RulesOk.mono _ _)
      | (with_reducible exact spec_DrawRulesLet.mono _ _)
      | (with_reducible exact spec_RulesLet.mono _ _ _ _ _ _ _ _ _)
      | (with_reducible exact spec_RulesOk.mono _ _)
      | (with_reducible exact LeO.refl _)
      | (with_reducible exact LeO.none _)
      | (with_reducible refine LeO.ite ?_ ?_)
      | (with_reducible refine LeO.bind ?_ (fun _ => ?_))
      | exact ih0 _ _ _
      | exact ih1 _ _ _ _ _ _ _ _ _ _ _
      | exact ih2 _ _ _ _ _ _ _ _ _ _ _ _
      | exact impl_RulesLet.mono _ _ _ _ _ _ _ _ _
      | exact impl_RulesOk.mono _ _
      | exact spec_DrawRulesLet.mono _ _
      | exact spec_RulesLet.mono _ _ _ _ _ _ _ _ _
      | exact spec_RulesOk.mono _ _
      | exact LeO.none _
      | refine LeO.ite ?_ ?_
      | refine LeO.bind ?_ (fun _ => ?_)
set_option maxHeartbeats 8000000 in
set_option maxRecDepth 100000 in
theorem laws_FnRulesLet.calls (k : Nat) (A0 : Option Addr) (c0 : Nat) (l0 : List Int) (A1 : Option Addr) (c1 : Nat) (l1 : List Int) (r : Bool) (w : World) (hr0 : Kd.C (Kd.int .u8) w A0 l0.length l0) (hc0 : l0.length ≤ c0) (hr1 : Kd.C (Kd.int .u8) w A1 l1.length l1) (hc1 : l1.length ≤ c1) (hr_ : r = true) (h : laws_FnRulesLet.f k l0 l1 = some r) :
    Calls Try.prog 3 #[.slice A0 l0.length c0, .slice A1 l1.length c1] w fun e w' => e = .returned (.bool r) ∧ Below w.heap.size w w' := by
  have HRT_ := Aside0.mk hr_
  clear hr_
  have hu25 := Try.underlying25
  have hu31 := Try.underlying31
  have HR0 := Aside0.mk hr0
  have HC0 := Aside0.mk hc0
  clear hr0 hc0
  have HR1 := Aside0.mk hr1
  have HC1 := Aside0.mk hc1
  clear hr1 hc1
  have HB := Aside0.mk (Below.refl w.heap.size w)
  have H : (if (l0.length : Int) > 1048576 then (laws_FnRulesLet.j0 k l0 l1 true) else (laws_FnRulesLet.j0 k l0 l1 (decide ((l1.length : Int) > 1048576)))) = some r := h
  clear h
  have HC3 := Aside0.mk H
  clear H
  go_enter Try.func3, Try.ntmps3
  go_upto_region 1 with (fail)
  go_cut [20] (fun v20 wc => ∃ (kq : Nat) (x20_2 : Bool), v20 = .bool x20_2 ∧ Aside0 (laws_FnRulesLet.j0 kq l0 l1 x20_2 = some r) ∧ Aside0 (kq ≤ k) ∧ Aside0 (Below w.heap.size w wc))
  case first =>
    have H := HC3.out
    clear HC3
    by_cases c4 : (l0.length : Int) > 1048576
    · rw [if_pos c4] at H
      have c4b0 : decide (1048576 < (l0.length : Int)) = true := decide_eq_true c4
      have c4b1 : decide (1048576 < l0.length) = true := decide_eq_true (by omega)
      clear c4
      (first | rw [c4b0] | (simp only [i64_w, i32_w]; rw [c4b0]) | skip)
      have H' := Aside0.mk H
      clear H
      go_wp2
      go_meet
      case rel => exact ⟨_, (true), (by first | rfl | (simp; done) | (simp [*]; done)), H', ⟨by first | omega | exact Nat.le_refl _⟩, ⟨by repeat (first | (with_reducible first | exact HB.out | apply below_alloc | apply pw_below_drewN | apply below_drew1) | exact HB.out)⟩⟩
    · rw [if_neg c4] at H
      have c4b0 : decide (1048576 < (l0.length : Int)) = false := decide_eq_false c4
      have c4b1 : decide (1048576 < l0.length) = false := decide_eq_false (by omega)
      clear c4
      (first | rw [c4b0] | (simp only [i64_w, i32_w]; rw [c4b0]) | skip)
      have H' := Aside0.mk H
      clear H
      go_wp2
      go_meet
      case rel => exact ⟨_, (decide ((l1.length : Int) > 1048576)), (by first | rfl | (simp; done) | (simp [*]; done)), H', ⟨by first | omega | exact Nat.le_refl _⟩, ⟨by repeat (first | (with_reducible first | exact HB.out | apply below_alloc | apply pw_below_drewN | apply below_drew1) | exact HB.out)⟩⟩
  case rest =>
    clear HC3
    try clear c1
    try clear p2
    try clear c3
    try clear c4
    try clear c4b0
    try clear c4b1
    obtain ⟨kq, x20_2, rfl, HA, HJ2, HB⟩ := hcut
    cases kq with
    | zero => exact absurd HA.out (by simp [laws_FnRulesLet.j0])
    | succ kj2 =>
      have H := HA.out
      clear HA
      simp only [laws_FnRulesLet.j0] at H
      by_cases c5 : x20_2 = true
      · subst c5
        have H1 : (some true) = some r := by rw [if_pos rfl] at H; exact H
        clear H
        have H := H1
        clear H1
        obtain rfl := Option.some.inj H
        go_wp2
        go_ret
        exact ⟨by first | rfl | (simp [errW_none, errW_some] <;> rfl) | (simp [*, errW_none, errW_some] <;> rfl), by repeat (first | (with_reducible first | exact HB.out | apply below_alloc | apply pw_below_drewN | apply below_drew1) | exact HB.out)⟩
      · replace c5 := Bool.eq_false_iff.mpr c5
        subst c5
        have H1 : ((spec_DrawRulesLet.f kj2 l0).bind fun bt272 => ((impl_RulesLet.f kj2 bt272.1 bt272.2.1 bt272.2.2.1 bt272.2.2.2.1 bt272.2.2.2.2.1 bt272.2.2.2.2.2.1 bt272.2.2.2.2.2.2.1 bt272.2.2.2.2.2.2.2).bind fun t283 => ((spec_RulesLet.f kj2 bt272.1 bt272.2.1 bt272.2.2.1 bt272.2.2.2.1 bt272.2.2.2.2.1 bt272.2.2.2.2.2.1 bt272.2.2.2.2.2.2.1 bt272.2.2.2.2.2.2.2).bind fun t284 => (if (t283 != t284) = true then (laws_FnRulesLet.j1 kj2 l1 bt272.1 bt272.2.1 t283 true bt272.2.2.1 bt272.2.2.2.1 bt272.2.2.2.2.1 bt272.2.2.2.2.2.1 bt272.2.2.2.2.2.2.1 bt272.2.2.2.2.2.2.2) else ((impl_RulesOk.f kj2 bt272.1).bind fun t285 => ((spec_RulesOk.f kj2 bt272.1).bind fun t286 => (if (t285 != t286) = true then (laws_FnRulesLet.j1 kj2 l1 bt272.1 bt272.2.1 t283 true bt272.2.2.1 bt272.2.2.2.1 bt272.2.2.2.2.1 bt272.2.2.2.2.2.1 bt272.2.2.2.2.2.2.1 bt272.2.2.2.2.2.2.2) else ((spec_RulesOk.f kj2 bt272.1).bind fun t287 => (laws_FnRulesLet.j1 kj2 l1 bt272.1 bt272.2.1 t283 (!t287) bt272.2.2.1 bt272.2.2.2.1 bt272.2.2.2.2.1 bt272.2.2.2.2.2.1 bt272.2.2.2.2.2.2.1 bt272.2.2.2.2.2.2.2))))))))) = some r := by rw [if_neg (show ¬ (false = true) by decide)] at H; exact H
        clear H
        have H := H1
        clear H1
        replace H := Option.bind_eq_some_iff.mp H
        obtain ⟨⟨t272, t275, t276, t277, t278, t279, t280, t281⟩, A60, H⟩ := H
        replace H : ((impl_RulesLet.f kj2 t272 t275 t276 t277 t278 t279 t280 t281).bind fun t283 => ((spec_RulesLet.f kj2 t272 t275 t276 t277 t278 t279 t280 t281).bind fun t284 => (if (t283 != t284) = true then (laws_FnRulesLet.j1 kj2 l1 t272 t275 t283 true t276 t277 t278 t279 t280 t281) else ((impl_RulesOk.f kj2 t272).bind fun t285 => ((spec_RulesOk.f kj2 t272).bind fun t286 => (if (t285 != t286) = true then (laws_FnRulesLet.j1 kj2 l1 t272 t275 t283 true t276 t277 t278 t279 t280 t281) else ((spec_RulesOk.f kj2 t272).bind fun t287 => (laws_FnRulesLet.j1 kj2 l1 t272 t275 t283 (!t287) t276 t277 t278 t279 t280 t281)))))))) = some r := H
        have A6 := Aside0.mk A60
        clear A60
        replace H := Option.bind_eq_some_iff.mp H
        obtain ⟨t283, A70, H⟩ := H
        replace H : ((spec_RulesLet.f kj2 t272 t275 t276 t277 t278 t279 t280 t281).bind fun t284 => (if (t283 != t284) = true then (laws_FnRulesLet.j1 kj2 l1 t272 t275 t283 true t276 t277 t278 t279 t280 t281) else ((impl_RulesOk.f kj2 t272).bind fun t285 => ((spec_RulesOk.f kj2 t272).bind fun t286 => (if (t285 != t286) = true then (laws_FnRulesLet.j1 kj2 l1 t272 t275 t283 true t276 t277 t278 t279 t280 t281) else ((spec_RulesOk.f kj2 t272).bind fun t287 => (laws_FnRulesLet.j1 kj2 l1 t272 t275 t283 (!t287) t276 t277 t278 t279 t280 t281))))))) = some r := H
        have A7 := Aside0.mk A70
        clear A70
        have HC8 := Aside0.mk H
        clear H
        go_upto_region 5 with (first | ((with_reducible refine gate_callee (f := 7) rfl ?_); refine goesL_ (some 23) rfl rfl Try.func7 (by kernel_rfl) rfl #[.slice A0 l0.length c0] rfl (by (try simp only [List.map_toArray, List.map_cons, List.map_nil]); first | done | rfl | (simp only [List.length_drop, List.length_take]; rfl)) ?_; (with_reducible refine (spec_DrawRulesLet.calls kj2 _ _ l0 t272 t275 t276 t277 t278 t279 t280 t281 _ ?side1 ?side2 A6.out).mono ?_); (case side1 => repeat (first | exact (Kd.C_below HR0.out HB.out) | (with_reducible refine Kd.C_alloc ?_ _) | (with_reducible refine Kd.C_drewN ?_ _) | (with_reducible refine Kd.C_drew ?_))); (case side2 => exact HC0.out); rintro e w9 ⟨v273, rfl, ho0, hb⟩; refine ⟨_, rfl, ?_⟩; have n0_ := Aside0.mk (Kd.R_lower ho0 (below_size (by repeat (first | (with_reducible first | exact HB.out | apply below_alloc | apply pw_below_drewN | apply below_drew1) | exact HB.out)))); have n1_ := Aside0.mk (below_step (by repeat (first | (with_reducible first | exact HB.out | apply below_alloc | apply pw_below_drewN | apply below_drew1) | exact HB.out)) hb); clear HB; have HO274 := n0_; have HB := n1_; clear n0_ n1_; (try clear hb); (try clear hb2); (try clear hk); (try clear hi); (try clear ho0)) | ((with_reducible refine gate_dst (N := 7) rfl ?_); (try (refine gate_guard (by rfl) ?_; dsimp only)); refine box_event ?hg (N := 7) ?hd (cs := #[.int .i64 0, .int .i64 0, .int .i64 0, .int .i64 0, .int .i64 0, .string (⟨#[]⟩ : ByteArray)]) (t := 25) ?hr ?_; (case hd => rfl); (case hg => rfl); (case hr => first | (go_simp; done) | (go_simp; rfl)); intro gb282 hg w10 hbox hb; have n0_ := Aside0.mk (Kd.R_below (by (with_reducible repeat (first | apply Kd.R_alloc | apply Kd.R_drewN | apply Kd.R_drew)); exact HO274.out) hb); have n1_ := Aside0.mk (below_step (by repeat (first | (with_reducible first | exact HB.out | apply below_alloc | apply pw_below_drewN | apply below_drew1) | exact HB.out)) hb); have n2_ := Aside0.mk (hbox); have n3_ := Aside0.mk ((by rw [hg]; exact (below_size (by repeat (first | (with_reducible first | exact HB.out | apply below_alloc | apply pw_below_drewN | apply below_drew1) | exact HB.out))) : w.heap.size ≤ gb282)); have n4_ := Aside0.mk ((by rw [hg]; exact (below_size (by repeat (first | (with_reducible first | exact HB.out | apply below_alloc | apply pw_below_drewN | apply below_drew1) | exact HB.out))) : w.heap.size ≤ gb282)); clear HO274; clear HB; have HO274 := n0_; have HB := n1_; have BK282 := n2_; have GW282 := n3_; have GE282 := n4_; clear n0_ n1_ n2_ n3_ n4_; clear hb hbox hg; have hcz11_0 : w10.cell? ⟨gb282, 0, none⟩ = some (.int .i64 0) := (blk_cell BK282.out 0).trans rfl; have hcz11_1 : w10.cell? ⟨gb282, 1, none⟩ = some (.int .i64 0) := (blk_cell BK282.out 1).trans rfl; have hcz11_2 : w10.cell? ⟨gb282, 2, none⟩ = some (.int .i64 0) := (blk_cell BK282.out 2).trans rfl; have hcz11_3 : w10.cell? ⟨gb282, 3, none⟩ = some (.int .i64 0) := (blk_cell BK282.out 3).trans rfl; have hcz11_4 : w10.cell? ⟨gb282, 4, none⟩ = some (.int .i64 0) := (blk_cell BK282.out 4).trans rfl; have hcz11_5 : w10.cell? ⟨gb282, 5, none⟩ = some (.string (⟨#[]⟩ : ByteArray)) := (blk_cell BK282.out 5).trans rfl; have hfz11_0 := blk_frozen BK282.out 0; have hfz11_1 := blk_frozen BK282.out 1; have hfz11_2 := blk_frozen BK282.out 2; have hfz11_3 := blk_frozen BK282.out 3; have hfz11_4 := blk_frozen BK282.out 4; have hfz11_5 := blk_frozen BK282.out 5; obtain ⟨Ao12, co12, eo12⟩ := Kd.R_slice HO274.out; subst eo12) | ((with_reducible refine gate_callee (f := 8) rfl ?_); refine goesL_ (some 30) rfl rfl Try.func8 (by kernel_rfl) rfl #[.slice Ao12 t272.length co12, .int .i64 t275, .agg #[.int .i64 t276, .int .i64 t277, .int .i64 t278, .int .i64 t279, .int .i64 t280, .string t281]] rfl (by (try simp only [List.map_toArray, List.map_cons, List.map_nil]); first | done | rfl | (simp only [List.length_drop, List.length_take]; rfl)) ?_; (with_reducible refine (impl_RulesLet.calls kj2 _ _ t272 t275 t276 t277 t278 t279 t280 t281 t283 _ ?side1 ?side2 A7.out).mono ?_); (case side1 => refine (Kd.R_reads' (e := 31) (base := w.heap.size) (ok := fun k_ => True) (n := t272.length) (c := co12) ?_).2.2; exact (by (with_reducible repeat (first | apply Kd.R_alloc | apply Kd.R_drewN | apply Kd.R_drew)); exact (Kd.R_mono (Kd.R_far (p := ⟨gb282, 5, none⟩) (Kd.R_far (p := ⟨gb282, 4, none⟩) (Kd.R_far (p := ⟨gb282, 3, none⟩) (Kd.R_far (p := ⟨gb282, 2, none⟩) (Kd.R_far (p := ⟨gb282, 1, none⟩) (Kd.R_far (p := ⟨gb282, 0, none⟩) (Kd.R_types HO274.out BK282.out (by decide)) (fun _ hk => hk.2) (.int .i64 t276)) (fun _ hk => hk.2) (.int .i64 t277)) (fun _ hk => hk.2) (.int .i64 t278)) (fun _ hk => hk.2) (.int .i64 t279)) (fun _ hk => hk.2) (.int .i64 t280)) (fun _ hk => hk.2) (.string t281)) (fun _ h_ => h_.1)))); (case side2 => exact (Kd.R_reads' HO274.out).2.1); rintro e w13 ⟨rfl, hb⟩; refine ⟨_, rfl, ?_⟩; have n0_ := Aside0.mk (Kd.R_below (by (with_reducible repeat (first | apply Kd.R_alloc | apply Kd.R_drewN | apply Kd.R_drew)); exact (Kd.R_mono (Kd.R_far (p := ⟨gb282, 5, none⟩) (Kd.R_far (p := ⟨gb282, 4, none⟩) (Kd.R_far (p := ⟨gb282, 3, none⟩) (Kd.R_far (p := ⟨gb282, 2, none⟩) (Kd.R_far (p := ⟨gb282, 1, none⟩) (Kd.R_far (p := ⟨gb282, 0, none⟩) (Kd.R_types HO274.out BK282.out (by decide)) (fun _ hk => hk.2) (.int .i64 t276)) (fun _ hk => hk.2) (.int .i64 t277)) (fun _ hk => hk.2) (.int .i64 t278)) (fun _ hk => hk.2) (.int .i64 t279)) (fun _ hk => hk.2) (.int .i64 t280)) (fun _ hk => hk.2) (.string t281)) (fun _ h_ => h_.1))) hb); have n1_ := Aside0.mk (blk_below (g := gb282) (o := .cells #[.int .i64 t276, .int .i64 t277, .int .i64 t278, .int .i64 t279, .int .i64 t280, .string t281] 25 (0, 0)) (by (with_reducible repeat (first | refine blk_drewN ?_ _ | refine blk_drew ?_ | refine blk_alloc ?_ _)); refine blk_put (cs := #[.int .i64 t276, .int .i64 t277, .int .i64 t278, .int .i64 t279, .int .i64 t280, .string (⟨#[]⟩ : ByteArray)]) ?_ 5 _ rfl; (with_reducible repeat (first | refine blk_drewN ?_ _ | refine blk_drew ?_ | refine blk_alloc ?_ _)); refine blk_put (cs := #[.int .i64 t276, .int .i64 t277, .int .i64 t278, .int .i64 t279, .int .i64 0, .string (⟨#[]⟩ : ByteArray)]) ?_ 4 _ rfl; (with_reducible repeat (first | refine blk_drewN ?_ _ | refine blk_drew ?_ | refine blk_alloc ?_ _)); refine blk_put (cs := #[.int .i64 t276, .int .i64 t277, .int .i64 t278, .int .i64 0, .int .i64 0, .string (⟨#[]⟩ : ByteArray)]) ?_ 3 _ rfl; (with_reducible repeat (first | refine blk_drewN ?_ _ | refine blk_drew ?_ | refine blk_alloc ?_ _)); refine blk_put (cs := #[.int .i64 t276, .int .i64 t277, .int .i64 0, .int .i64 0, .int .i64 0, .string (⟨#[]⟩ : ByteArray)]) ?_ 2 _ rfl; (with_reducible repeat (first | refine blk_drewN ?_ _ | refine blk_drew ?_ | refine blk_alloc ?_ _)); refine blk_put (cs := #[.int .i64 t276, .int .i64 0, .int .i64 0, .int .i64 0, .int .i64 0, .string (⟨#[]⟩ : ByteArray)]) ?_ 1 _ rfl; (with_reducible repeat (first | refine blk_drewN ?_ _ | refine blk_drew ?_ | refine blk_alloc ?_ _)); refine blk_put (cs := #[.int .i64 0, .int .i64 0, .int .i64 0, .int .i64 0, .int .i64 0, .string (⟨#[]⟩ : ByteArray)]) ?_ 0 _ rfl; (with_reducible repeat (first | refine blk_drewN ?_ _ | refine blk_drew ?_ | refine blk_alloc ?_ _)); exact BK282.out) hb); have n2_ := Aside0.mk (below_step (by repeat (first | (with_reducible first | exact HB.out | apply below_alloc | apply pw_below_drewN | apply below_drew1 | refine below_set ?_ GE282.out) | exact HB.out)) hb); clear HO274; clear BK282; clear HB; have HO274 := n0_; have BK282 := n1_; have HB := n2_; clear n0_ n1_ n2_; (try clear hb); (try clear hb2); (try clear hk); (try clear hi)))
        (try simp only [Act.put, List.setIfInBounds_toArray, List.set_cons_zero, List.set_cons_succ])
        go_cut [48] (fun v48 wc => ∃ (kq : Nat) (x48_7 : Bool), v48 = .bool x48_7 ∧ Aside0 (laws_FnRulesLet.j1 kq l1 t272 t275 t283 x48_7 t276 t277 t278 t279 t280 t281 = some r) ∧ Aside0 (kq ≤ kj2) ∧ Aside0 (Kd.R k31 31 wc w.heap.size (fun _ => True) (.slice Ao12 t272.length co12) t272) ∧ Aside0 (wc.heap[gb282]? = some (.cells #[.int .i64 t276, .int .i64 t277, .int .i64 t278, .int .i64 t279, .int .i64 t280, .string t281] 25 (0, 0))) ∧ Aside0 (Below w.heap.size w wc))
        case first =>
          have H := HC8.out
          clear HC8
          replace H := Option.bind_eq_some_iff.mp H
          obtain ⟨t284, A140, H⟩ := H
          replace H : (if (t283 != t284) = true then (laws_FnRulesLet.j1 kj2 l1 t272 t275 t283 true t276 t277 t278 t279 t280 t281) else ((impl_RulesOk.f kj2 t272).bind fun t285 => ((spec_RulesOk.f kj2 t272).bind fun t286 => (if (t285 != t286) = true then (laws_FnRulesLet.j1 kj2 l1 t272 t275 t283 true t276 t277 t278 t279 t280 t281) else ((spec_RulesOk.f kj2 t272).bind fun t287 => (laws_FnRulesLet.j1 kj2 l1 t272 t275 t283 (!t287) t276 t277 t278 t279 t280 t281)))))) = some r := H
          have A14 := Aside0.mk A140
          clear A140
          by_cases c15 : (t283 != t284) = true
          · rw [if_pos c15] at H
            have c15b0 : (t283 != t284) = true := c15
            (try (have c15b1 : decide (t283 = t284) = false := by simpa using c15))
            (try (have c15b2 : (t283 == t284) = false := by simpa using c15))
            (try (have c15b3 : ¬ (t283 = t284) := by simpa using c15))
            clear c15
            (first | rw [c15b0] | (simp only [i64_w, i32_w]; rw [c15b0]) | skip)
            have H' := Aside0.mk H
            clear H
            have hcz16_0 : w13.cell? ⟨gb282, 0, none⟩ = some (.int .i64 t276) := (blk_cell BK282.out 0).trans rfl
            have hcz16_1 : w13.cell? ⟨gb282, 1, none⟩ = some (.int .i64 t277) := (blk_cell BK282.out 1).trans rfl
            have hcz16_2 : w13.cell? ⟨gb282, 2, none⟩ = some (.int .i64 t278) := (blk_cell BK282.out 2).trans rfl
            have hcz16_3 : w13.cell? ⟨gb282, 3, none⟩ = some (.int .i64 t279) := (blk_cell BK282.out 3).trans rfl
            have hcz16_4 : w13.cell? ⟨gb282, 4, none⟩ = some (.int .i64 t280) := (blk_cell BK282.out 4).trans rfl
            have hcz16_5 : w13.cell? ⟨gb282, 5, none⟩ = some (.string t281) := (blk_cell BK282.out 5).trans rfl
            have hfz16_0 := blk_frozen BK282.out 0
            have hfz16_1 := blk_frozen BK282.out 1
            have hfz16_2 := blk_frozen BK282.out 2
            have hfz16_3 := blk_frozen BK282.out 3
            have hfz16_4 := blk_frozen BK282.out 4
            have hfz16_5 := blk_frozen BK282.out 5
            go_wp2_with (first | ((with_reducible refine gate_callee (f := 9) rfl ?_); refine goesL_ (some 35) rfl rfl Try.func9 (by kernel_rfl) rfl #[.slice Ao12 t272.length co12, .int .i64 t275, .agg #[.int .i64 t276, .int .i64 t277, .int .i64 t278, .int .i64 t279, .int .i64 t280, .string t281]] rfl (by (try simp only [List.map_toArray, List.map_cons, List.map_nil]); first | done | rfl | (simp only [List.length_drop, List.length_take]; rfl)) ?_; (with_reducible refine (spec_RulesLet.calls kj2 _ _ t272 t275 t276 t277 t278 t279 t280 t281 t284 _ ?side1 ?side2 A14.out).mono ?_); (case side1 => repeat (first | exact (Kd.R_reads' HO274.out).2.2 | (with_reducible refine Kd.C_alloc ?_ _) | (with_reducible refine Kd.C_drewN ?_ _) | (with_reducible refine Kd.C_drew ?_))); (case side2 => exact (Kd.R_reads' HO274.out).2.1); rintro e w17 ⟨rfl, hb⟩; refine ⟨_, rfl, ?_⟩; have n0_ := Aside0.mk (Kd.R_below (by (with_reducible repeat (first | apply Kd.R_alloc | apply Kd.R_drewN | apply Kd.R_drew)); exact HO274.out) hb); have n1_ := Aside0.mk (blk_below (g := gb282) (o := .cells #[.int .i64 t276, .int .i64 t277, .int .i64 t278, .int .i64 t279, .int .i64 t280, .string t281] 25 (0, 0)) (by (with_reducible repeat (first | refine blk_drewN ?_ _ | refine blk_drew ?_ | refine blk_alloc ?_ _)); exact BK282.out) hb); have n2_ := Aside0.mk (below_step (by repeat (first | (with_reducible first | exact HB.out | apply below_alloc | apply pw_below_drewN | apply below_drew1 | refine below_set ?_ GE282.out) | exact HB.out)) hb); clear HO274; clear BK282; clear HB; have HO274 := n0_; have BK282 := n1_; have HB := n2_; clear n0_ n1_ n2_; (try clear hb); (try clear hb2); (try clear hk); (try clear hi)))
            go_meet
            case rel => exact ⟨_, (true), (by first | rfl | (simp; done) | (simp [*]; done)), H', ⟨by have := HJ2.out; first | omega | exact Nat.le_refl _⟩, ⟨by (with_reducible repeat (first | apply Kd.R_alloc | apply Kd.R_drewN | apply Kd.R_drew)); exact HO274.out⟩, ⟨by (with_reducible repeat (first | refine blk_drewN ?_ _ | refine blk_drew ?_ | refine blk_alloc ?_ _)); exact BK282.out⟩, ⟨by repeat (first | (with_reducible first | exact HB.out | apply below_alloc | apply pw_below_drewN | apply below_drew1 | refine below_set ?_ GE282.out) | exact HB.out)⟩⟩
          · rw [if_neg c15] at H
            have c15b0 : (t283 != t284) = false := by simpa using c15
            (try (have c15b1 : decide (t283 = t284) = true := by simpa using c15))
            (try (have c15b2 : (t283 == t284) = true := by simpa using c15))
            clear c15
            (first | rw [c15b0] | (simp only [i64_w, i32_w]; rw [c15b0]) | skip)
            replace H := Option.bind_eq_some_iff.mp H
            obtain ⟨t285, A180, H⟩ := H
            replace H : ((spec_RulesOk.f kj2 t272).bind fun t286 => (if (t285 != t286) = true then (laws_FnRulesLet.j1 kj2 l1 t272 t275 t283 true t276 t277 t278 t279 t280 t281) else ((spec_RulesOk.f kj2 t272).bind fun t287 => (laws_FnRulesLet.j1 kj2 l1 t272 t275 t283 (!t287) t276 t277 t278 t279 t280 t281)))) = some r := H
            have A18 := Aside0.mk A180
            clear A180
            replace H := Option.bind_eq_some_iff.mp H
            obtain ⟨t286, A190, H⟩ := H
            replace H : (if (t285 != t286) = true then (laws_FnRulesLet.j1 kj2 l1 t272 t275 t283 true t276 t277 t278 t279 t280 t281) else ((spec_RulesOk.f kj2 t272).bind fun t287 => (laws_FnRulesLet.j1 kj2 l1 t272 t275 t283 (!t287) t276 t277 t278 t279 t280 t281))) = some r := H
            have A19 := Aside0.mk A190
            clear A190
            by_cases c20 : (t285 != t286) = true
            · rw [if_pos c20] at H
              have c20b0 : (t285 != t286) = true := c20
              (try (have c20b1 : decide (t285 = t286) = false := by simpa using c20))
              (try (have c20b2 : (t285 == t286) = false := by simpa using c20))
              (try (have c20b3 : ¬ (t285 = t286) := by simpa using c20))
              clear c20
              have H' := Aside0.mk H
              clear H
              have hcz21_0 : w13.cell? ⟨gb282, 0, none⟩ = some (.int .i64 t276) := (blk_cell BK282.out 0).trans rfl
              have hcz21_1 : w13.cell? ⟨gb282, 1, none⟩ = some (.int .i64 t277) := (blk_cell BK282.out 1).trans rfl
              have hcz21_2 : w13.cell? ⟨gb282, 2, none⟩ = some (.int .i64 t278) := (blk_cell BK282.out 2).trans rfl
              have hcz21_3 : w13.cell? ⟨gb282, 3, none⟩ = some (.int .i64 t279) := (blk_cell BK282.out 3).trans rfl
              have hcz21_4 : w13.cell? ⟨gb282, 4, none⟩ = some (.int .i64 t280) := (blk_cell BK282.out 4).trans rfl
              have hcz21_5 : w13.cell? ⟨gb282, 5, none⟩ = some (.string t281) := (blk_cell BK282.out 5).trans rfl
              have hfz21_0 := blk_frozen BK282.out 0
              have hfz21_1 := blk_frozen BK282.out 1
              have hfz21_2 := blk_frozen BK282.out 2
              have hfz21_3 := blk_frozen BK282.out 3
              have hfz21_4 := blk_frozen BK282.out 4
              have hfz21_5 := blk_frozen BK282.out 5
              go_wp2_with (first | ((with_reducible refine gate_callee (f := 9) rfl ?_); refine goesL_ (some 35) rfl rfl Try.func9 (by kernel_rfl) rfl #[.slice Ao12 t272.length co12, .int .i64 t275, .agg #[.int .i64 t276, .int .i64 t277, .int .i64 t278, .int .i64 t279, .int .i64 t280, .string t281]] rfl (by (try simp only [List.map_toArray, List.map_cons, List.map_nil]); first | done | rfl | (simp only [List.length_drop, List.length_take]; rfl)) ?_; (with_reducible refine (spec_RulesLet.calls kj2 _ _ t272 t275 t276 t277 t278 t279 t280 t281 t284 _ ?side1 ?side2 A14.out).mono ?_); (case side1 => repeat (first | exact (Kd.R_reads' HO274.out).2.2 | (with_reducible refine Kd.C_alloc ?_ _) | (with_reducible refine Kd.C_drewN ?_ _) | (with_reducible refine Kd.C_drew ?_))); (case side2 => exact (Kd.R_reads' HO274.out).2.1); rintro e w22 ⟨rfl, hb⟩; refine ⟨_, rfl, ?_⟩; have n0_ := Aside0.mk (Kd.R_below (by (with_reducible repeat (first | apply Kd.R_alloc | apply Kd.R_drewN | apply Kd.R_drew)); exact HO274.out) hb); have n1_ := Aside0.mk (blk_below (g := gb282) (o := .cells #[.int .i64 t276, .int .i64 t277, .int .i64 t278, .int .i64 t279, .int .i64 t280, .string t281] 25 (0, 0)) (by (with_reducible repeat (first | refine blk_drewN ?_ _ | refine blk_drew ?_ | refine blk_alloc ?_ _)); exact BK282.out) hb); have n2_ := Aside0.mk (below_step (by repeat (first | (with_reducible first | exact HB.out | apply below_alloc | apply pw_below_drewN | apply below_drew1 | refine below_set ?_ GE282.out) | exact HB.out)) hb); clear HO274; clear BK282; clear HB; have HO274 := n0_; have BK282 := n1_; have HB := n2_; clear n0_ n1_ n2_; (try clear hb); (try clear hb2); (try clear hk); (try clear hi)) | (go_at_call 10; (with_reducible refine (impl_RulesOk.calls kj2 _ _ t272 t285 _ ?side1 ?side2 A18.out).mono ?_); (case side1 => repeat (first | exact (Kd.R_reads' HO274.out).2.2 | (with_reducible refine Kd.C_alloc ?_ _) | (with_reducible refine Kd.C_drewN ?_ _) | (with_reducible refine Kd.C_drew ?_))); (case side2 => exact (Kd.R_reads' HO274.out).2.1); rintro e w23 ⟨rfl, hb⟩; have n0_ := Aside0.mk (Kd.R_below (by (with_reducible repeat (first | apply Kd.R_alloc | apply Kd.R_drewN | apply Kd.R_drew)); exact HO274.out) hb); have n1_ := Aside0.mk (blk_below (g := gb282) (o := .cells #[.int .i64 t276, .int .i64 t277, .int .i64 t278, .int .i64 t279, .int .i64 t280, .string t281] 25 (0, 0)) (by (with_reducible repeat (first | refine blk_drewN ?_ _ | refine blk_drew ?_ | refine blk_alloc ?_ _)); exact BK282.out) hb); have n2_ := Aside0.mk (below_step (by repeat (first | (with_reducible first | exact HB.out | apply below_alloc | apply pw_below_drewN | apply below_drew1 | refine below_set ?_ GE282.out) | exact HB.out)) hb); clear HO274; clear BK282; clear HB; have HO274 := n0_; have BK282 := n1_; have HB := n2_; clear n0_ n1_ n2_; (try clear hb); (try clear hb2); (try clear hk); (try clear hi)) | (go_at_call 11; (with_reducible refine (spec_RulesOk.calls kj2 _ _ t272 t286 _ ?side1 ?side2 A19.out).mono ?_); (case side1 => repeat (first | exact (Kd.R_reads' HO274.out).2.2 | (with_reducible refine Kd.C_alloc ?_ _) | (with_reducible refine Kd.C_drewN ?_ _) | (with_reducible refine Kd.C_drew ?_))); (case side2 => exact (Kd.R_reads' HO274.out).2.1); rintro e w24 ⟨rfl, hb⟩; have n0_ := Aside0.mk (Kd.R_below (by (with_reducible repeat (first | apply Kd.R_alloc | apply Kd.R_drewN | apply Kd.R_drew)); exact HO274.out) hb); have n1_ := Aside0.mk (blk_below (g := gb282) (o := .cells #[.int .i64 t276, .int .i64 t277, .int .i64 t278, .int .i64 t279, .int .i64 t280, .string t281] 25 (0, 0)) (by (with_reducible repeat (first | refine blk_drewN ?_ _ | refine blk_drew ?_ | refine blk_alloc ?_ _)); exact BK282.out) hb); have n2_ := Aside0.mk (below_step (by repeat (first | (with_reducible first | exact HB.out | apply below_alloc | apply pw_below_drewN | apply below_drew1 | refine below_set ?_ GE282.out) | exact HB.out)) hb); clear HO274; clear BK282; clear HB; have HO274 := n0_; have BK282 := n1_; have HB := n2_; clear n0_ n1_ n2_; (try clear hb); (try clear hb2); (try clear hk); (try clear hi)))
              go_meet
              case rel => exact ⟨_, (true), (by first | rfl | (simp; done) | (simp [*]; done)), H', ⟨by have := HJ2.out; first | omega | exact Nat.le_refl _⟩, ⟨by (with_reducible repeat (first | apply Kd.R_alloc | apply Kd.R_drewN | apply Kd.R_drew)); exact HO274.out⟩, ⟨by (with_reducible repeat (first | refine blk_drewN ?_ _ | refine blk_drew ?_ | refine blk_alloc ?_ _)); exact BK282.out⟩, ⟨by repeat (first | (with_reducible first | exact HB.out | apply below_alloc | apply pw_below_drewN | apply below_drew1 | refine below_set ?_ GE282.out) | exact HB.out)⟩⟩
            · rw [if_neg c20] at H
              have c20b0 : (t285 != t286) = false := by simpa using c20
              (try (have c20b1 : decide (t285 = t286) = true := by simpa using c20))
              (try (have c20b2 : (t285 == t286) = true := by simpa using c20))
              clear c20
              replace H := Option.bind_eq_some_iff.mp H
              obtain ⟨t287, A250, H⟩ := H
              obtain rfl : t287 = t286 := Option.some.inj (A250.symm.trans A19.out)
              replace H : (laws_FnRulesLet.j1 kj2 l1 t272 t275 t283 (!t287) t276 t277 t278 t279 t280 t281) = some r := H
              have A25 := Aside0.mk A250
              clear A250
              have H' := Aside0.mk H
              clear H
              have hcz26_0 : w13.cell? ⟨gb282, 0, none⟩ = some (.int .i64 t276) := (blk_cell BK282.out 0).trans rfl
              have hcz26_1 : w13.cell? ⟨gb282, 1, none⟩ = some (.int .i64 t277) := (blk_cell BK282.out 1).trans rfl
              have hcz26_2 : w13.cell? ⟨gb282, 2, none⟩ = some (.int .i64 t278) := (blk_cell BK282.out 2).trans rfl
              have hcz26_3 : w13.cell? ⟨gb282, 3, none⟩ = some (.int .i64 t279) := (blk_cell BK282.out 3).trans rfl
              have hcz26_4 : w13.cell? ⟨gb282, 4, none⟩ = some (.int .i64 t280) := (blk_cell BK282.out 4).trans rfl
              have hcz26_5 : w13.cell? ⟨gb282, 5, none⟩ = some (.string t281) := (blk_cell BK282.out 5).trans rfl
              have hfz26_0 := blk_frozen BK282.out 0
              have hfz26_1 := blk_frozen BK282.out 1
              have hfz26_2 := blk_frozen BK282.out 2
              have hfz26_3 := blk_frozen BK282.out 3
              have hfz26_4 := blk_frozen BK282.out 4
              have hfz26_5 := blk_frozen BK282.out 5
              go_wp2_with (first | ((with_reducible refine gate_callee (f := 9) rfl ?_); refine goesL_ (some 35) rfl rfl Try.func9 (by kernel_rfl) rfl #[.slice Ao12 t272.length co12, .int .i64 t275, .agg #[.int .i64 t276, .int .i64 t277, .int .i64 t278, .int .i64 t279, .int .i64 t280, .string t281]] rfl (by (try simp only [List.map_toArray, List.map_cons, List.map_nil]); first | done | rfl | (simp only [List.length_drop, List.length_take]; rfl)) ?_; (with_reducible refine (spec_RulesLet.calls kj2 _ _ t272 t275 t276 t277 t278 t279 t280 t281 t284 _ ?side1 ?side2 A14.out).mono ?_); (case side1 => repeat (first | exact (Kd.R_reads' HO274.out).2.2 | (with_reducible refine Kd.C_alloc ?_ _) | (with_reducible refine Kd.C_drewN ?_ _) | (with_reducible refine Kd.C_drew ?_))); (case side2 => exact (Kd.R_reads' HO274.out).2.1); rintro e w27 ⟨rfl, hb⟩; refine ⟨_, rfl, ?_⟩; have n0_ := Aside0.mk (Kd.R_below (by (with_reducible repeat (first | apply Kd.R_alloc | apply Kd.R_drewN | apply Kd.R_drew)); exact HO274.out) hb); have n1_ := Aside0.mk (blk_below (g := gb282) (o := .cells #[.int .i64 t276, .int .i64 t277, .int .i64 t278, .int .i64 t279, .int .i64 t280, .string t281] 25 (0, 0)) (by (with_reducible repeat (first | refine blk_drewN ?_ _ | refine blk_drew ?_ | refine blk_alloc ?_ _)); exact BK282.out) hb); have n2_ := Aside0.mk (below_step (by repeat (first | (with_reducible first | exact HB.out | apply below_alloc | apply pw_below_drewN | apply below_drew1 | refine below_set ?_ GE282.out) | exact HB.out)) hb); clear HO274; clear BK282; clear HB; have HO274 := n0_; have BK282 := n1_; have HB := n2_; clear n0_ n1_ n2_; (try clear hb); (try clear hb2); (try clear hk); (try clear hi)) | (go_at_call 10; (with_reducible refine (impl_RulesOk.calls kj2 _ _ t272 t285 _ ?side1 ?side2 A18.out).mono ?_); (case side1 => repeat (first | exact (Kd.R_reads' HO274.out).2.2 | (with_reducible refine Kd.C_alloc ?_ _) | (with_reducible refine Kd.C_drewN ?_ _) | (with_reducible refine Kd.C_drew ?_))); (case side2 => exact (Kd.R_reads' HO274.out).2.1); rintro e w28 ⟨rfl, hb⟩; have n0_ := Aside0.mk (Kd.R_below (by (with_reducible repeat (first | apply Kd.R_alloc | apply Kd.R_drewN | apply Kd.R_drew)); exact HO274.out) hb); have n1_ := Aside0.mk (blk_below (g := gb282) (o := .cells #[.int .i64 t276, .int .i64 t277, .int .i64 t278, .int .i64 t279, .int .i64 t280, .string t281] 25 (0, 0)) (by (with_reducible repeat (first | refine blk_drewN ?_ _ | refine blk_drew ?_ | refine blk_alloc ?_ _)); exact BK282.out) hb); have n2_ := Aside0.mk (below_step (by repeat (first | (with_reducible first | exact HB.out | apply below_alloc | apply pw_below_drewN | apply below_drew1 | refine below_set ?_ GE282.out) | exact HB.out)) hb); clear HO274; clear BK282; clear HB; have HO274 := n0_; have BK282 := n1_; have HB := n2_; clear n0_ n1_ n2_; (try clear hb); (try clear hb2); (try clear hk); (try clear hi)) | (go_at_call 11; (with_reducible refine (spec_RulesOk.calls kj2 _ _ t272 t286 _ ?side1 ?side2 A19.out).mono ?_); (case side1 => repeat (first | exact (Kd.R_reads' HO274.out).2.2 | (with_reducible refine Kd.C_alloc ?_ _) | (with_reducible refine Kd.C_drewN ?_ _) | (with_reducible refine Kd.C_drew ?_))); (case side2 => exact (Kd.R_reads' HO274.out).2.1); rintro e w29 ⟨rfl, hb⟩; have n0_ := Aside0.mk (Kd.R_below (by (with_reducible repeat (first | apply Kd.R_alloc | apply Kd.R_drewN | apply Kd.R_drew)); exact HO274.out) hb); have n1_ := Aside0.mk (blk_below (g := gb282) (o := .cells #[.int .i64 t276, .int .i64 t277, .int .i64 t278, .int .i64 t279, .int .i64 t280, .string t281] 25 (0, 0)) (by (with_reducible repeat (first | refine blk_drewN ?_ _ | refine blk_drew ?_ | refine blk_alloc ?_ _)); exact BK282.out) hb); have n2_ := Aside0.mk (below_step (by repeat (first | (with_reducible first | exact HB.out | apply below_alloc | apply pw_below_drewN | apply below_drew1 | refine below_set ?_ GE282.out) | exact HB.out)) hb); clear HO274; clear BK282; clear HB; have HO274 := n0_; have BK282 := n1_; have HB := n2_; clear n0_ n1_ n2_; (try clear hb); (try clear hb2); (try clear hk); (try clear hi)) | (go_at_call 11; (with_reducible refine (spec_RulesOk.calls kj2 _ _ t272 t287 _ ?side1 ?side2 A25.out).mono ?_); (case side1 => repeat (first | exact (Kd.R_reads' HO274.out).2.2 | (with_reducible refine Kd.C_alloc ?_ _) | (with_reducible refine Kd.C_drewN ?_ _) | (with_reducible refine Kd.C_drew ?_))); (case side2 => exact (Kd.R_reads' HO274.out).2.1); rintro e w30 ⟨rfl, hb⟩; have n0_ := Aside0.mk (Kd.R_below (by (with_reducible repeat (first | apply Kd.R_alloc | apply Kd.R_drewN | apply Kd.R_drew)); exact HO274.out) hb); have n1_ := Aside0.mk (blk_below (g := gb282) (o := .cells #[.int .i64 t276, .int .i64 t277, .int .i64 t278, .int .i64 t279, .int .i64 t280, .string t281] 25 (0, 0)) (by (with_reducible repeat (first | refine blk_drewN ?_ _ | refine blk_drew ?_ | refine blk_alloc ?_ _)); exact BK282.out) hb); have n2_ := Aside0.mk (below_step (by repeat (first | (with_reducible first | exact HB.out | apply below_alloc | apply pw_below_drewN | apply below_drew1 | refine below_set ?_ GE282.out) | exact HB.out)) hb); clear HO274; clear BK282; clear HB; have HO274 := n0_; have BK282 := n1_; have HB := n2_; clear n0_ n1_ n2_; (try clear hb); (try clear hb2); (try clear hk); (try clear hi)))
              go_meet
              case rel => exact ⟨_, (!t287), (by first | rfl | (simp; done) | (simp [*]; done)), H', ⟨by have := HJ2.out; first | omega | exact Nat.le_refl _⟩, ⟨by (with_reducible repeat (first | apply Kd.R_alloc | apply Kd.R_drewN | apply Kd.R_drew)); exact HO274.out⟩, ⟨by (with_reducible repeat (first | refine blk_drewN ?_ _ | refine blk_drew ?_ | refine blk_alloc ?_ _)); exact BK282.out⟩, ⟨by repeat (first | (with_reducible first | exact HB.out | apply below_alloc | apply pw_below_drewN | apply below_drew1 | refine below_set ?_ GE282.out) | exact HB.out)⟩⟩
        case rest =>
          clear HC8
          try clear c1
          try clear c2
          try clear p2
          try clear c3
          try clear c4
          try clear c4b0
          try clear c4b1
          try clear c5
          try clear c7
          try clear c8
          try clear c9
          try clear c15
          try clear c15b0
          try clear c15b1
          try clear c15b2
          try clear c20
          try clear c20b0
          try clear c20b1
          try clear c20b2
          try clear hcz11_0
          try clear hcz11_1
          try clear hcz11_2
          try clear hcz11_3
          try clear hcz11_4
          try clear hcz11_5
          try clear hcz16_0
          try clear hcz16_1
          try clear hcz16_2
          try clear hcz16_3
          try clear hcz16_4
          try clear hcz16_5
          try clear hcz21_0
          try clear hcz21_1
          try clear hcz21_2
          try clear hcz21_3
          try clear hcz21_4
          try clear hcz21_5
          try clear hcz26_0
          try clear hcz26_1
          try clear hcz26_2
          try clear hcz26_3
          try clear hcz26_4
          try clear hcz26_5
          try clear hfz11_0
          try clear hfz11_1
          try clear hfz11_2
          try clear hfz11_3
          try clear hfz11_4
          try clear hfz11_5
          try clear hfz16_0
          try clear hfz16_1
          try clear hfz16_2
          try clear hfz16_3
          try clear hfz16_4
          try clear hfz16_5
          try clear hfz21_0
          try clear hfz21_1
          try clear hfz21_2
          try clear hfz21_3
          try clear hfz21_4
          try clear hfz21_5
          try clear hfz26_0
          try clear hfz26_1
          try clear hfz26_2
          try clear hfz26_3
          try clear hfz26_4
          try clear hfz26_5
          try clear p2
          obtain ⟨kq, x48_7, rfl, HA, HJ7, HO_5, BK282, HB⟩ := hcut
          cases kq with
          | zero => exact absurd HA.out (by simp [laws_FnRulesLet.j1])
          | succ kj7 =>
            have H := HA.out
            clear HA
            simp only [laws_FnRulesLet.j1] at H
            by_cases c31 : x48_7 = true
            · subst c31
              have H1 : ((spec_RulesLet.f kj7 t272 t275 t276 t277 t278 t279 t280 t281).bind fun t288 => (if (t283 == t288) = true then ((impl_RulesOk.f kj7 t272).bind fun t289 => ((spec_RulesOk.f kj7 t272).bind fun t290 => (some (t289 == t290)))) else (some false))) = some r := by rw [if_pos rfl] at H; exact H
              clear H
              have H := H1
              clear H1
              replace H := Option.bind_eq_some_iff.mp H
              obtain ⟨t288, A320, H⟩ := H
              replace H : (if (t283 == t288) = true then ((impl_RulesOk.f kj7 t272).bind fun t289 => ((spec_RulesOk.f kj7 t272).bind fun t290 => (some (t289 == t290)))) else (some false)) = some r := H
              have A32 := Aside0.mk A320
              clear A320
              by_cases c33 : (t283 == t288) = true
              · rw [if_pos c33] at H
                have c33b0 : (t283 == t288) = true := c33
                (try (have c33b1 : decide (t283 = t288) = true := by simpa using c33))
                (try (have c33b2 : (t283 == t288) = true := by simpa using c33))
                clear c33
                replace H := Option.bind_eq_some_iff.mp H
                obtain ⟨t289, A340, H⟩ := H
                replace H : ((spec_RulesOk.f kj7 t272).bind fun t290 => (some (t289 == t290))) = some r := H
                have A34 := Aside0.mk A340
                clear A340
                replace H := Option.bind_eq_some_iff.mp H
                obtain ⟨t290, A350, H⟩ := H
                replace H : (some (t289 == t290)) = some r := H
                have A35 := Aside0.mk A350
                clear A350
                obtain rfl := Option.some.inj H
                have hcz36_0 : wc.cell? ⟨gb282, 0, none⟩ = some (.int .i64 t276) := (blk_cell BK282.out 0).trans rfl
                have hcz36_1 : wc.cell? ⟨gb282, 1, none⟩ = some (.int .i64 t277) := (blk_cell BK282.out 1).trans rfl
                have hcz36_2 : wc.cell? ⟨gb282, 2, none⟩ = some (.int .i64 t278) := (blk_cell BK282.out 2).trans rfl
                have hcz36_3 : wc.cell? ⟨gb282, 3, none⟩ = some (.int .i64 t279) := (blk_cell BK282.out 3).trans rfl
                have hcz36_4 : wc.cell? ⟨gb282, 4, none⟩ = some (.int .i64 t280) := (blk_cell BK282.out 4).trans rfl
                have hcz36_5 : wc.cell? ⟨gb282, 5, none⟩ = some (.string t281) := (blk_cell BK282.out 5).trans rfl
                have hfz36_0 := blk_frozen BK282.out 0
                have hfz36_1 := blk_frozen BK282.out 1
                have hfz36_2 := blk_frozen BK282.out 2
                have hfz36_3 := blk_frozen BK282.out 3
                have hfz36_4 := blk_frozen BK282.out 4
                have hfz36_5 := blk_frozen BK282.out 5
                go_wp2_with (first | ((with_reducible refine gate_callee (f := 9) rfl ?_); refine goesL_ (some 53) rfl rfl Try.func9 (by kernel_rfl) rfl #[.slice Ao12 t272.length co12, .int .i64 t275, .agg #[.int .i64 t276, .int .i64 t277, .int .i64 t278, .int .i64 t279, .int .i64 t280, .string t281]] rfl (by (try simp only [List.map_toArray, List.map_cons, List.map_nil]); first | done | rfl | (simp only [List.length_drop, List.length_take]; rfl)) ?_; (with_reducible refine (spec_RulesLet.calls kj7 _ _ t272 t275 t276 t277 t278 t279 t280 t281 t288 _ ?side1 ?side2 A32.out).mono ?_); (case side1 => repeat (first | exact (Kd.R_reads' HO_5.out).2.2 | (with_reducible refine Kd.C_alloc ?_ _) | (with_reducible refine Kd.C_drewN ?_ _) | (with_reducible refine Kd.C_drew ?_))); (case side2 => exact (Kd.R_reads' HO_5.out).2.1); rintro e w37 ⟨rfl, hb⟩; refine ⟨_, rfl, ?_⟩; have n0_ := Aside0.mk (Kd.R_below (by (with_reducible repeat (first | apply Kd.R_alloc | apply Kd.R_drewN | apply Kd.R_drew)); exact HO_5.out) hb); have n1_ := Aside0.mk (blk_below (g := gb282) (o := .cells #[.int .i64 t276, .int .i64 t277, .int .i64 t278, .int .i64 t279, .int .i64 t280, .string t281] 25 (0, 0)) (by (with_reducible repeat (first | refine blk_drewN ?_ _ | refine blk_drew ?_ | refine blk_alloc ?_ _)); exact BK282.out) hb); have n2_ := Aside0.mk (below_step (by repeat (first | (with_reducible first | exact HB.out | apply below_alloc | apply pw_below_drewN | apply below_drew1 | refine below_set ?_ GE282.out) | exact HB.out)) hb); clear HO_5; clear BK282; clear HB; have HO_5 := n0_; have BK282 := n1_; have HB := n2_; clear n0_ n1_ n2_; (try clear hb); (try clear hb2); (try clear hk); (try clear hi)) | (go_at_call 10; (with_reducible refine (impl_RulesOk.calls kj7 _ _ t272 t289 _ ?side1 ?side2 A34.out).mono ?_); (case side1 => repeat (first | exact (Kd.R_reads' HO_5.out).2.2 | (with_reducible refine Kd.C_alloc ?_ _) | (with_reducible refine Kd.C_drewN ?_ _) | (with_reducible refine Kd.C_drew ?_))); (case side2 => exact (Kd.R_reads' HO_5.out).2.1); rintro e w38 ⟨rfl, hb⟩; have n0_ := Aside0.mk (Kd.R_below (by (with_reducible repeat (first | apply Kd.R_alloc | apply Kd.R_drewN | apply Kd.R_drew)); exact HO_5.out) hb); have n1_ := Aside0.mk (blk_below (g := gb282) (o := .cells #[.int .i64 t276, .int .i64 t277, .int .i64 t278, .int .i64 t279, .int .i64 t280, .string t281] 25 (0, 0)) (by (with_reducible repeat (first | refine blk_drewN ?_ _ | refine blk_drew ?_ | refine blk_alloc ?_ _)); exact BK282.out) hb); have n2_ := Aside0.mk (below_step (by repeat (first | (with_reducible first | exact HB.out | apply below_alloc | apply pw_below_drewN | apply below_drew1 | refine below_set ?_ GE282.out) | exact HB.out)) hb); clear HO_5; clear BK282; clear HB; have HO_5 := n0_; have BK282 := n1_; have HB := n2_; clear n0_ n1_ n2_; (try clear hb); (try clear hb2); (try clear hk); (try clear hi)) | (go_at_call 11; (with_reducible refine (spec_RulesOk.calls kj7 _ _ t272 t290 _ ?side1 ?side2 A35.out).mono ?_); (case side1 => repeat (first | exact (Kd.R_reads' HO_5.out).2.2 | (with_reducible refine Kd.C_alloc ?_ _) | (with_reducible refine Kd.C_drewN ?_ _) | (with_reducible refine Kd.C_drew ?_))); (case side2 => exact (Kd.R_reads' HO_5.out).2.1); rintro e w39 ⟨rfl, hb⟩; have n0_ := Aside0.mk (Kd.R_below (by (with_reducible repeat (first | apply Kd.R_alloc | apply Kd.R_drewN | apply Kd.R_drew)); exact HO_5.out) hb); have n1_ := Aside0.mk (blk_below (g := gb282) (o := .cells #[.int .i64 t276, .int .i64 t277, .int .i64 t278, .int .i64 t279, .int .i64 t280, .string t281] 25 (0, 0)) (by (with_reducible repeat (first | refine blk_drewN ?_ _ | refine blk_drew ?_ | refine blk_alloc ?_ _)); exact BK282.out) hb); have n2_ := Aside0.mk (below_step (by repeat (first | (with_reducible first | exact HB.out | apply below_alloc | apply pw_below_drewN | apply below_drew1 | refine below_set ?_ GE282.out) | exact HB.out)) hb); clear HO_5; clear BK282; clear HB; have HO_5 := n0_; have BK282 := n1_; have HB := n2_; clear n0_ n1_ n2_; (try clear hb); (try clear hb2); (try clear hk); (try clear hi)))
                go_ret
                exact ⟨by first | rfl | (simp [errW_none, errW_some] <;> rfl) | (simp [*, errW_none, errW_some] <;> rfl), by repeat (first | (with_reducible first | exact HB.out | apply below_alloc | apply pw_below_drewN | apply below_drew1 | refine below_set ?_ GE282.out) | exact HB.out)⟩
              · rw [if_neg c33] at H
                have c33b0 : (t283 == t288) = false := by simpa using c33
                (try (have c33b1 : decide (t283 = t288) = false := by simpa using c33))
                (try (have c33b2 : (t283 == t288) = false := by simpa using c33))
                (try (have c33b3 : ¬ (t283 = t288) := by simpa using c33))
                clear c33
                exact absurd ((Option.some.inj H).trans HRT_.out) (by decide)
            · replace c31 := Bool.eq_false_iff.mpr c31
              subst c31
              have H1 : (laws_FnRulesLet.l0 kj7 l1 t272 t275 t283 false 0 t276 t277 t278 t279 t280 t281) = some r := by rw [if_neg (show ¬ (false = true) by decide)] at H; exact H
              clear H
              have H := H1
              clear H1
              have H' := Aside0.mk H
              clear H
              go_wp2
              go_loopg [9, 10] kj7 (fun kq v9 v10 w' => ∃ (x9_3 : Bool) (x10_3 : Int), v9 = .bool x9_3 ∧ v10 = .int .i64 x10_3 ∧ Aside0 (laws_FnRulesLet.l0 kq l1 t272 t275 t283 x9_3 x10_3 t276 t277 t278 t279 t280 t281 = some r) ∧ Aside0 (kq ≤ kj7) ∧ Aside0 (Kd.R k31 31 w' w.heap.size (fun _ => True) (.slice Ao12 t272.length co12) t272) ∧ Aside0 (w'.heap[gb282]? = some (.cells #[.int .i64 t276, .int .i64 t277, .int .i64 t278, .int .i64 t279, .int .i64 t280, .string t281] 25 (0, 0))) ∧ Aside0 (Below w.heap.size w w'))
              case atStart => exact ⟨(false), (0), (by first | rfl | (simp; done) | (simp [*]; done)), (by first | rfl | (simp; done) | (simp [*]; done)), H', ⟨Nat.le_refl _⟩, ⟨by (with_reducible repeat (first | apply Kd.R_alloc | apply Kd.R_drewN | apply Kd.R_drew)); exact HO_5.out⟩, ⟨by (with_reducible repeat (first | refine blk_drewN ?_ _ | refine blk_drew ?_ | refine blk_alloc ?_ _)); exact BK282.out⟩, ⟨by repeat (first | (with_reducible first | exact HB.out | apply below_alloc | apply pw_below_drewN | apply below_drew1 | refine below_set ?_ GE282.out) | exact HB.out)⟩⟩
              case round =>
                clear H'
                try clear c1
                try clear c2
                try clear p2
                try clear c3
                try clear c4
                try clear c4b0
                try clear c4b1
                try clear c5
                try clear c7
                try clear c8
                try clear c9
                try clear c15
                try clear c15b0
                try clear c15b1
                try clear c15b2
                try clear c20
                try clear c20b0
                try clear c20b1
                try clear c20b2
                try clear c31
                try clear c33
                try clear c33b0
                try clear c33b1
                try clear c33b2
                try clear hcz11_0
                try clear hcz11_1
                try clear hcz11_2
                try clear hcz11_3
                try clear hcz11_4
                try clear hcz11_5
                try clear hcz16_0
                try clear hcz16_1
                try clear hcz16_2
                try clear hcz16_3
                try clear hcz16_4
                try clear hcz16_5
                try clear hcz21_0
                try clear hcz21_1
                try clear hcz21_2
                try clear hcz21_3
                try clear hcz21_4
                try clear hcz21_5
                try clear hcz26_0
                try clear hcz26_1
                try clear hcz26_2
                try clear hcz26_3
                try clear hcz26_4
                try clear hcz26_5
                try clear hcz36_0
                try clear hcz36_1
                try clear hcz36_2
                try clear hcz36_3
                try clear hcz36_4
                try clear hcz36_5
                try clear hfz11_0
                try clear hfz11_1
                try clear hfz11_2
                try clear hfz11_3
                try clear hfz11_4
                try clear hfz11_5
                try clear hfz16_0
                try clear hfz16_1
                try clear hfz16_2
                try clear hfz16_3
                try clear hfz16_4
                try clear hfz16_5
                try clear hfz21_0
                try clear hfz21_1
                try clear hfz21_2
                try clear hfz21_3
                try clear hfz21_4
                try clear hfz21_5
                try clear hfz26_0
                try clear hfz26_1
                try clear hfz26_2
                try clear hfz26_3
                try clear hfz26_4
                try clear hfz26_5
                try clear hfz36_0
                try clear hfz36_1
                try clear hfz36_2
                try clear hfz36_3
                try clear hfz36_4
                try clear hfz36_5
                try clear p2
                obtain ⟨x9_3, x10_3, rfl, rfl, HA, HK3, HO_5, BK282, HB⟩ := hrel
                cases gk with
                | zero => exact absurd HA.out (by simp [laws_FnRulesLet.l0])
                | succ k3 =>
                  have H := HA.out
                  clear HA
                  simp only [laws_FnRulesLet.l0] at H
                  by_cases c40 : x10_3 < (t272.length : Int)
                  · rw [if_pos c40] at H
                    have c40b0 : decide (x10_3 < (t272.length : Int)) = true := decide_eq_true c40
                    clear c40
                    by_cases c41 : 0 ≤ x10_3
                    · rw [if_pos c41] at H
                      have c41b0 : decide (0 ≤ x10_3) = true := decide_eq_true c41
                      clear c41
                      by_cases c42 : x9_3 = true
                      · subst c42
                        have H1 : (laws_FnRulesLet.l0 k3 l1 t272 t275 t283 true (wrap64 (x10_3 + 1)) t276 t277 t278 t279 t280 t281) = some r := by rw [if_pos rfl] at H; exact H
                        clear H
                        have H := H1
                        clear H1
                        have H' := Aside0.mk H
                        clear H
                        have p291 : 0 ≤ (x10_3 : Int) := of_decide_eq_true (by first | (with_reducible assumption) | assumption)
                        have q291 : x10_3 < (t272.length : Int) := of_decide_eq_true (by first | (with_reducible assumption) | assumption)
                        obtain ⟨ad291, e291, hx291_0, hx291_1, hx291_2, hx291_3, hx291_4, hx291_5⟩ := at_T31 (Kd.R_reads' HO_5.out).2.2 x10_3 p291 q291
                        cases e291
                        replace p291 := eq_true p291
                        replace q291 := eq_true q291
                        go_wp2_with (first | ((with_reducible refine gate_dst (N := 11) rfl ?_); (try (refine gate_guard (by rfl) ?_; dsimp only)); refine box_event ?hg (N := 11) ?hd (cs := #[.int .i64 0, .int .i64 0, .int .i64 0, .int .i64 0, .bool false, .bool false]) (t := 31) ?hr ?_; (case hd => rfl); (case hg => rfl); (case hr => first | (go_simp; done) | (go_simp; rfl)); intro gb292 hg w43 hbox hb; have n0_ := Aside0.mk (Kd.R_below (Kd.R_elderB (by (with_reducible repeat (first | apply Kd.R_alloc | apply Kd.R_drewN | apply Kd.R_drew)); exact HO_5.out) gb292 (Nat.le_of_eq hg.symm)) hb); have n1_ := Aside0.mk (blk_below (g := gb282) (o := .cells #[.int .i64 t276, .int .i64 t277, .int .i64 t278, .int .i64 t279, .int .i64 t280, .string t281] 25 (0, 0)) (by (with_reducible repeat (first | refine blk_drewN ?_ _ | refine blk_drew ?_ | refine blk_alloc ?_ _)); exact BK282.out) hb); have n2_ := Aside0.mk (below_step (by repeat (first | (with_reducible first | exact HB.out | apply below_alloc | apply pw_below_drewN | apply below_drew1 | refine below_set ?_ GE282.out) | exact HB.out)) hb); have n3_ := Aside0.mk (hbox); have n4_ := Aside0.mk ((by rw [hg]; exact (below_size (by repeat (first | (with_reducible first | exact HB.out | apply below_alloc | apply pw_below_drewN | apply below_drew1 | refine below_set ?_ GE282.out) | exact HB.out))) : w.heap.size ≤ gb292)); have n5_ := Aside0.mk ((by rw [hg]; exact (below_size (by repeat (first | (with_reducible first | exact HB.out | apply below_alloc | apply pw_below_drewN | apply below_drew1 | refine below_set ?_ GE282.out) | exact HB.out))) : w.heap.size ≤ gb292)); have n6_ := Aside0.mk ((by rw [hg]; exact Nat.ne_of_lt (blk_lt (g := gb282) (o := .cells #[.int .i64 t276, .int .i64 t277, .int .i64 t278, .int .i64 t279, .int .i64 t280, .string t281] 25 (0, 0)) (by (with_reducible repeat (first | refine blk_drewN ?_ _ | refine blk_drew ?_ | refine blk_alloc ?_ _)); exact BK282.out)) : gb282 ≠ gb292)); have n7_ := Aside0.mk ((by rw [hg]; exact Nat.ne_of_gt (blk_lt (g := gb282) (o := .cells #[.int .i64 t276, .int .i64 t277, .int .i64 t278, .int .i64 t279, .int .i64 t280, .string t281] 25 (0, 0)) (by (with_reducible repeat (first | refine blk_drewN ?_ _ | refine blk_drew ?_ | refine blk_alloc ?_ _)); exact BK282.out)) : gb292 ≠ gb282)); clear HO_5; clear BK282; clear HB; have HO_5 := n0_; have BK282 := n1_; have HB := n2_; have BK292 := n3_; have GW292 := n4_; have GE292 := n5_; have NB282_292 := n6_; have NB292_282 := n7_; clear n0_ n1_ n2_ n3_ n4_ n5_ n6_ n7_; clear hb hbox hg; have hnb44 := NB292_282.out; have hnc44 := NB282_292.out; have hcz45_0 : w43.cell? ⟨gb292, 0, none⟩ = some (.int .i64 0) := (blk_cell BK292.out 0).trans rfl; have hcz45_1 : w43.cell? ⟨gb292, 1, none⟩ = some (.int .i64 0) := (blk_cell BK292.out 1).trans rfl; have hcz45_2 : w43.cell? ⟨gb292, 2, none⟩ = some (.int .i64 0) := (blk_cell BK292.out 2).trans rfl; have hcz45_3 : w43.cell? ⟨gb292, 3, none⟩ = some (.int .i64 0) := (blk_cell BK292.out 3).trans rfl; have hcz45_4 : w43.cell? ⟨gb292, 4, none⟩ = some (.bool false) := (blk_cell BK292.out 4).trans rfl; have hcz45_5 : w43.cell? ⟨gb292, 5, none⟩ = some (.bool false) := (blk_cell BK292.out 5).trans rfl; have hfz45_0 := blk_frozen BK292.out 0; have hfz45_1 := blk_frozen BK292.out 1; have hfz45_2 := blk_frozen BK292.out 2; have hfz45_3 := blk_frozen BK292.out 3; have hfz45_4 := blk_frozen BK292.out 4; have hfz45_5 := blk_frozen BK292.out 5))
                        go_roundg k3
                        case measure => have := HJ2.out; have := HJ7.out; have := HK3.out; omega
                        case rel => exact ⟨(true), (wrap64 (x10_3 + 1)), (by first | rfl | (simp; done) | (simp [*]; done)), (by first | rfl | (simp; done) | (simp [*]; done)), H', ⟨by have := HJ2.out; have := HJ7.out; have := HK3.out; omega⟩, ⟨by (with_reducible repeat (first | apply Kd.R_alloc | apply Kd.R_drewN | apply Kd.R_drew)); exact Kd.R_mono (Kd.R_far (p := ⟨gb292, 5, none⟩) (Kd.R_far (p := ⟨gb292, 4, none⟩) (Kd.R_far (p := ⟨gb292, 3, none⟩) (Kd.R_far (p := ⟨gb292, 2, none⟩) (Kd.R_far (p := ⟨gb292, 1, none⟩) (Kd.R_far (p := ⟨gb292, 0, none⟩) (Kd.R_mono HO_5.out (fun k_ hk => (⟨hk, hk.2⟩ : _ ∧ k_ ≠ gb292))) (fun _ hk => hk.2) (.int .i64 ((rd_T31 t272 x10_3).f0))) (fun _ hk => hk.2) (.int .i64 ((rd_T31 t272 x10_3).f1))) (fun _ hk => hk.2) (.int .i64 ((rd_T31 t272 x10_3).f2))) (fun _ hk => hk.2) (.int .i64 ((rd_T31 t272 x10_3).f3))) (fun _ hk => hk.2) (.bool ((rd_T31 t272 x10_3).f4))) (fun _ hk => hk.2) (.bool ((rd_T31 t272 x10_3).f5))) (fun _ hk => trivial)⟩, ⟨by (with_reducible repeat (first | refine blk_drewN ?_ _ | refine blk_drew ?_ | refine blk_alloc ?_ _)); refine blk_far ?_ NB282_292.out _; (with_reducible repeat (first | refine blk_drewN ?_ _ | refine blk_drew ?_ | refine blk_alloc ?_ _)); refine blk_far ?_ NB282_292.out _; (with_reducible repeat (first | refine blk_drewN ?_ _ | refine blk_drew ?_ | refine blk_alloc ?_ _)); refine blk_far ?_ NB282_292.out _; (with_reducible repeat (first | refine blk_drewN ?_ _ | refine blk_drew ?_ | refine blk_alloc ?_ _)); refine blk_far ?_ NB282_292.out _; (with_reducible repeat (first | refine blk_drewN ?_ _ | refine blk_drew ?_ | refine blk_alloc ?_ _)); refine blk_far ?_ NB282_292.out _; (with_reducible repeat (first | refine blk_drewN ?_ _ | refine blk_drew ?_ | refine blk_alloc ?_ _)); refine blk_far ?_ NB282_292.out _; (with_reducible repeat (first | refine blk_drewN ?_ _ | refine blk_drew ?_ | refine blk_alloc ?_ _)); exact BK282.out⟩, ⟨by repeat (first | (with_reducible first | exact HB.out | apply below_alloc | apply pw_below_drewN | apply below_drew1 | refine below_set ?_ GE282.out | refine below_set ?_ GE292.out) | exact HB.out)⟩⟩
                      · replace c42 := Bool.eq_false_iff.mpr c42
                        subst c42
                        have H1 : (if ((rd_T31 t272 x10_3).f0) = t278 then (if ((rd_T31 t272 x10_3).f1) = t276 then (if ((rd_T31 t272 x10_3).f2) = t279 then (if ((rd_T31 t272 x10_3).f3) = t280 then (if t275 = 0 then (if (rd_T31 t272 x10_3).f4 = true then (laws_FnRulesLet.l0 k3 l1 t272 t275 t283 true (wrap64 (x10_3 + 1)) t276 t277 t278 t279 t280 t281) else (if t275 = 1 then (laws_FnRulesLet.l0 k3 l1 t272 t275 t283 ((rd_T31 t272 x10_3).f5) (wrap64 (x10_3 + 1)) t276 t277 t278 t279 t280 t281) else (laws_FnRulesLet.l0 k3 l1 t272 t275 t283 false (wrap64 (x10_3 + 1)) t276 t277 t278 t279 t280 t281))) else (if t275 = 1 then (laws_FnRulesLet.l0 k3 l1 t272 t275 t283 ((rd_T31 t272 x10_3).f5) (wrap64 (x10_3 + 1)) t276 t277 t278 t279 t280 t281) else (laws_FnRulesLet.l0 k3 l1 t272 t275 t283 false (wrap64 (x10_3 + 1)) t276 t277 t278 t279 t280 t281))) else (laws_FnRulesLet.l0 k3 l1 t272 t275 t283 false (wrap64 (x10_3 + 1)) t276 t277 t278 t279 t280 t281)) else (laws_FnRulesLet.l0 k3 l1 t272 t275 t283 false (wrap64 (x10_3 + 1)) t276 t277 t278 t279 t280 t281)) else (laws_FnRulesLet.l0 k3 l1 t272 t275 t283 false (wrap64 (x10_3 + 1)) t276 t277 t278 t279 t280 t281)) else (laws_FnRulesLet.l0 k3 l1 t272 t275 t283 false (wrap64 (x10_3 + 1)) t276 t277 t278 t279 t280 t281)) = some r := by rw [if_neg (show ¬ (false = true) by decide)] at H; exact H
                        clear H
                        have H := H1
                        clear H1
                        by_cases c46 : ((rd_T31 t272 x10_3).f0) = t278
                        · rw [if_pos c46] at H
                          have c46b0 : (((rd_T31 t272 x10_3).f0) == t278) = true := beq_iff_eq.mpr c46
                          have c46b1 : (((rd_T31 t272 x10_3).f0) != t278) = false := bne_eq_false_iff_eq.mpr c46
                          clear c46
                          by_cases c47 : ((rd_T31 t272 x10_3).f1) = t276
                          · rw [if_pos c47] at H
                            have c47b0 : (((rd_T31 t272 x10_3).f1) == t276) = true := beq_iff_eq.mpr c47
                            have c47b1 : (((rd_T31 t272 x10_3).f1) != t276) = false := bne_eq_false_iff_eq.mpr c47
                            clear c47
                            by_cases c48 : ((rd_T31 t272 x10_3).f2) = t279
                            · rw [if_pos c48] at H
                              have c48b0 : (((rd_T31 t272 x10_3).f2) == t279) = true := beq_iff_eq.mpr c48
                              have c48b1 : (((rd_T31 t272 x10_3).f2) != t279) = false := bne_eq_false_iff_eq.mpr c48
                              clear c48
                              by_cases c49 : ((rd_T31 t272 x10_3).f3) = t280
                              · rw [if_pos c49] at H
                                have c49b0 : (((rd_T31 t272 x10_3).f3) == t280) = true := beq_iff_eq.mpr c49
                                have c49b1 : (((rd_T31 t272 x10_3).f3) != t280) = false := bne_eq_false_iff_eq.mpr c49
                                clear c49
                                by_cases c50 : t275 = 0
                                · rw [if_pos c50] at H
                                  have c50b0 : (t275 == 0) = true := beq_iff_eq.mpr c50
                                  have c50b1 : (t275 != 0) = false := bne_eq_false_iff_eq.mpr c50
                                  clear c50
                                  obtain ⟨bq51, hbq51⟩ : ∃ b_ : Bool, b_ = ((rd_T31 t272 x10_3).f4) := ⟨_, rfl⟩
                                  replace H : (if bq51 = true then (laws_FnRulesLet.l0 k3 l1 t272 t275 t283 true (wrap64 (x10_3 + 1)) t276 t277 t278 t279 t280 t281) else (if t275 = 1 then (laws_FnRulesLet.l0 k3 l1 t272 t275 t283 ((rd_T31 t272 x10_3).f5) (wrap64 (x10_3 + 1)) t276 t277 t278 t279 t280 t281) else (laws_FnRulesLet.l0 k3 l1 t272 t275 t283 false (wrap64 (x10_3 + 1)) t276 t277 t278 t279 t280 t281))) = some r := by rw [← hbq51] at H; exact H
                                  have Nbq51 := Aside0.mk hbq51
                                  clear hbq51
                                  by_cases c52 : bq51 = true
                                  · subst c52
                                    have H1 : (laws_FnRulesLet.l0 k3 l1 t272 t275 t283 true (wrap64 (x10_3 + 1)) t276 t277 t278 t279 t280 t281) = some r := by rw [if_pos rfl] at H; exact H
                                    clear H
                                    have H := H1
                                    clear H1
                                    have H' := Aside0.mk H
                                    clear H
                                    have p291 : 0 ≤ (x10_3 : Int) := of_decide_eq_true (by first | (with_reducible assumption) | assumption)
                                    have q291 : x10_3 < (t272.length : Int) := of_decide_eq_true (by first | (with_reducible assumption) | assumption)
                                    obtain ⟨ad291, e291, hx291_0, hx291_1, hx291_2, hx291_3, hx291_4, hx291_5⟩ := at_T31 (Kd.R_reads' HO_5.out).2.2 x10_3 p291 q291
                                    (try rw [← Nbq51.out] at hx291_4)
                                    (try rw [← Nbq51.out] at hx291_5)
                                    cases e291
                                    replace p291 := eq_true p291
                                    replace q291 := eq_true q291
                                    go_wp2_with (first | ((with_reducible refine gate_dst (N := 11) rfl ?_); (try (refine gate_guard (by rfl) ?_; dsimp only)); refine box_event ?hg (N := 11) ?hd (cs := #[.int .i64 0, .int .i64 0, .int .i64 0, .int .i64 0, .bool false, .bool false]) (t := 31) ?hr ?_; (case hd => rfl); (case hg => rfl); (case hr => first | (go_simp; done) | (go_simp; rfl)); intro gb292 hg w53 hbox hb; have n0_ := Aside0.mk (Kd.R_below (Kd.R_elderB (by (with_reducible repeat (first | apply Kd.R_alloc | apply Kd.R_drewN | apply Kd.R_drew)); exact HO_5.out) gb292 (Nat.le_of_eq hg.symm)) hb); have n1_ := Aside0.mk (blk_below (g := gb282) (o := .cells #[.int .i64 t276, .int .i64 t277, .int .i64 t278, .int .i64 t279, .int .i64 t280, .string t281] 25 (0, 0)) (by (with_reducible repeat (first | refine blk_drewN ?_ _ | refine blk_drew ?_ | refine blk_alloc ?_ _)); exact BK282.out) hb); have n2_ := Aside0.mk (below_step (by repeat (first | (with_reducible first | exact HB.out | apply below_alloc | apply pw_below_drewN | apply below_drew1 | refine below_set ?_ GE282.out) | exact HB.out)) hb); have n3_ := Aside0.mk (hbox); have n4_ := Aside0.mk ((by rw [hg]; exact (below_size (by repeat (first | (with_reducible first | exact HB.out | apply below_alloc | apply pw_below_drewN | apply below_drew1 | refine below_set ?_ GE282.out) | exact HB.out))) : w.heap.size ≤ gb292)); have n5_ := Aside0.mk ((by rw [hg]; exact (below_size (by repeat (first | (with_reducible first | exact HB.out | apply below_alloc | apply pw_below_drewN | apply below_drew1 | refine below_set ?_ GE282.out) | exact HB.out))) : w.heap.size ≤ gb292)); have n6_ := Aside0.mk ((by rw [hg]; exact Nat.ne_of_lt (blk_lt (g := gb282) (o := .cells #[.int .i64 t276, .int .i64 t277, .int .i64 t278, .int .i64 t279, .int .i64 t280, .string t281] 25 (0, 0)) (by (with_reducible repeat (first | refine blk_drewN ?_ _ | refine blk_drew ?_ | refine blk_alloc ?_ _)); exact BK282.out)) : gb282 ≠ gb292)); have n7_ := Aside0.mk ((by rw [hg]; exact Nat.ne_of_gt (blk_lt (g := gb282) (o := .cells #[.int .i64 t276, .int .i64 t277, .int .i64 t278, .int .i64 t279, .int .i64 t280, .string t281] 25 (0, 0)) (by (with_reducible repeat (first | refine blk_drewN ?_ _ | refine blk_drew ?_ | refine blk_alloc ?_ _)); exact BK282.out)) : gb292 ≠ gb282)); clear HO_5; clear BK282; clear HB; have HO_5 := n0_; have BK282 := n1_; have HB := n2_; have BK292 := n3_; have GW292 := n4_; have GE292 := n5_; have NB282_292 := n6_; have NB292_282 := n7_; clear n0_ n1_ n2_ n3_ n4_ n5_ n6_ n7_; clear hb hbox hg; have hnb54 := NB292_282.out; have hnc54 := NB282_292.out; have hcz55_0 : w53.cell? ⟨gb292, 0, none⟩ = some (.int .i64 0) := (blk_cell BK292.out 0).trans rfl; have hcz55_1 : w53.cell? ⟨gb292, 1, none⟩ = some (.int .i64 0) := (blk_cell BK292.out 1).trans rfl; have hcz55_2 : w53.cell? ⟨gb292, 2, none⟩ = some (.int .i64 0) := (blk_cell BK292.out 2).trans rfl; have hcz55_3 : w53.cell? ⟨gb292, 3, none⟩ = some (.int .i64 0) := (blk_cell BK292.out 3).trans rfl; have hcz55_4 : w53.cell? ⟨gb292, 4, none⟩ = some (.bool false) := (blk_cell BK292.out 4).trans rfl; have hcz55_5 : w53.cell? ⟨gb292, 5, none⟩ = some (.bool false) := (blk_cell BK292.out 5).trans rfl; have hfz55_0 := blk_frozen BK292.out 0; have hfz55_1 := blk_frozen BK292.out 1; have hfz55_2 := blk_frozen BK292.out 2; have hfz55_3 := blk_frozen BK292.out 3; have hfz55_4 := blk_frozen BK292.out 4; have hfz55_5 := blk_frozen BK292.out 5; have hcz56_0 : w53.cell? ⟨gb282, 0, none⟩ = some (.int .i64 t276) := (blk_cell BK282.out 0).trans rfl; have hcz56_1 : w53.cell? ⟨gb282, 1, none⟩ = some (.int .i64 t277) := (blk_cell BK282.out 1).trans rfl; have hcz56_2 : w53.cell? ⟨gb282, 2, none⟩ = some (.int .i64 t278) := (blk_cell BK282.out 2).trans rfl; have hcz56_3 : w53.cell? ⟨gb282, 3, none⟩ = some (.int .i64 t279) := (blk_cell BK282.out 3).trans rfl; have hcz56_4 : w53.cell? ⟨gb282, 4, none⟩ = some (.int .i64 t280) := (blk_cell BK282.out 4).trans rfl; have hcz56_5 : w53.cell? ⟨gb282, 5, none⟩ = some (.string t281) := (blk_cell BK282.out 5).trans rfl; have hfz56_0 := blk_frozen BK282.out 0; have hfz56_1 := blk_frozen BK282.out 1; have hfz56_2 := blk_frozen BK282.out 2; have hfz56_3 := blk_frozen BK282.out 3; have hfz56_4 := blk_frozen BK282.out 4; have hfz56_5 := blk_frozen BK282.out 5))
                                    go_roundg k3
                                    case measure => have := HJ2.out; have := HJ7.out; have := HK3.out; omega
                                    case rel => exact ⟨(true), (wrap64 (x10_3 + 1)), (by first | rfl | (simp; done) | (simp [*]; done)), (by first | rfl | (simp; done) | (simp [*]; done)), H', ⟨by have := HJ2.out; have := HJ7.out; have := HK3.out; omega⟩, ⟨by (with_reducible repeat (first | apply Kd.R_alloc | apply Kd.R_drewN | apply Kd.R_drew)); exact Kd.R_mono (Kd.R_far (p := ⟨gb292, 5, none⟩) (Kd.R_far (p := ⟨gb292, 4, none⟩) (Kd.R_far (p := ⟨gb292, 3, none⟩) (Kd.R_far (p := ⟨gb292, 2, none⟩) (Kd.R_far (p := ⟨gb292, 1, none⟩) (Kd.R_far (p := ⟨gb292, 0, none⟩) (Kd.R_mono HO_5.out (fun k_ hk => (⟨hk, hk.2⟩ : _ ∧ k_ ≠ gb292))) (fun _ hk => hk.2) (.int .i64 ((rd_T31 t272 x10_3).f0))) (fun _ hk => hk.2) (.int .i64 ((rd_T31 t272 x10_3).f1))) (fun _ hk => hk.2) (.int .i64 ((rd_T31 t272 x10_3).f2))) (fun _ hk => hk.2) (.int .i64 ((rd_T31 t272 x10_3).f3))) (fun _ hk => hk.2) (.bool true)) (fun _ hk => hk.2) (.bool ((rd_T31 t272 x10_3).f5))) (fun _ hk => trivial)⟩, ⟨by (with_reducible repeat (first | refine blk_drewN ?_ _ | refine blk_drew ?_ | refine blk_alloc ?_ _)); refine blk_far ?_ NB282_292.out _; (with_reducible repeat (first | refine blk_drewN ?_ _ | refine blk_drew ?_ | refine blk_alloc ?_ _)); refine blk_far ?_ NB282_292.out _; (with_reducible repeat (first | refine blk_drewN ?_ _ | refine blk_drew ?_ | refine blk_alloc ?_ _)); refine blk_far ?_ NB282_292.out _; (with_reducible repeat (first | refine blk_drewN ?_ _ | refine blk_drew ?_ | refine blk_alloc ?_ _)); refine blk_far ?_ NB282_292.out _; (with_reducible repeat (first | refine blk_drewN ?_ _ | refine blk_drew ?_ | refine blk_alloc ?_ _)); refine blk_far ?_ NB282_292.out _; (with_reducible repeat (first | refine blk_drewN ?_ _ | refine blk_drew ?_ | refine blk_alloc ?_ _)); refine blk_far ?_ NB282_292.out _; (with_reducible repeat (first | refine blk_drewN ?_ _ | refine blk_drew ?_ | refine blk_alloc ?_ _)); exact BK282.out⟩, ⟨by repeat (first | (with_reducible first | exact HB.out | apply below_alloc | apply pw_below_drewN | apply below_drew1 | refine below_set ?_ GE282.out | refine below_set ?_ GE292.out) | exact HB.out)⟩⟩
                                  · replace c52 := Bool.eq_false_iff.mpr c52
                                    subst c52
                                    have H1 : (if t275 = 1 then (laws_FnRulesLet.l0 k3 l1 t272 t275 t283 ((rd_T31 t272 x10_3).f5) (wrap64 (x10_3 + 1)) t276 t277 t278 t279 t280 t281) else (laws_FnRulesLet.l0 k3 l1 t272 t275 t283 false (wrap64 (x10_3 + 1)) t276 t277 t278 t279 t280 t281)) = some r := by rw [if_neg (show ¬ (false = true) by decide)] at H; exact H
                                    clear H
                                    have H := H1
                                    clear H1
                                    by_cases c57 : t275 = 1
                                    · rw [if_pos c57] at H
                                      have c57b0 : (t275 == 1) = true := beq_iff_eq.mpr c57
                                      have c57b1 : (t275 != 1) = false := bne_eq_false_iff_eq.mpr c57
                                      clear c57
                                      have H' := Aside0.mk H
                                      clear H
                                      have p291 : 0 ≤ (x10_3 : Int) := of_decide_eq_true (by first | (with_reducible assumption) | assumption)
                                      have q291 : x10_3 < (t272.length : Int) := of_decide_eq_true (by first | (with_reducible assumption) | assumption)
                                      obtain ⟨ad291, e291, hx291_0, hx291_1, hx291_2, hx291_3, hx291_4, hx291_5⟩ := at_T31 (Kd.R_reads' HO_5.out).2.2 x10_3 p291 q291
                                      (try rw [← Nbq51.out] at hx291_4)
                                      (try rw [← Nbq51.out] at hx291_5)
                                      cases e291
                                      replace p291 := eq_true p291
                                      replace q291 := eq_true q291
                                      go_wp2_with (first | ((with_reducible refine gate_dst (N := 11) rfl ?_); (try (refine gate_guard (by rfl) ?_; dsimp only)); refine box_event ?hg (N := 11) ?hd (cs := #[.int .i64 0, .int .i64 0, .int .i64 0, .int .i64 0, .bool false, .bool false]) (t := 31) ?hr ?_; (case hd => rfl); (case hg => rfl); (case hr => first | (go_simp; done) | (go_simp; rfl)); intro gb292 hg w58 hbox hb; have n0_ := Aside0.mk (Kd.R_below (Kd.R_elderB (by (with_reducible repeat (first | apply Kd.R_alloc | apply Kd.R_drewN | apply Kd.R_drew)); exact HO_5.out) gb292 (Nat.le_of_eq hg.symm)) hb); have n1_ := Aside0.mk (blk_below (g := gb282) (o := .cells #[.int .i64 t276, .int .i64 t277, .int .i64 t278, .int .i64 t279, .int .i64 t280, .string t281] 25 (0, 0)) (by (with_reducible repeat (first | refine blk_drewN ?_ _ | refine blk_drew ?_ | refine blk_alloc ?_ _)); exact BK282.out) hb); have n2_ := Aside0.mk (below_step (by repeat (first | (with_reducible first | exact HB.out | apply below_alloc | apply pw_below_drewN | apply below_drew1 | refine below_set ?_ GE282.out) | exact HB.out)) hb); have n3_ := Aside0.mk (hbox); have n4_ := Aside0.mk ((by rw [hg]; exact (below_size (by repeat (first | (with_reducible first | exact HB.out | apply below_alloc | apply pw_below_drewN | apply below_drew1 | refine below_set ?_ GE282.out) | exact HB.out))) : w.heap.size ≤ gb292)); have n5_ := Aside0.mk ((by rw [hg]; exact (below_size (by repeat (first | (with_reducible first | exact HB.out | apply below_alloc | apply pw_below_drewN | apply below_drew1 | refine below_set ?_ GE282.out) | exact HB.out))) : w.heap.size ≤ gb292)); have n6_ := Aside0.mk ((by rw [hg]; exact Nat.ne_of_lt (blk_lt (g := gb282) (o := .cells #[.int .i64 t276, .int .i64 t277, .int .i64 t278, .int .i64 t279, .int .i64 t280, .string t281] 25 (0, 0)) (by (with_reducible repeat (first | refine blk_drewN ?_ _ | refine blk_drew ?_ | refine blk_alloc ?_ _)); exact BK282.out)) : gb282 ≠ gb292)); have n7_ := Aside0.mk ((by rw [hg]; exact Nat.ne_of_gt (blk_lt (g := gb282) (o := .cells #[.int .i64 t276, .int .i64 t277, .int .i64 t278, .int .i64 t279, .int .i64 t280, .string t281] 25 (0, 0)) (by (with_reducible repeat (first | refine blk_drewN ?_ _ | refine blk_drew ?_ | refine blk_alloc ?_ _)); exact BK282.out)) : gb292 ≠ gb282)); clear HO_5; clear BK282; clear HB; have HO_5 := n0_; have BK282 := n1_; have HB := n2_; have BK292 := n3_; have GW292 := n4_; have GE292 := n5_; have NB282_292 := n6_; have NB292_282 := n7_; clear n0_ n1_ n2_ n3_ n4_ n5_ n6_ n7_; clear hb hbox hg; have hnb59 := NB292_282.out; have hnc59 := NB282_292.out; have hcz60_0 : w58.cell? ⟨gb292, 0, none⟩ = some (.int .i64 0) := (blk_cell BK292.out 0).trans rfl; have hcz60_1 : w58.cell? ⟨gb292, 1, none⟩ = some (.int .i64 0) := (blk_cell BK292.out 1).trans rfl; have hcz60_2 : w58.cell? ⟨gb292, 2, none⟩ = some (.int .i64 0) := (blk_cell BK292.out 2).trans rfl; have hcz60_3 : w58.cell? ⟨gb292, 3, none⟩ = some (.int .i64 0) := (blk_cell BK292.out 3).trans rfl; have hcz60_4 : w58.cell? ⟨gb292, 4, none⟩ = some (.bool false) := (blk_cell BK292.out 4).trans rfl; have hcz60_5 : w58.cell? ⟨gb292, 5, none⟩ = some (.bool false) := (blk_cell BK292.out 5).trans rfl; have hfz60_0 := blk_frozen BK292.out 0; have hfz60_1 := blk_frozen BK292.out 1; have hfz60_2 := blk_frozen BK292.out 2; have hfz60_3 := blk_frozen BK292.out 3; have hfz60_4 := blk_frozen BK292.out 4; have hfz60_5 := blk_frozen BK292.out 5; have hcz61_0 : w58.cell? ⟨gb282, 0, none⟩ = some (.int .i64 t276) := (blk_cell BK282.out 0).trans rfl; have hcz61_1 : w58.cell? ⟨gb282, 1, none⟩ = some (.int .i64 t277) := (blk_cell BK282.out 1).trans rfl; have hcz61_2 : w58.cell? ⟨gb282, 2, none⟩ = some (.int .i64 t278) := (blk_cell BK282.out 2).trans rfl; have hcz61_3 : w58.cell? ⟨gb282, 3, none⟩ = some (.int .i64 t279) := (blk_cell BK282.out 3).trans rfl; have hcz61_4 : w58.cell? ⟨gb282, 4, none⟩ = some (.int .i64 t280) := (blk_cell BK282.out 4).trans rfl; have hcz61_5 : w58.cell? ⟨gb282, 5, none⟩ = some (.string t281) := (blk_cell BK282.out 5).trans rfl; have hfz61_0 := blk_frozen BK282.out 0; have hfz61_1 := blk_frozen BK282.out 1; have hfz61_2 := blk_frozen BK282.out 2; have hfz61_3 := blk_frozen BK282.out 3; have hfz61_4 := blk_frozen BK282.out 4; have hfz61_5 := blk_frozen BK282.out 5))
                                      go_roundg k3
                                      case measure => have := HJ2.out; have := HJ7.out; have := HK3.out; omega
                                      case rel => exact ⟨((rd_T31 t272 x10_3).f5), (wrap64 (x10_3 + 1)), (by first | rfl | (simp; done) | (simp [*]; done)), (by first | rfl | (simp; done) | (simp [*]; done)), H', ⟨by have := HJ2.out; have := HJ7.out; have := HK3.out; omega⟩, ⟨by (with_reducible repeat (first | apply Kd.R_alloc | apply Kd.R_drewN | apply Kd.R_drew)); exact Kd.R_mono (Kd.R_far (p := ⟨gb292, 5, none⟩) (Kd.R_far (p := ⟨gb292, 4, none⟩) (Kd.R_far (p := ⟨gb292, 3, none⟩) (Kd.R_far (p := ⟨gb292, 2, none⟩) (Kd.R_far (p := ⟨gb292, 1, none⟩) (Kd.R_far (p := ⟨gb292, 0, none⟩) (Kd.R_mono HO_5.out (fun k_ hk => (⟨hk, hk.2⟩ : _ ∧ k_ ≠ gb292))) (fun _ hk => hk.2) (.int .i64 ((rd_T31 t272 x10_3).f0))) (fun _ hk => hk.2) (.int .i64 ((rd_T31 t272 x10_3).f1))) (fun _ hk => hk.2) (.int .i64 ((rd_T31 t272 x10_3).f2))) (fun _ hk => hk.2) (.int .i64 ((rd_T31 t272 x10_3).f3))) (fun _ hk => hk.2) (.bool false)) (fun _ hk => hk.2) (.bool ((rd_T31 t272 x10_3).f5))) (fun _ hk => trivial)⟩, ⟨by (with_reducible repeat (first | refine blk_drewN ?_ _ | refine blk_drew ?_ | refine blk_alloc ?_ _)); refine blk_far ?_ NB282_292.out _; (with_reducible repeat (first | refine blk_drewN ?_ _ | refine blk_drew ?_ | refine blk_alloc ?_ _)); refine blk_far ?_ NB282_292.out _; (with_reducible repeat (first | refine blk_drewN ?_ _ | refine blk_drew ?_ | refine blk_alloc ?_ _)); refine blk_far ?_ NB282_292.out _; (with_reducible repeat (first | refine blk_drewN ?_ _ | refine blk_drew ?_ | refine blk_alloc ?_ _)); refine blk_far ?_ NB282_292.out _; (with_reducible repeat (first | refine blk_drewN ?_ _ | refine blk_drew ?_ | refine blk_alloc ?_ _)); refine blk_far ?_ NB282_292.out _; (with_reducible repeat (first | refine blk_drewN ?_ _ | refine blk_drew ?_ | refine blk_alloc ?_ _)); refine blk_far ?_ NB282_292.out _; (with_reducible repeat (first | refine blk_drewN ?_ _ | refine blk_drew ?_ | refine blk_alloc ?_ _)); exact BK282.out⟩, ⟨by repeat (first | (with_reducible first | exact HB.out | apply below_alloc | apply pw_below_drewN | apply below_drew1 | refine below_set ?_ GE282.out | refine below_set ?_ GE292.out) | exact HB.out)⟩⟩
                                    · rw [if_neg c57] at H
                                      have c57b0 : (t275 == 1) = false := beq_eq_false_iff_ne.mpr c57
                                      have c57b1 : (t275 != 1) = true := bne_iff_ne.mpr c57
                                      have H' := Aside0.mk H
                                      clear H
                                      have p291 : 0 ≤ (x10_3 : Int) := of_decide_eq_true (by first | (with_reducible assumption) | assumption)
                                      have q291 : x10_3 < (t272.length : Int) := of_decide_eq_true (by first | (with_reducible assumption) | assumption)
                                      obtain ⟨ad291, e291, hx291_0, hx291_1, hx291_2, hx291_3, hx291_4, hx291_5⟩ := at_T31 (Kd.R_reads' HO_5.out).2.2 x10_3 p291 q291
                                      (try rw [← Nbq51.out] at hx291_4)
                                      (try rw [← Nbq51.out] at hx291_5)
                                      cases e291
                                      replace p291 := eq_true p291
                                      replace q291 := eq_true q291
                                      go_wp2_with (first | ((with_reducible refine gate_dst (N := 11) rfl ?_); (try (refine gate_guard (by rfl) ?_; dsimp only)); refine box_event ?hg (N := 11) ?hd (cs := #[.int .i64 0, .int .i64 0, .int .i64 0, .int .i64 0, .bool false, .bool false]) (t := 31) ?hr ?_; (case hd => rfl); (case hg => rfl); (case hr => first | (go_simp; done) | (go_simp; rfl)); intro gb292 hg w62 hbox hb; have n0_ := Aside0.mk (Kd.R_below (Kd.R_elderB (by (with_reducible repeat (first | apply Kd.R_alloc | apply Kd.R_drewN | apply Kd.R_drew)); exact HO_5.out) gb292 (Nat.le_of_eq hg.symm)) hb); have n1_ := Aside0.mk (blk_below (g := gb282) (o := .cells #[.int .i64 t276, .int .i64 t277, .int .i64 t278, .int .i64 t279, .int .i64 t280, .string t281] 25 (0, 0)) (by (with_reducible repeat (first | refine blk_drewN ?_ _ | refine blk_drew ?_ | refine blk_alloc ?_ _)); exact BK282.out) hb); have n2_ := Aside0.mk (below_step (by repeat (first | (with_reducible first | exact HB.out | apply below_alloc | apply pw_below_drewN | apply below_drew1 | refine below_set ?_ GE282.out) | exact HB.out)) hb); have n3_ := Aside0.mk (hbox); have n4_ := Aside0.mk ((by rw [hg]; exact (below_size (by repeat (first | (with_reducible first | exact HB.out | apply below_alloc | apply pw_below_drewN | apply below_drew1 | refine below_set ?_ GE282.out) | exact HB.out))) : w.heap.size ≤ gb292)); have n5_ := Aside0.mk ((by rw [hg]; exact (below_size (by repeat (first | (with_reducible first | exact HB.out | apply below_alloc | apply pw_below_drewN | apply below_drew1 | refine below_set ?_ GE282.out) | exact HB.out))) : w.heap.size ≤ gb292)); have n6_ := Aside0.mk ((by rw [hg]; exact Nat.ne_of_lt (blk_lt (g := gb282) (o := .cells #[.int .i64 t276, .int .i64 t277, .int .i64 t278, .int .i64 t279, .int .i64 t280, .string t281] 25 (0, 0)) (by (with_reducible repeat (first | refine blk_drewN ?_ _ | refine blk_drew ?_ | refine blk_alloc ?_ _)); exact BK282.out)) : gb282 ≠ gb292)); have n7_ := Aside0.mk ((by rw [hg]; exact Nat.ne_of_gt (blk_lt (g := gb282) (o := .cells #[.int .i64 t276, .int .i64 t277, .int .i64 t278, .int .i64 t279, .int .i64 t280, .string t281] 25 (0, 0)) (by (with_reducible repeat (first | refine blk_drewN ?_ _ | refine blk_drew ?_ | refine blk_alloc ?_ _)); exact BK282.out)) : gb292 ≠ gb282)); clear HO_5; clear BK282; clear HB; have HO_5 := n0_; have BK282 := n1_; have HB := n2_; have BK292 := n3_; have GW292 := n4_; have GE292 := n5_; have NB282_292 := n6_; have NB292_282 := n7_; clear n0_ n1_ n2_ n3_ n4_ n5_ n6_ n7_; clear hb hbox hg; have hnb63 := NB292_282.out; have hnc63 := NB282_292.out; have hcz64_0 : w62.cell? ⟨gb292, 0, none⟩ = some (.int .i64 0) := (blk_cell BK292.out 0).trans rfl; have hcz64_1 : w62.cell? ⟨gb292, 1, none⟩ = some (.int .i64 0) := (blk_cell BK292.out 1).trans rfl; have hcz64_2 : w62.cell? ⟨gb292, 2, none⟩ = some (.int .i64 0) := (blk_cell BK292.out 2).trans rfl; have hcz64_3 : w62.cell? ⟨gb292, 3, none⟩ = some (.int .i64 0) := (blk_cell BK292.out 3).trans rfl; have hcz64_4 : w62.cell? ⟨gb292, 4, none⟩ = some (.bool false) := (blk_cell BK292.out 4).trans rfl; have hcz64_5 : w62.cell? ⟨gb292, 5, none⟩ = some (.bool false) := (blk_cell BK292.out 5).trans rfl; have hfz64_0 := blk_frozen BK292.out 0; have hfz64_1 := blk_frozen BK292.out 1; have hfz64_2 := blk_frozen BK292.out 2; have hfz64_3 := blk_frozen BK292.out 3; have hfz64_4 := blk_frozen BK292.out 4; have hfz64_5 := blk_frozen BK292.out 5; have hcz65_0 : w62.cell? ⟨gb282, 0, none⟩ = some (.int .i64 t276) := (blk_cell BK282.out 0).trans rfl; have hcz65_1 : w62.cell? ⟨gb282, 1, none⟩ = some (.int .i64 t277) := (blk_cell BK282.out 1).trans rfl; have hcz65_2 : w62.cell? ⟨gb282, 2, none⟩ = some (.int .i64 t278) := (blk_cell BK282.out 2).trans rfl; have hcz65_3 : w62.cell? ⟨gb282, 3, none⟩ = some (.int .i64 t279) := (blk_cell BK282.out 3).trans rfl; have hcz65_4 : w62.cell? ⟨gb282, 4, none⟩ = some (.int .i64 t280) := (blk_cell BK282.out 4).trans rfl; have hcz65_5 : w62.cell? ⟨gb282, 5, none⟩ = some (.string t281) := (blk_cell BK282.out 5).trans rfl; have hfz65_0 := blk_frozen BK282.out 0; have hfz65_1 := blk_frozen BK282.out 1; have hfz65_2 := blk_frozen BK282.out 2; have hfz65_3 := blk_frozen BK282.out 3; have hfz65_4 := blk_frozen BK282.out 4; have hfz65_5 := blk_frozen BK282.out 5))
                                      go_roundg k3
                                      case measure => have := HJ2.out; have := HJ7.out; have := HK3.out; omega
                                      case rel => exact ⟨(false), (wrap64 (x10_3 + 1)), (by first | rfl | (simp; done) | (simp [*]; done)), (by first | rfl | (simp; done) | (simp [*]; done)), H', ⟨by have := HJ2.out; have := HJ7.out; have := HK3.out; omega⟩, ⟨by (with_reducible repeat (first | apply Kd.R_alloc | apply Kd.R_drewN | apply Kd.R_drew)); exact Kd.R_mono (Kd.R_far (p := ⟨gb292, 5, none⟩) (Kd.R_far (p := ⟨gb292, 4, none⟩) (Kd.R_far (p := ⟨gb292, 3, none⟩) (Kd.R_far (p := ⟨gb292, 2, none⟩) (Kd.R_far (p := ⟨gb292, 1, none⟩) (Kd.R_far (p := ⟨gb292, 0, none⟩) (Kd.R_mono HO_5.out (fun k_ hk => (⟨hk, hk.2⟩ : _ ∧ k_ ≠ gb292))) (fun _ hk => hk.2) (.int .i64 ((rd_T31 t272 x10_3).f0))) (fun _ hk => hk.2) (.int .i64 ((rd_T31 t272 x10_3).f1))) (fun _ hk => hk.2) (.int .i64 ((rd_T31 t272 x10_3).f2))) (fun _ hk => hk.2) (.int .i64 ((rd_T31 t272 x10_3).f3))) (fun _ hk => hk.2) (.bool false)) (fun _ hk => hk.2) (.bool ((rd_T31 t272 x10_3).f5))) (fun _ hk => trivial)⟩, ⟨by (with_reducible repeat (first | refine blk_drewN ?_ _ | refine blk_drew ?_ | refine blk_alloc ?_ _)); refine blk_far ?_ NB282_292.out _; (with_reducible repeat (first | refine blk_drewN ?_ _ | refine blk_drew ?_ | refine blk_alloc ?_ _)); refine blk_far ?_ NB282_292.out _; (with_reducible repeat (first | refine blk_drewN ?_ _ | refine blk_drew ?_ | refine blk_alloc ?_ _)); refine blk_far ?_ NB282_292.out _; (with_reducible repeat (first | refine blk_drewN ?_ _ | refine blk_drew ?_ | refine blk_alloc ?_ _)); refine blk_far ?_ NB282_292.out _; (with_reducible repeat (first | refine blk_drewN ?_ _ | refine blk_drew ?_ | refine blk_alloc ?_ _)); refine blk_far ?_ NB282_292.out _; (with_reducible repeat (first | refine blk_drewN ?_ _ | refine blk_drew ?_ | refine blk_alloc ?_ _)); refine blk_far ?_ NB282_292.out _; (with_reducible repeat (first | refine blk_drewN ?_ _ | refine blk_drew ?_ | refine blk_alloc ?_ _)); exact BK282.out⟩, ⟨by repeat (first | (with_reducible first | exact HB.out | apply below_alloc | apply pw_below_drewN | apply below_drew1 | refine below_set ?_ GE282.out | refine below_set ?_ GE292.out) | exact HB.out)⟩⟩
                                · rw [if_neg c50] at H
                                  have c50b0 : (t275 == 0) = false := beq_eq_false_iff_ne.mpr c50
                                  have c50b1 : (t275 != 0) = true := bne_iff_ne.mpr c50
                                  by_cases c66 : t275 = 1
                                  · rw [if_pos c66] at H
                                    have c66b0 : (t275 == 1) = true := beq_iff_eq.mpr c66
                                    have c66b1 : (t275 != 1) = false := bne_eq_false_iff_eq.mpr c66
                                    clear c66
                                    have H' := Aside0.mk H
                                    clear H
                                    have p291 : 0 ≤ (x10_3 : Int) := of_decide_eq_true (by first | (with_reducible assumption) | assumption)
                                    have q291 : x10_3 < (t272.length : Int) := of_decide_eq_true (by first | (with_reducible assumption) | assumption)
                                    obtain ⟨ad291, e291, hx291_0, hx291_1, hx291_2, hx291_3, hx291_4, hx291_5⟩ := at_T31 (Kd.R_reads' HO_5.out).2.2 x10_3 p291 q291
                                    cases e291
                                    replace p291 := eq_true p291
                                    replace q291 := eq_true q291
                                    go_wp2_with (first | ((with_reducible refine gate_dst (N := 11) rfl ?_); (try (refine gate_guard (by rfl) ?_; dsimp only)); refine box_event ?hg (N := 11) ?hd (cs := #[.int .i64 0, .int .i64 0, .int .i64 0, .int .i64 0, .bool false, .bool false]) (t := 31) ?hr ?_; (case hd => rfl); (case hg => rfl); (case hr => first | (go_simp; done) | (go_simp; rfl)); intro gb292 hg w67 hbox hb; have n0_ := Aside0.mk (Kd.R_below (Kd.R_elderB (by (with_reducible repeat (first | apply Kd.R_alloc | apply Kd.R_drewN | apply Kd.R_drew)); exact HO_5.out) gb292 (Nat.le_of_eq hg.symm)) hb); have n1_ := Aside0.mk (blk_below (g := gb282) (o := .cells #[.int .i64 t276, .int .i64 t277, .int .i64 t278, .int .i64 t279, .int .i64 t280, .string t281] 25 (0, 0)) (by (with_reducible repeat (first | refine blk_drewN ?_ _ | refine blk_drew ?_ | refine blk_alloc ?_ _)); exact BK282.out) hb); have n2_ := Aside0.mk (below_step (by repeat (first | (with_reducible first | exact HB.out | apply below_alloc | apply pw_below_drewN | apply below_drew1 | refine below_set ?_ GE282.out) | exact HB.out)) hb); have n3_ := Aside0.mk (hbox); have n4_ := Aside0.mk ((by rw [hg]; exact (below_size (by repeat (first | (with_reducible first | exact HB.out | apply below_alloc | apply pw_below_drewN | apply below_drew1 | refine below_set ?_ GE282.out) | exact HB.out))) : w.heap.size ≤ gb292)); have n5_ := Aside0.mk ((by rw [hg]; exact (below_size (by repeat (first | (with_reducible first | exact HB.out | apply below_alloc | apply pw_below_drewN | apply below_drew1 | refine below_set ?_ GE282.out) | exact HB.out))) : w.heap.size ≤ gb292)); have n6_ := Aside0.mk ((by rw [hg]; exact Nat.ne_of_lt (blk_lt (g := gb282) (o := .cells #[.int .i64 t276, .int .i64 t277, .int .i64 t278, .int .i64 t279, .int .i64 t280, .string t281] 25 (0, 0)) (by (with_reducible repeat (first | refine blk_drewN ?_ _ | refine blk_drew ?_ | refine blk_alloc ?_ _)); exact BK282.out)) : gb282 ≠ gb292)); have n7_ := Aside0.mk ((by rw [hg]; exact Nat.ne_of_gt (blk_lt (g := gb282) (o := .cells #[.int .i64 t276, .int .i64 t277, .int .i64 t278, .int .i64 t279, .int .i64 t280, .string t281] 25 (0, 0)) (by (with_reducible repeat (first | refine blk_drewN ?_ _ | refine blk_drew ?_ | refine blk_alloc ?_ _)); exact BK282.out)) : gb292 ≠ gb282)); clear HO_5; clear BK282; clear HB; have HO_5 := n0_; have BK282 := n1_; have HB := n2_; have BK292 := n3_; have GW292 := n4_; have GE292 := n5_; have NB282_292 := n6_; have NB292_282 := n7_; clear n0_ n1_ n2_ n3_ n4_ n5_ n6_ n7_; clear hb hbox hg; have hnb68 := NB292_282.out; have hnc68 := NB282_292.out; have hcz69_0 : w67.cell? ⟨gb292, 0, none⟩ = some (.int .i64 0) := (blk_cell BK292.out 0).trans rfl; have hcz69_1 : w67.cell? ⟨gb292, 1, none⟩ = some (.int .i64 0) := (blk_cell BK292.out 1).trans rfl; have hcz69_2 : w67.cell? ⟨gb292, 2, none⟩ = some (.int .i64 0) := (blk_cell BK292.out 2).trans rfl; have hcz69_3 : w67.cell? ⟨gb292, 3, none⟩ = some (.int .i64 0) := (blk_cell BK292.out 3).trans rfl; have hcz69_4 : w67.cell? ⟨gb292, 4, none⟩ = some (.bool false) := (blk_cell BK292.out 4).trans rfl; have hcz69_5 : w67.cell? ⟨gb292, 5, none⟩ = some (.bool false) := (blk_cell BK292.out 5).trans rfl; have hfz69_0 := blk_frozen BK292.out 0; have hfz69_1 := blk_frozen BK292.out 1; have hfz69_2 := blk_frozen BK292.out 2; have hfz69_3 := blk_frozen BK292.out 3; have hfz69_4 := blk_frozen BK292.out 4; have hfz69_5 := blk_frozen BK292.out 5; have hcz70_0 : w67.cell? ⟨gb282, 0, none⟩ = some (.int .i64 t276) := (blk_cell BK282.out 0).trans rfl; have hcz70_1 : w67.cell? ⟨gb282, 1, none⟩ = some (.int .i64 t277) := (blk_cell BK282.out 1).trans rfl; have hcz70_2 : w67.cell? ⟨gb282, 2, none⟩ = some (.int .i64 t278) := (blk_cell BK282.out 2).trans rfl; have hcz70_3 : w67.cell? ⟨gb282, 3, none⟩ = some (.int .i64 t279) := (blk_cell BK282.out 3).trans rfl; have hcz70_4 : w67.cell? ⟨gb282, 4, none⟩ = some (.int .i64 t280) := (blk_cell BK282.out 4).trans rfl; have hcz70_5 : w67.cell? ⟨gb282, 5, none⟩ = some (.string t281) := (blk_cell BK282.out 5).trans rfl; have hfz70_0 := blk_frozen BK282.out 0; have hfz70_1 := blk_frozen BK282.out 1; have hfz70_2 := blk_frozen BK282.out 2; have hfz70_3 := blk_frozen BK282.out 3; have hfz70_4 := blk_frozen BK282.out 4; have hfz70_5 := blk_frozen BK282.out 5))
                                    go_roundg k3
                                    case measure => have := HJ2.out; have := HJ7.out; have := HK3.out; omega
                                    case rel => exact ⟨((rd_T31 t272 x10_3).f5), (wrap64 (x10_3 + 1)), (by first | rfl | (simp; done) | (simp [*]; done)), (by first | rfl | (simp; done) | (simp [*]; done)), H', ⟨by have := HJ2.out; have := HJ7.out; have := HK3.out; omega⟩, ⟨by (with_reducible repeat (first | apply Kd.R_alloc | apply Kd.R_drewN | apply Kd.R_drew)); exact Kd.R_mono (Kd.R_far (p := ⟨gb292, 5, none⟩) (Kd.R_far (p := ⟨gb292, 4, none⟩) (Kd.R_far (p := ⟨gb292, 3, none⟩) (Kd.R_far (p := ⟨gb292, 2, none⟩) (Kd.R_far (p := ⟨gb292, 1, none⟩) (Kd.R_far (p := ⟨gb292, 0, none⟩) (Kd.R_mono HO_5.out (fun k_ hk => (⟨hk, hk.2⟩ : _ ∧ k_ ≠ gb292))) (fun _ hk => hk.2) (.int .i64 ((rd_T31 t272 x10_3).f0))) (fun _ hk => hk.2) (.int .i64 ((rd_T31 t272 x10_3).f1))) (fun _ hk => hk.2) (.int .i64 ((rd_T31 t272 x10_3).f2))) (fun _ hk => hk.2) (.int .i64 ((rd_T31 t272 x10_3).f3))) (fun _ hk => hk.2) (.bool ((rd_T31 t272 x10_3).f4))) (fun _ hk => hk.2) (.bool ((rd_T31 t272 x10_3).f5))) (fun _ hk => trivial)⟩, ⟨by (with_reducible repeat (first | refine blk_drewN ?_ _ | refine blk_drew ?_ | refine blk_alloc ?_ _)); refine blk_far ?_ NB282_292.out _; (with_reducible repeat (first | refine blk_drewN ?_ _ | refine blk_drew ?_ | refine blk_alloc ?_ _)); refine blk_far ?_ NB282_292.out _; (with_reducible repeat (first | refine blk_drewN ?_ _ | refine blk_drew ?_ | refine blk_alloc ?_ _)); refine blk_far ?_ NB282_292.out _; (with_reducible repeat (first | refine blk_drewN ?_ _ | refine blk_drew ?_ | refine blk_alloc ?_ _)); refine blk_far ?_ NB282_292.out _; (with_reducible repeat (first | refine blk_drewN ?_ _ | refine blk_drew ?_ | refine blk_alloc ?_ _)); refine blk_far ?_ NB282_292.out _; (with_reducible repeat (first | refine blk_drewN ?_ _ | refine blk_drew ?_ | refine blk_alloc ?_ _)); refine blk_far ?_ NB282_292.out _; (with_reducible repeat (first | refine blk_drewN ?_ _ | refine blk_drew ?_ | refine blk_alloc ?_ _)); exact BK282.out⟩, ⟨by repeat (first | (with_reducible first | exact HB.out | apply below_alloc | apply pw_below_drewN | apply below_drew1 | refine below_set ?_ GE282.out | refine below_set ?_ GE292.out) | exact HB.out)⟩⟩
                                  · rw [if_neg c66] at H
                                    have c66b0 : (t275 == 1) = false := beq_eq_false_iff_ne.mpr c66
                                    have c66b1 : (t275 != 1) = true := bne_iff_ne.mpr c66
                                    have H' := Aside0.mk H
                                    clear H
                                    have p291 : 0 ≤ (x10_3 : Int) := of_decide_eq_true (by first | (with_reducible assumption) | assumption)
                                    have q291 : x10_3 < (t272.length : Int) := of_decide_eq_true (by first | (with_reducible assumption) | assumption)
                                    obtain ⟨ad291, e291, hx291_0, hx291_1, hx291_2, hx291_3, hx291_4, hx291_5⟩ := at_T31 (Kd.R_reads' HO_5.out).2.2 x10_3 p291 q291
                                    cases e291
                                    replace p291 := eq_true p291
                                    replace q291 := eq_true q291
                                    go_wp2_with (first | ((with_reducible refine gate_dst (N := 11) rfl ?_); (try (refine gate_guard (by rfl) ?_; dsimp only)); refine box_event ?hg (N := 11) ?hd (cs := #[.int .i64 0, .int .i64 0, .int .i64 0, .int .i64 0, .bool false, .bool false]) (t := 31) ?hr ?_; (case hd => rfl); (case hg => rfl); (case hr => first | (go_simp; done) | (go_simp; rfl)); intro gb292 hg w71 hbox hb; have n0_ := Aside0.mk (Kd.R_below (Kd.R_elderB (by (with_reducible repeat (first | apply Kd.R_alloc | apply Kd.R_drewN | apply Kd.R_drew)); exact HO_5.out) gb292 (Nat.le_of_eq hg.symm)) hb); have n1_ := Aside0.mk (blk_below (g := gb282) (o := .cells #[.int .i64 t276, .int .i64 t277, .int .i64 t278, .int .i64 t279, .int .i64 t280, .string t281] 25 (0, 0)) (by (with_reducible repeat (first | refine blk_drewN ?_ _ | refine blk_drew ?_ | refine blk_alloc ?_ _)); exact BK282.out) hb); have n2_ := Aside0.mk (below_step (by repeat (first | (with_reducible first | exact HB.out | apply below_alloc | apply pw_below_drewN | apply below_drew1 | refine below_set ?_ GE282.out) | exact HB.out)) hb); have n3_ := Aside0.mk (hbox); have n4_ := Aside0.mk ((by rw [hg]; exact (below_size (by repeat (first | (with_reducible first | exact HB.out | apply below_alloc | apply pw_below_drewN | apply below_drew1 | refine below_set ?_ GE282.out) | exact HB.out))) : w.heap.size ≤ gb292)); have n5_ := Aside0.mk ((by rw [hg]; exact (below_size (by repeat (first | (with_reducible first | exact HB.out | apply below_alloc | apply pw_below_drewN | apply below_drew1 | refine below_set ?_ GE282.out) | exact HB.out))) : w.heap.size ≤ gb292)); have n6_ := Aside0.mk ((by rw [hg]; exact Nat.ne_of_lt (blk_lt (g := gb282) (o := .cells #[.int .i64 t276, .int .i64 t277, .int .i64 t278, .int .i64 t279, .int .i64 t280, .string t281] 25 (0, 0)) (by (with_reducible repeat (first | refine blk_drewN ?_ _ | refine blk_drew ?_ | refine blk_alloc ?_ _)); exact BK282.out)) : gb282 ≠ gb292)); have n7_ := Aside0.mk ((by rw [hg]; exact Nat.ne_of_gt (blk_lt (g := gb282) (o := .cells #[.int .i64 t276, .int .i64 t277, .int .i64 t278, .int .i64 t279, .int .i64 t280, .string t281] 25 (0, 0)) (by (with_reducible repeat (first | refine blk_drewN ?_ _ | refine blk_drew ?_ | refine blk_alloc ?_ _)); exact BK282.out)) : gb292 ≠ gb282)); clear HO_5; clear BK282; clear HB; have HO_5 := n0_; have BK282 := n1_; have HB := n2_; have BK292 := n3_; have GW292 := n4_; have GE292 := n5_; have NB282_292 := n6_; have NB292_282 := n7_; clear n0_ n1_ n2_ n3_ n4_ n5_ n6_ n7_; clear hb hbox hg; have hnb72 := NB292_282.out; have hnc72 := NB282_292.out; have hcz73_0 : w71.cell? ⟨gb292, 0, none⟩ = some (.int .i64 0) := (blk_cell BK292.out 0).trans rfl; have hcz73_1 : w71.cell? ⟨gb292, 1, none⟩ = some (.int .i64 0) := (blk_cell BK292.out 1).trans rfl; have hcz73_2 : w71.cell? ⟨gb292, 2, none⟩ = some (.int .i64 0) := (blk_cell BK292.out 2).trans rfl; have hcz73_3 : w71.cell? ⟨gb292, 3, none⟩ = some (.int .i64 0) := (blk_cell BK292.out 3).trans rfl; have hcz73_4 : w71.cell? ⟨gb292, 4, none⟩ = some (.bool false) := (blk_cell BK292.out 4).trans rfl; have hcz73_5 : w71.cell? ⟨gb292, 5, none⟩ = some (.bool false) := (blk_cell BK292.out 5).trans rfl; have hfz73_0 := blk_frozen BK292.out 0; have hfz73_1 := blk_frozen BK292.out 1; have hfz73_2 := blk_frozen BK292.out 2; have hfz73_3 := blk_frozen BK292.out 3; have hfz73_4 := blk_frozen BK292.out 4; have hfz73_5 := blk_frozen BK292.out 5; have hcz74_0 : w71.cell? ⟨gb282, 0, none⟩ = some (.int .i64 t276) := (blk_cell BK282.out 0).trans rfl; have hcz74_1 : w71.cell? ⟨gb282, 1, none⟩ = some (.int .i64 t277) := (blk_cell BK282.out 1).trans rfl; have hcz74_2 : w71.cell? ⟨gb282, 2, none⟩ = some (.int .i64 t278) := (blk_cell BK282.out 2).trans rfl; have hcz74_3 : w71.cell? ⟨gb282, 3, none⟩ = some (.int .i64 t279) := (blk_cell BK282.out 3).trans rfl; have hcz74_4 : w71.cell? ⟨gb282, 4, none⟩ = some (.int .i64 t280) := (blk_cell BK282.out 4).trans rfl; have hcz74_5 : w71.cell? ⟨gb282, 5, none⟩ = some (.string t281) := (blk_cell BK282.out 5).trans rfl; have hfz74_0 := blk_frozen BK282.out 0; have hfz74_1 := blk_frozen BK282.out 1; have hfz74_2 := blk_frozen BK282.out 2; have hfz74_3 := blk_frozen BK282.out 3; have hfz74_4 := blk_frozen BK282.out 4; have hfz74_5 := blk_frozen BK282.out 5))
                                    go_roundg k3
                                    case measure => have := HJ2.out; have := HJ7.out; have := HK3.out; omega
                                    case rel => exact ⟨(false), (wrap64 (x10_3 + 1)), (by first | rfl | (simp; done) | (simp [*]; done)), (by first | rfl | (simp; done) | (simp [*]; done)), H', ⟨by have := HJ2.out; have := HJ7.out; have := HK3.out; omega⟩, ⟨by (with_reducible repeat (first | apply Kd.R_alloc | apply Kd.R_drewN | apply Kd.R_drew)); exact Kd.R_mono (Kd.R_far (p := ⟨gb292, 5, none⟩) (Kd.R_far (p := ⟨gb292, 4, none⟩) (Kd.R_far (p := ⟨gb292, 3, none⟩) (Kd.R_far (p := ⟨gb292, 2, none⟩) (Kd.R_far (p := ⟨gb292, 1, none⟩) (Kd.R_far (p := ⟨gb292, 0, none⟩) (Kd.R_mono HO_5.out (fun k_ hk => (⟨hk, hk.2⟩ : _ ∧ k_ ≠ gb292))) (fun _ hk => hk.2) (.int .i64 ((rd_T31 t272 x10_3).f0))) (fun _ hk => hk.2) (.int .i64 ((rd_T31 t272 x10_3).f1))) (fun _ hk => hk.2) (.int .i64 ((rd_T31 t272 x10_3).f2))) (fun _ hk => hk.2) (.int .i64 ((rd_T31 t272 x10_3).f3))) (fun _ hk => hk.2) (.bool ((rd_T31 t272 x10_3).f4))) (fun _ hk => hk.2) (.bool ((rd_T31 t272 x10_3).f5))) (fun _ hk => trivial)⟩, ⟨by (with_reducible repeat (first | refine blk_drewN ?_ _ | refine blk_drew ?_ | refine blk_alloc ?_ _)); refine blk_far ?_ NB282_292.out _; (with_reducible repeat (first | refine blk_drewN ?_ _ | refine blk_drew ?_ | refine blk_alloc ?_ _)); refine blk_far ?_ NB282_292.out _; (with_reducible repeat (first | refine blk_drewN ?_ _ | refine blk_drew ?_ | refine blk_alloc ?_ _)); refine blk_far ?_ NB282_292.out _; (with_reducible repeat (first | refine blk_drewN ?_ _ | refine blk_drew ?_ | refine blk_alloc ?_ _)); refine blk_far ?_ NB282_292.out _; (with_reducible repeat (first | refine blk_drewN ?_ _ | refine blk_drew ?_ | refine blk_alloc ?_ _)); refine blk_far ?_ NB282_292.out _; (with_reducible repeat (first | refine blk_drewN ?_ _ | refine blk_drew ?_ | refine blk_alloc ?_ _)); refine blk_far ?_ NB282_292.out _; (with_reducible repeat (first | refine blk_drewN ?_ _ | refine blk_drew ?_ | refine blk_alloc ?_ _)); exact BK282.out⟩, ⟨by repeat (first | (with_reducible first | exact HB.out | apply below_alloc | apply pw_below_drewN | apply below_drew1 | refine below_set ?_ GE282.out | refine below_set ?_ GE292.out) | exact HB.out)⟩⟩
                              · rw [if_neg c49] at H
                                have c49b0 : (((rd_T31 t272 x10_3).f3) == t280) = false := beq_eq_false_iff_ne.mpr c49
                                have c49b1 : (((rd_T31 t272 x10_3).f3) != t280) = true := bne_iff_ne.mpr c49
                                have H' := Aside0.mk H
                                clear H
                                have p291 : 0 ≤ (x10_3 : Int) := of_decide_eq_true (by first | (with_reducible assumption) | assumption)
                                have q291 : x10_3 < (t272.length : Int) := of_decide_eq_true (by first | (with_reducible assumption) | assumption)
                                obtain ⟨ad291, e291, hx291_0, hx291_1, hx291_2, hx291_3, hx291_4, hx291_5⟩ := at_T31 (Kd.R_reads' HO_5.out).2.2 x10_3 p291 q291
                                cases e291
                                replace p291 := eq_true p291
                                replace q291 := eq_true q291
                                go_wp2_with (first | ((with_reducible refine gate_dst (N := 11) rfl ?_); (try (refine gate_guard (by rfl) ?_; dsimp only)); refine box_event ?hg (N := 11) ?hd (cs := #[.int .i64 0, .int .i64 0, .int .i64 0, .int .i64 0, .bool false, .bool false]) (t := 31) ?hr ?_; (case hd => rfl); (case hg => rfl); (case hr => first | (go_simp; done) | (go_simp; rfl)); intro gb292 hg w75 hbox hb; have n0_ := Aside0.mk (Kd.R_below (Kd.R_elderB (by (with_reducible repeat (first | apply Kd.R_alloc | apply Kd.R_drewN | apply Kd.R_drew)); exact HO_5.out) gb292 (Nat.le_of_eq hg.symm)) hb); have n1_ := Aside0.mk (blk_below (g := gb282) (o := .cells #[.int .i64 t276, .int .i64 t277, .int .i64 t278, .int .i64 t279, .int .i64 t280, .string t281] 25 (0, 0)) (by (with_reducible repeat (first | refine blk_drewN ?_ _ | refine blk_drew ?_ | refine blk_alloc ?_ _)); exact BK282.out) hb); have n2_ := Aside0.mk (below_step (by repeat (first | (with_reducible first | exact HB.out | apply below_alloc | apply pw_below_drewN | apply below_drew1 | refine below_set ?_ GE282.out) | exact HB.out)) hb); have n3_ := Aside0.mk (hbox); have n4_ := Aside0.mk ((by rw [hg]; exact (below_size (by repeat (first | (with_reducible first | exact HB.out | apply below_alloc | apply pw_below_drewN | apply below_drew1 | refine below_set ?_ GE282.out) | exact HB.out))) : w.heap.size ≤ gb292)); have n5_ := Aside0.mk ((by rw [hg]; exact (below_size (by repeat (first | (with_reducible first | exact HB.out | apply below_alloc | apply pw_below_drewN | apply below_drew1 | refine below_set ?_ GE282.out) | exact HB.out))) : w.heap.size ≤ gb292)); have n6_ := Aside0.mk ((by rw [hg]; exact Nat.ne_of_lt (blk_lt (g := gb282) (o := .cells #[.int .i64 t276, .int .i64 t277, .int .i64 t278, .int .i64 t279, .int .i64 t280, .string t281] 25 (0, 0)) (by (with_reducible repeat (first | refine blk_drewN ?_ _ | refine blk_drew ?_ | refine blk_alloc ?_ _)); exact BK282.out)) : gb282 ≠ gb292)); have n7_ := Aside0.mk ((by rw [hg]; exact Nat.ne_of_gt (blk_lt (g := gb282) (o := .cells #[.int .i64 t276, .int .i64 t277, .int .i64 t278, .int .i64 t279, .int .i64 t280, .string t281] 25 (0, 0)) (by (with_reducible repeat (first | refine blk_drewN ?_ _ | refine blk_drew ?_ | refine blk_alloc ?_ _)); exact BK282.out)) : gb292 ≠ gb282)); clear HO_5; clear BK282; clear HB; have HO_5 := n0_; have BK282 := n1_; have HB := n2_; have BK292 := n3_; have GW292 := n4_; have GE292 := n5_; have NB282_292 := n6_; have NB292_282 := n7_; clear n0_ n1_ n2_ n3_ n4_ n5_ n6_ n7_; clear hb hbox hg; have hnb76 := NB292_282.out; have hnc76 := NB282_292.out; have hcz77_0 : w75.cell? ⟨gb292, 0, none⟩ = some (.int .i64 0) := (blk_cell BK292.out 0).trans rfl; have hcz77_1 : w75.cell? ⟨gb292, 1, none⟩ = some (.int .i64 0) := (blk_cell BK292.out 1).trans rfl; have hcz77_2 : w75.cell? ⟨gb292, 2, none⟩ = some (.int .i64 0) := (blk_cell BK292.out 2).trans rfl; have hcz77_3 : w75.cell? ⟨gb292, 3, none⟩ = some (.int .i64 0) := (blk_cell BK292.out 3).trans rfl; have hcz77_4 : w75.cell? ⟨gb292, 4, none⟩ = some (.bool false) := (blk_cell BK292.out 4).trans rfl; have hcz77_5 : w75.cell? ⟨gb292, 5, none⟩ = some (.bool false) := (blk_cell BK292.out 5).trans rfl; have hfz77_0 := blk_frozen BK292.out 0; have hfz77_1 := blk_frozen BK292.out 1; have hfz77_2 := blk_frozen BK292.out 2; have hfz77_3 := blk_frozen BK292.out 3; have hfz77_4 := blk_frozen BK292.out 4; have hfz77_5 := blk_frozen BK292.out 5; have hcz78_0 : w75.cell? ⟨gb282, 0, none⟩ = some (.int .i64 t276) := (blk_cell BK282.out 0).trans rfl; have hcz78_1 : w75.cell? ⟨gb282, 1, none⟩ = some (.int .i64 t277) := (blk_cell BK282.out 1).trans rfl; have hcz78_2 : w75.cell? ⟨gb282, 2, none⟩ = some (.int .i64 t278) := (blk_cell BK282.out 2).trans rfl; have hcz78_3 : w75.cell? ⟨gb282, 3, none⟩ = some (.int .i64 t279) := (blk_cell BK282.out 3).trans rfl; have hcz78_4 : w75.cell? ⟨gb282, 4, none⟩ = some (.int .i64 t280) := (blk_cell BK282.out 4).trans rfl; have hcz78_5 : w75.cell? ⟨gb282, 5, none⟩ = some (.string t281) := (blk_cell BK282.out 5).trans rfl; have hfz78_0 := blk_frozen BK282.out 0; have hfz78_1 := blk_frozen BK282.out 1; have hfz78_2 := blk_frozen BK282.out 2; have hfz78_3 := blk_frozen BK282.out 3; have hfz78_4 := blk_frozen BK282.out 4; have hfz78_5 := blk_frozen BK282.out 5))
                                go_roundg k3
                                case measure => have := HJ2.out; have := HJ7.out; have := HK3.out; omega
                                case rel => exact ⟨(false), (wrap64 (x10_3 + 1)), (by first | rfl | (simp; done) | (simp [*]; done)), (by first | rfl | (simp; done) | (simp [*]; done)), H', ⟨by have := HJ2.out; have := HJ7.out; have := HK3.out; omega⟩, ⟨by (with_reducible repeat (first | apply Kd.R_alloc | apply Kd.R_drewN | apply Kd.R_drew)); exact Kd.R_mono (Kd.R_far (p := ⟨gb292, 5, none⟩) (Kd.R_far (p := ⟨gb292, 4, none⟩) (Kd.R_far (p := ⟨gb292, 3, none⟩) (Kd.R_far (p := ⟨gb292, 2, none⟩) (Kd.R_far (p := ⟨gb292, 1, none⟩) (Kd.R_far (p := ⟨gb292, 0, none⟩) (Kd.R_mono HO_5.out (fun k_ hk => (⟨hk, hk.2⟩ : _ ∧ k_ ≠ gb292))) (fun _ hk => hk.2) (.int .i64 ((rd_T31 t272 x10_3).f0))) (fun _ hk => hk.2) (.int .i64 ((rd_T31 t272 x10_3).f1))) (fun _ hk => hk.2) (.int .i64 ((rd_T31 t272 x10_3).f2))) (fun _ hk => hk.2) (.int .i64 ((rd_T31 t272 x10_3).f3))) (fun _ hk => hk.2) (.bool ((rd_T31 t272 x10_3).f4))) (fun _ hk => hk.2) (.bool ((rd_T31 t272 x10_3).f5))) (fun _ hk => trivial)⟩, ⟨by (with_reducible repeat (first | refine blk_drewN ?_ _ | refine blk_drew ?_ | refine blk_alloc ?_ _)); refine blk_far ?_ NB282_292.out _; (with_reducible repeat (first | refine blk_drewN ?_ _ | refine blk_drew ?_ | refine blk_alloc ?_ _)); refine blk_far ?_ NB282_292.out _; (with_reducible repeat (first | refine blk_drewN ?_ _ | refine blk_drew ?_ | refine blk_alloc ?_ _)); refine blk_far ?_ NB282_292.out _; (with_reducible repeat (first | refine blk_drewN ?_ _ | refine blk_drew ?_ | refine blk_alloc ?_ _)); refine blk_far ?_ NB282_292.out _; (with_reducible repeat (first | refine blk_drewN ?_ _ | refine blk_drew ?_ | refine blk_alloc ?_ _)); refine blk_far ?_ NB282_292.out _; (with_reducible repeat (first | refine blk_drewN ?_ _ | refine blk_drew ?_ | refine blk_alloc ?_ _)); refine blk_far ?_ NB282_292.out _; (with_reducible repeat (first | refine blk_drewN ?_ _ | refine blk_drew ?_ | refine blk_alloc ?_ _)); exact BK282.out⟩, ⟨by repeat (first | (with_reducible first | exact HB.out | apply below_alloc | apply pw_below_drewN | apply below_drew1 | refine below_set ?_ GE282.out | refine below_set ?_ GE292.out) | exact HB.out)⟩⟩
                            · rw [if_neg c48] at H
                              have c48b0 : (((rd_T31 t272 x10_3).f2) == t279) = false := beq_eq_false_iff_ne.mpr c48
                              have c48b1 : (((rd_T31 t272 x10_3).f2) != t279) = true := bne_iff_ne.mpr c48
                              have H' := Aside0.mk H
                              clear H
                              have p291 : 0 ≤ (x10_3 : Int) := of_decide_eq_true (by first | (with_reducible assumption) | assumption)
                              have q291 : x10_3 < (t272.length : Int) := of_decide_eq_true (by first | (with_reducible assumption) | assumption)
                              obtain ⟨ad291, e291, hx291_0, hx291_1, hx291_2, hx291_3, hx291_4, hx291_5⟩ := at_T31 (Kd.R_reads' HO_5.out).2.2 x10_3 p291 q291
                              cases e291
                              replace p291 := eq_true p291
                              replace q291 := eq_true q291
                              go_wp2_with (first | ((with_reducible refine gate_dst (N := 11) rfl ?_); (try (refine gate_guard (by rfl) ?_; dsimp only)); refine box_event ?hg (N := 11) ?hd (cs := #[.int .i64 0, .int .i64 0, .int .i64 0, .int .i64 0, .bool false, .bool false]) (t := 31) ?hr ?_; (case hd => rfl); (case hg => rfl); (case hr => first | (go_simp; done) | (go_simp; rfl)); intro gb292 hg w79 hbox hb; have n0_ := Aside0.mk (Kd.R_below (Kd.R_elderB (by (with_reducible repeat (first | apply Kd.R_alloc | apply Kd.R_drewN | apply Kd.R_drew)); exact HO_5.out) gb292 (Nat.le_of_eq hg.symm)) hb); have n1_ := Aside0.mk (blk_below (g := gb282) (o := .cells #[.int .i64 t276, .int .i64 t277, .int .i64 t278, .int .i64 t279, .int .i64 t280, .string t281] 25 (0, 0)) (by (with_reducible repeat (first | refine blk_drewN ?_ _ | refine blk_drew ?_ | refine blk_alloc ?_ _)); exact BK282.out) hb); have n2_ := Aside0.mk (below_step (by repeat (first | (with_reducible first | exact HB.out | apply below_alloc | apply pw_below_drewN | apply below_drew1 | refine below_set ?_ GE282.out) | exact HB.out)) hb); have n3_ := Aside0.mk (hbox); have n4_ := Aside0.mk ((by rw [hg]; exact (below_size (by repeat (first | (with_reducible first | exact HB.out | apply below_alloc | apply pw_below_drewN | apply below_drew1 | refine below_set ?_ GE282.out) | exact HB.out))) : w.heap.size ≤ gb292)); have n5_ := Aside0.mk ((by rw [hg]; exact (below_size (by repeat (first | (with_reducible first | exact HB.out | apply below_alloc | apply pw_below_drewN | apply below_drew1 | refine below_set ?_ GE282.out) | exact HB.out))) : w.heap.size ≤ gb292)); have n6_ := Aside0.mk ((by rw [hg]; exact Nat.ne_of_lt (blk_lt (g := gb282) (o := .cells #[.int .i64 t276, .int .i64 t277, .int .i64 t278, .int .i64 t279, .int .i64 t280, .string t281] 25 (0, 0)) (by (with_reducible repeat (first | refine blk_drewN ?_ _ | refine blk_drew ?_ | refine blk_alloc ?_ _)); exact BK282.out)) : gb282 ≠ gb292)); have n7_ := Aside0.mk ((by rw [hg]; exact Nat.ne_of_gt (blk_lt (g := gb282) (o := .cells #[.int .i64 t276, .int .i64 t277, .int .i64 t278, .int .i64 t279, .int .i64 t280, .string t281] 25 (0, 0)) (by (with_reducible repeat (first | refine blk_drewN ?_ _ | refine blk_drew ?_ | refine blk_alloc ?_ _)); exact BK282.out)) : gb292 ≠ gb282)); clear HO_5; clear BK282; clear HB; have HO_5 := n0_; have BK282 := n1_; have HB := n2_; have BK292 := n3_; have GW292 := n4_; have GE292 := n5_; have NB282_292 := n6_; have NB292_282 := n7_; clear n0_ n1_ n2_ n3_ n4_ n5_ n6_ n7_; clear hb hbox hg; have hnb80 := NB292_282.out; have hnc80 := NB282_292.out; have hcz81_0 : w79.cell? ⟨gb292, 0, none⟩ = some (.int .i64 0) := (blk_cell BK292.out 0).trans rfl; have hcz81_1 : w79.cell? ⟨gb292, 1, none⟩ = some (.int .i64 0) := (blk_cell BK292.out 1).trans rfl; have hcz81_2 : w79.cell? ⟨gb292, 2, none⟩ = some (.int .i64 0) := (blk_cell BK292.out 2).trans rfl; have hcz81_3 : w79.cell? ⟨gb292, 3, none⟩ = some (.int .i64 0) := (blk_cell BK292.out 3).trans rfl; have hcz81_4 : w79.cell? ⟨gb292, 4, none⟩ = some (.bool false) := (blk_cell BK292.out 4).trans rfl; have hcz81_5 : w79.cell? ⟨gb292, 5, none⟩ = some (.bool false) := (blk_cell BK292.out 5).trans rfl; have hfz81_0 := blk_frozen BK292.out 0; have hfz81_1 := blk_frozen BK292.out 1; have hfz81_2 := blk_frozen BK292.out 2; have hfz81_3 := blk_frozen BK292.out 3; have hfz81_4 := blk_frozen BK292.out 4; have hfz81_5 := blk_frozen BK292.out 5; have hcz82_0 : w79.cell? ⟨gb282, 0, none⟩ = some (.int .i64 t276) := (blk_cell BK282.out 0).trans rfl; have hcz82_1 : w79.cell? ⟨gb282, 1, none⟩ = some (.int .i64 t277) := (blk_cell BK282.out 1).trans rfl; have hcz82_2 : w79.cell? ⟨gb282, 2, none⟩ = some (.int .i64 t278) := (blk_cell BK282.out 2).trans rfl; have hcz82_3 : w79.cell? ⟨gb282, 3, none⟩ = some (.int .i64 t279) := (blk_cell BK282.out 3).trans rfl; have hcz82_4 : w79.cell? ⟨gb282, 4, none⟩ = some (.int .i64 t280) := (blk_cell BK282.out 4).trans rfl; have hcz82_5 : w79.cell? ⟨gb282, 5, none⟩ = some (.string t281) := (blk_cell BK282.out 5).trans rfl; have hfz82_0 := blk_frozen BK282.out 0; have hfz82_1 := blk_frozen BK282.out 1; have hfz82_2 := blk_frozen BK282.out 2; have hfz82_3 := blk_frozen BK282.out 3; have hfz82_4 := blk_frozen BK282.out 4; have hfz82_5 := blk_frozen BK282.out 5))
                              go_roundg k3
                              case measure => have := HJ2.out; have := HJ7.out; have := HK3.out; omega
                              case rel => exact ⟨(false), (wrap64 (x10_3 + 1)), (by first | rfl | (simp; done) | (simp [*]; done)), (by first | rfl | (simp; done) | (simp [*]; done)), H', ⟨by have := HJ2.out; have := HJ7.out; have := HK3.out; omega⟩, ⟨by (with_reducible repeat (first | apply Kd.R_alloc | apply Kd.R_drewN | apply Kd.R_drew)); exact Kd.R_mono (Kd.R_far (p := ⟨gb292, 5, none⟩) (Kd.R_far (p := ⟨gb292, 4, none⟩) (Kd.R_far (p := ⟨gb292, 3, none⟩) (Kd.R_far (p := ⟨gb292, 2, none⟩) (Kd.R_far (p := ⟨gb292, 1, none⟩) (Kd.R_far (p := ⟨gb292, 0, none⟩) (Kd.R_mono HO_5.out (fun k_ hk => (⟨hk, hk.2⟩ : _ ∧ k_ ≠ gb292))) (fun _ hk => hk.2) (.int .i64 ((rd_T31 t272 x10_3).f0))) (fun _ hk => hk.2) (.int .i64 ((rd_T31 t272 x10_3).f1))) (fun _ hk => hk.2) (.int .i64 ((rd_T31 t272 x10_3).f2))) (fun _ hk => hk.2) (.int .i64 ((rd_T31 t272 x10_3).f3))) (fun _ hk => hk.2) (.bool ((rd_T31 t272 x10_3).f4))) (fun _ hk => hk.2) (.bool ((rd_T31 t272 x10_3).f5))) (fun _ hk => trivial)⟩, ⟨by (with_reducible repeat (first | refine blk_drewN ?_ _ | refine blk_drew ?_ | refine blk_alloc ?_ _)); refine blk_far ?_ NB282_292.out _; (with_reducible repeat (first | refine blk_drewN ?_ _ | refine blk_drew ?_ | refine blk_alloc ?_ _)); refine blk_far ?_ NB282_292.out _; (with_reducible repeat (first | refine blk_drewN ?_ _ | refine blk_drew ?_ | refine blk_alloc ?_ _)); refine blk_far ?_ NB282_292.out _; (with_reducible repeat (first | refine blk_drewN ?_ _ | refine blk_drew ?_ | refine blk_alloc ?_ _)); refine blk_far ?_ NB282_292.out _; (with_reducible repeat (first | refine blk_drewN ?_ _ | refine blk_drew ?_ | refine blk_alloc ?_ _)); refine blk_far ?_ NB282_292.out _; (with_reducible repeat (first | refine blk_drewN ?_ _ | refine blk_drew ?_ | refine blk_alloc ?_ _)); refine blk_far ?_ NB282_292.out _; (with_reducible repeat (first | refine blk_drewN ?_ _ | refine blk_drew ?_ | refine blk_alloc ?_ _)); exact BK282.out⟩, ⟨by repeat (first | (with_reducible first | exact HB.out | apply below_alloc | apply pw_below_drewN | apply below_drew1 | refine below_set ?_ GE282.out | refine below_set ?_ GE292.out) | exact HB.out)⟩⟩
                          · rw [if_neg c47] at H
                            have c47b0 : (((rd_T31 t272 x10_3).f1) == t276) = false := beq_eq_false_iff_ne.mpr c47
                            have c47b1 : (((rd_T31 t272 x10_3).f1) != t276) = true := bne_iff_ne.mpr c47
                            have H' := Aside0.mk H
                            clear H
                            have p291 : 0 ≤ (x10_3 : Int) := of_decide_eq_true (by first | (with_reducible assumption) | assumption)
                            have q291 : x10_3 < (t272.length : Int) := of_decide_eq_true (by first | (with_reducible assumption) | assumption)
                            obtain ⟨ad291, e291, hx291_0, hx291_1, hx291_2, hx291_3, hx291_4, hx291_5⟩ := at_T31 (Kd.R_reads' HO_5.out).2.2 x10_3 p291 q291
                            cases e291
                            replace p291 := eq_true p291
                            replace q291 := eq_true q291
                            go_wp2_with (first | ((with_reducible refine gate_dst (N := 11) rfl ?_); (try (refine gate_guard (by rfl) ?_; dsimp only)); refine box_event ?hg (N := 11) ?hd (cs := #[.int .i64 0, .int .i64 0, .int .i64 0, .int .i64 0, .bool false, .bool false]) (t := 31) ?hr ?_; (case hd => rfl); (case hg => rfl); (case hr => first | (go_simp; done) | (go_simp; rfl)); intro gb292 hg w83 hbox hb; have n0_ := Aside0.mk (Kd.R_below (Kd.R_elderB (by (with_reducible repeat (first | apply Kd.R_alloc | apply Kd.R_drewN | apply Kd.R_drew)); exact HO_5.out) gb292 (Nat.le_of_eq hg.symm)) hb); have n1_ := Aside0.mk (blk_below (g := gb282) (o := .cells #[.int .i64 t276, .int .i64 t277, .int .i64 t278, .int .i64 t279, .int .i64 t280, .string t281] 25 (0, 0)) (by (with_reducible repeat (first | refine blk_drewN ?_ _ | refine blk_drew ?_ | refine blk_alloc ?_ _)); exact BK282.out) hb); have n2_ := Aside0.mk (below_step (by repeat (first | (with_reducible first | exact HB.out | apply below_alloc | apply pw_below_drewN | apply below_drew1 | refine below_set ?_ GE282.out) | exact HB.out)) hb); have n3_ := Aside0.mk (hbox); have n4_ := Aside0.mk ((by rw [hg]; exact (below_size (by repeat (first | (with_reducible first | exact HB.out | apply below_alloc | apply pw_below_drewN | apply below_drew1 | refine below_set ?_ GE282.out) | exact HB.out))) : w.heap.size ≤ gb292)); have n5_ := Aside0.mk ((by rw [hg]; exact (below_size (by repeat (first | (with_reducible first | exact HB.out | apply below_alloc | apply pw_below_drewN | apply below_drew1 | refine below_set ?_ GE282.out) | exact HB.out))) : w.heap.size ≤ gb292)); have n6_ := Aside0.mk ((by rw [hg]; exact Nat.ne_of_lt (blk_lt (g := gb282) (o := .cells #[.int .i64 t276, .int .i64 t277, .int .i64 t278, .int .i64 t279, .int .i64 t280, .string t281] 25 (0, 0)) (by (with_reducible repeat (first | refine blk_drewN ?_ _ | refine blk_drew ?_ | refine blk_alloc ?_ _)); exact BK282.out)) : gb282 ≠ gb292)); have n7_ := Aside0.mk ((by rw [hg]; exact Nat.ne_of_gt (blk_lt (g := gb282) (o := .cells #[.int .i64 t276, .int .i64 t277, .int .i64 t278, .int .i64 t279, .int .i64 t280, .string t281] 25 (0, 0)) (by (with_reducible repeat (first | refine blk_drewN ?_ _ | refine blk_drew ?_ | refine blk_alloc ?_ _)); exact BK282.out)) : gb292 ≠ gb282)); clear HO_5; clear BK282; clear HB; have HO_5 := n0_; have BK282 := n1_; have HB := n2_; have BK292 := n3_; have GW292 := n4_; have GE292 := n5_; have NB282_292 := n6_; have NB292_282 := n7_; clear n0_ n1_ n2_ n3_ n4_ n5_ n6_ n7_; clear hb hbox hg; have hnb84 := NB292_282.out; have hnc84 := NB282_292.out; have hcz85_0 : w83.cell? ⟨gb292, 0, none⟩ = some (.int .i64 0) := (blk_cell BK292.out 0).trans rfl; have hcz85_1 : w83.cell? ⟨gb292, 1, none⟩ = some (.int .i64 0) := (blk_cell BK292.out 1).trans rfl; have hcz85_2 : w83.cell? ⟨gb292, 2, none⟩ = some (.int .i64 0) := (blk_cell BK292.out 2).trans rfl; have hcz85_3 : w83.cell? ⟨gb292, 3, none⟩ = some (.int .i64 0) := (blk_cell BK292.out 3).trans rfl; have hcz85_4 : w83.cell? ⟨gb292, 4, none⟩ = some (.bool false) := (blk_cell BK292.out 4).trans rfl; have hcz85_5 : w83.cell? ⟨gb292, 5, none⟩ = some (.bool false) := (blk_cell BK292.out 5).trans rfl; have hfz85_0 := blk_frozen BK292.out 0; have hfz85_1 := blk_frozen BK292.out 1; have hfz85_2 := blk_frozen BK292.out 2; have hfz85_3 := blk_frozen BK292.out 3; have hfz85_4 := blk_frozen BK292.out 4; have hfz85_5 := blk_frozen BK292.out 5; have hcz86_0 : w83.cell? ⟨gb282, 0, none⟩ = some (.int .i64 t276) := (blk_cell BK282.out 0).trans rfl; have hcz86_1 : w83.cell? ⟨gb282, 1, none⟩ = some (.int .i64 t277) := (blk_cell BK282.out 1).trans rfl; have hcz86_2 : w83.cell? ⟨gb282, 2, none⟩ = some (.int .i64 t278) := (blk_cell BK282.out 2).trans rfl; have hcz86_3 : w83.cell? ⟨gb282, 3, none⟩ = some (.int .i64 t279) := (blk_cell BK282.out 3).trans rfl; have hcz86_4 : w83.cell? ⟨gb282, 4, none⟩ = some (.int .i64 t280) := (blk_cell BK282.out 4).trans rfl; have hcz86_5 : w83.cell? ⟨gb282, 5, none⟩ = some (.string t281) := (blk_cell BK282.out 5).trans rfl; have hfz86_0 := blk_frozen BK282.out 0; have hfz86_1 := blk_frozen BK282.out 1; have hfz86_2 := blk_frozen BK282.out 2; have hfz86_3 := blk_frozen BK282.out 3; have hfz86_4 := blk_frozen BK282.out 4; have hfz86_5 := blk_frozen BK282.out 5))
                            go_roundg k3
                            case measure => have := HJ2.out; have := HJ7.out; have := HK3.out; omega
                            case rel => exact ⟨(false), (wrap64 (x10_3 + 1)), (by first | rfl | (simp; done) | (simp [*]; done)), (by first | rfl | (simp; done) | (simp [*]; done)), H', ⟨by have := HJ2.out; have := HJ7.out; have := HK3.out; omega⟩, ⟨by (with_reducible repeat (first | apply Kd.R_alloc | apply Kd.R_drewN | apply Kd.R_drew)); exact Kd.R_mono (Kd.R_far (p := ⟨gb292, 5, none⟩) (Kd.R_far (p := ⟨gb292, 4, none⟩) (Kd.R_far (p := ⟨gb292, 3, none⟩) (Kd.R_far (p := ⟨gb292, 2, none⟩) (Kd.R_far (p := ⟨gb292, 1, none⟩) (Kd.R_far (p := ⟨gb292, 0, none⟩) (Kd.R_mono HO_5.out (fun k_ hk => (⟨hk, hk.2⟩ : _ ∧ k_ ≠ gb292))) (fun _ hk => hk.2) (.int .i64 ((rd_T31 t272 x10_3).f0))) (fun _ hk => hk.2) (.int .i64 ((rd_T31 t272 x10_3).f1))) (fun _ hk => hk.2) (.int .i64 ((rd_T31 t272 x10_3).f2))) (fun _ hk => hk.2) (.int .i64 ((rd_T31 t272 x10_3).f3))) (fun _ hk => hk.2) (.bool ((rd_T31 t272 x10_3).f4))) (fun _ hk => hk.2) (.bool ((rd_T31 t272 x10_3).f5))) (fun _ hk => trivial)⟩, ⟨by (with_reducible repeat (first | refine blk_drewN ?_ _ | refine blk_drew ?_ | refine blk_alloc ?_ _)); refine blk_far ?_ NB282_292.out _; (with_reducible repeat (first | refine blk_drewN ?_ _ | refine blk_drew ?_ | refine blk_alloc ?_ _)); refine blk_far ?_ NB282_292.out _; (with_reducible repeat (first | refine blk_drewN ?_ _ | refine blk_drew ?_ | refine blk_alloc ?_ _)); refine blk_far ?_ NB282_292.out _; (with_reducible repeat (first | refine blk_drewN ?_ _ | refine blk_drew ?_ | refine blk_alloc ?_ _)); refine blk_far ?_ NB282_292.out _; (with_reducible repeat (first | refine blk_drewN ?_ _ | refine blk_drew ?_ | refine blk_alloc ?_ _)); refine blk_far ?_ NB282_292.out _; (with_reducible repeat (first | refine blk_drewN ?_ _ | refine blk_drew ?_ | refine blk_alloc ?_ _)); refine blk_far ?_ NB282_292.out _; (with_reducible repeat (first | refine blk_drewN ?_ _ | refine blk_drew ?_ | refine blk_alloc ?_ _)); exact BK282.out⟩, ⟨by repeat (first | (with_reducible first | exact HB.out | apply below_alloc | apply pw_below_drewN | apply below_drew1 | refine below_set ?_ GE282.out | refine below_set ?_ GE292.out) | exact HB.out)⟩⟩
                        · rw [if_neg c46] at H
                          have c46b0 : (((rd_T31 t272 x10_3).f0) == t278) = false := beq_eq_false_iff_ne.mpr c46
                          have c46b1 : (((rd_T31 t272 x10_3).f0) != t278) = true := bne_iff_ne.mpr c46
                          have H' := Aside0.mk H
                          clear H
                          have p291 : 0 ≤ (x10_3 : Int) := of_decide_eq_true (by first | (with_reducible assumption) | assumption)
                          have q291 : x10_3 < (t272.length : Int) := of_decide_eq_true (by first | (with_reducible assumption) | assumption)
                          obtain ⟨ad291, e291, hx291_0, hx291_1, hx291_2, hx291_3, hx291_4, hx291_5⟩ := at_T31 (Kd.R_reads' HO_5.out).2.2 x10_3 p291 q291
                          cases e291
                          replace p291 := eq_true p291
                          replace q291 := eq_true q291
                          go_wp2_with (first | ((with_reducible refine gate_dst (N := 11) rfl ?_); (try (refine gate_guard (by rfl) ?_; dsimp only)); refine box_event ?hg (N := 11) ?hd (cs := #[.int .i64 0, .int .i64 0, .int .i64 0, .int .i64 0, .bool false, .bool false]) (t := 31) ?hr ?_; (case hd => rfl); (case hg => rfl); (case hr => first | (go_simp; done) | (go_simp; rfl)); intro gb292 hg w87 hbox hb; have n0_ := Aside0.mk (Kd.R_below (Kd.R_elderB (by (with_reducible repeat (first | apply Kd.R_alloc | apply Kd.R_drewN | apply Kd.R_drew)); exact HO_5.out) gb292 (Nat.le_of_eq hg.symm)) hb); have n1_ := Aside0.mk (blk_below (g := gb282) (o := .cells #[.int .i64 t276, .int .i64 t277, .int .i64 t278, .int .i64 t279, .int .i64 t280, .string t281] 25 (0, 0)) (by (with_reducible repeat (first | refine blk_drewN ?_ _ | refine blk_drew ?_ | refine blk_alloc ?_ _)); exact BK282.out) hb); have n2_ := Aside0.mk (below_step (by repeat (first | (with_reducible first | exact HB.out | apply below_alloc | apply pw_below_drewN | apply below_drew1 | refine below_set ?_ GE282.out) | exact HB.out)) hb); have n3_ := Aside0.mk (hbox); have n4_ := Aside0.mk ((by rw [hg]; exact (below_size (by repeat (first | (with_reducible first | exact HB.out | apply below_alloc | apply pw_below_drewN | apply below_drew1 | refine below_set ?_ GE282.out) | exact HB.out))) : w.heap.size ≤ gb292)); have n5_ := Aside0.mk ((by rw [hg]; exact (below_size (by repeat (first | (with_reducible first | exact HB.out | apply below_alloc | apply pw_below_drewN | apply below_drew1 | refine below_set ?_ GE282.out) | exact HB.out))) : w.heap.size ≤ gb292)); have n6_ := Aside0.mk ((by rw [hg]; exact Nat.ne_of_lt (blk_lt (g := gb282) (o := .cells #[.int .i64 t276, .int .i64 t277, .int .i64 t278, .int .i64 t279, .int .i64 t280, .string t281] 25 (0, 0)) (by (with_reducible repeat (first | refine blk_drewN ?_ _ | refine blk_drew ?_ | refine blk_alloc ?_ _)); exact BK282.out)) : gb282 ≠ gb292)); have n7_ := Aside0.mk ((by rw [hg]; exact Nat.ne_of_gt (blk_lt (g := gb282) (o := .cells #[.int .i64 t276, .int .i64 t277, .int .i64 t278, .int .i64 t279, .int .i64 t280, .string t281] 25 (0, 0)) (by (with_reducible repeat (first | refine blk_drewN ?_ _ | refine blk_drew ?_ | refine blk_alloc ?_ _)); exact BK282.out)) : gb292 ≠ gb282)); clear HO_5; clear BK282; clear HB; have HO_5 := n0_; have BK282 := n1_; have HB := n2_; have BK292 := n3_; have GW292 := n4_; have GE292 := n5_; have NB282_292 := n6_; have NB292_282 := n7_; clear n0_ n1_ n2_ n3_ n4_ n5_ n6_ n7_; clear hb hbox hg; have hnb88 := NB292_282.out; have hnc88 := NB282_292.out; have hcz89_0 : w87.cell? ⟨gb292, 0, none⟩ = some (.int .i64 0) := (blk_cell BK292.out 0).trans rfl; have hcz89_1 : w87.cell? ⟨gb292, 1, none⟩ = some (.int .i64 0) := (blk_cell BK292.out 1).trans rfl; have hcz89_2 : w87.cell? ⟨gb292, 2, none⟩ = some (.int .i64 0) := (blk_cell BK292.out 2).trans rfl; have hcz89_3 : w87.cell? ⟨gb292, 3, none⟩ = some (.int .i64 0) := (blk_cell BK292.out 3).trans rfl; have hcz89_4 : w87.cell? ⟨gb292, 4, none⟩ = some (.bool false) := (blk_cell BK292.out 4).trans rfl; have hcz89_5 : w87.cell? ⟨gb292, 5, none⟩ = some (.bool false) := (blk_cell BK292.out 5).trans rfl; have hfz89_0 := blk_frozen BK292.out 0; have hfz89_1 := blk_frozen BK292.out 1; have hfz89_2 := blk_frozen BK292.out 2; have hfz89_3 := blk_frozen BK292.out 3; have hfz89_4 := blk_frozen BK292.out 4; have hfz89_5 := blk_frozen BK292.out 5; have hcz90_0 : w87.cell? ⟨gb282, 0, none⟩ = some (.int .i64 t276) := (blk_cell BK282.out 0).trans rfl; have hcz90_1 : w87.cell? ⟨gb282, 1, none⟩ = some (.int .i64 t277) := (blk_cell BK282.out 1).trans rfl; have hcz90_2 : w87.cell? ⟨gb282, 2, none⟩ = some (.int .i64 t278) := (blk_cell BK282.out 2).trans rfl; have hcz90_3 : w87.cell? ⟨gb282, 3, none⟩ = some (.int .i64 t279) := (blk_cell BK282.out 3).trans rfl; have hcz90_4 : w87.cell? ⟨gb282, 4, none⟩ = some (.int .i64 t280) := (blk_cell BK282.out 4).trans rfl; have hcz90_5 : w87.cell? ⟨gb282, 5, none⟩ = some (.string t281) := (blk_cell BK282.out 5).trans rfl; have hfz90_0 := blk_frozen BK282.out 0; have hfz90_1 := blk_frozen BK282.out 1; have hfz90_2 := blk_frozen BK282.out 2; have hfz90_3 := blk_frozen BK282.out 3; have hfz90_4 := blk_frozen BK282.out 4; have hfz90_5 := blk_frozen BK282.out 5))
                          go_roundg k3
                          case measure => have := HJ2.out; have := HJ7.out; have := HK3.out; omega
                          case rel => exact ⟨(false), (wrap64 (x10_3 + 1)), (by first | rfl | (simp; done) | (simp [*]; done)), (by first | rfl | (simp; done) | (simp [*]; done)), H', ⟨by have := HJ2.out; have := HJ7.out; have := HK3.out; omega⟩, ⟨by (with_reducible repeat (first | apply Kd.R_alloc | apply Kd.R_drewN | apply Kd.R_drew)); exact Kd.R_mono (Kd.R_far (p := ⟨gb292, 5, none⟩) (Kd.R_far (p := ⟨gb292, 4, none⟩) (Kd.R_far (p := ⟨gb292, 3, none⟩) (Kd.R_far (p := ⟨gb292, 2, none⟩) (Kd.R_far (p := ⟨gb292, 1, none⟩) (Kd.R_far (p := ⟨gb292, 0, none⟩) (Kd.R_mono HO_5.out (fun k_ hk => (⟨hk, hk.2⟩ : _ ∧ k_ ≠ gb292))) (fun _ hk => hk.2) (.int .i64 ((rd_T31 t272 x10_3).f0))) (fun _ hk => hk.2) (.int .i64 ((rd_T31 t272 x10_3).f1))) (fun _ hk => hk.2) (.int .i64 ((rd_T31 t272 x10_3).f2))) (fun _ hk => hk.2) (.int .i64 ((rd_T31 t272 x10_3).f3))) (fun _ hk => hk.2) (.bool ((rd_T31 t272 x10_3).f4))) (fun _ hk => hk.2) (.bool ((rd_T31 t272 x10_3).f5))) (fun _ hk => trivial)⟩, ⟨by (with_reducible repeat (first | refine blk_drewN ?_ _ | refine blk_drew ?_ | refine blk_alloc ?_ _)); refine blk_far ?_ NB282_292.out _; (with_reducible repeat (first | refine blk_drewN ?_ _ | refine blk_drew ?_ | refine blk_alloc ?_ _)); refine blk_far ?_ NB282_292.out _; (with_reducible repeat (first | refine blk_drewN ?_ _ | refine blk_drew ?_ | refine blk_alloc ?_ _)); refine blk_far ?_ NB282_292.out _; (with_reducible repeat (first | refine blk_drewN ?_ _ | refine blk_drew ?_ | refine blk_alloc ?_ _)); refine blk_far ?_ NB282_292.out _; (with_reducible repeat (first | refine blk_drewN ?_ _ | refine blk_drew ?_ | refine blk_alloc ?_ _)); refine blk_far ?_ NB282_292.out _; (with_reducible repeat (first | refine blk_drewN ?_ _ | refine blk_drew ?_ | refine blk_alloc ?_ _)); refine blk_far ?_ NB282_292.out _; (with_reducible repeat (first | refine blk_drewN ?_ _ | refine blk_drew ?_ | refine blk_alloc ?_ _)); exact BK282.out⟩, ⟨by repeat (first | (with_reducible first | exact HB.out | apply below_alloc | apply pw_below_drewN | apply below_drew1 | refine below_set ?_ GE282.out | refine below_set ?_ GE292.out) | exact HB.out)⟩⟩
                    · rw [if_neg c41] at H
                      exact absurd H (by simp)
                  · rw [if_neg c40] at H
                    have c40b0 : decide (x10_3 < (t272.length : Int)) = false := decide_eq_false c40
                    clear c40
                    by_cases c91 : (t283 != x9_3) = true
                    · rw [if_pos c91] at H
                      have c91b0 : (t283 != x9_3) = true := c91
                      (try (have c91b1 : decide (t283 = x9_3) = false := by simpa using c91))
                      (try (have c91b2 : (t283 == x9_3) = false := by simpa using c91))
                      (try (have c91b3 : ¬ (t283 = x9_3) := by simpa using c91))
                      clear c91
                      obtain rfl := Option.some.inj H
                      go_wp2
                      go_ret
                      exact ⟨by first | rfl | (simp [errW_none, errW_some] <;> rfl) | (simp [*, errW_none, errW_some] <;> rfl), by repeat (first | (with_reducible first | exact HB.out | apply below_alloc | apply pw_below_drewN | apply below_drew1 | refine below_set ?_ GE282.out) | exact HB.out)⟩
                    · rw [if_neg c91] at H
                      have c91b0 : (t283 != x9_3) = false := by simpa using c91
                      (try (have c91b1 : decide (t283 = x9_3) = true := by simpa using c91))
                      (try (have c91b2 : (t283 == x9_3) = true := by simpa using c91))
                      clear c91
                      by_cases c92 : (t272.length : Int) ≥ 12
                      · rw [if_pos c92] at H
                        have c92b0 : decide (12 ≤ (t272.length : Int)) = true := decide_eq_true c92
                        have c92b1 : decide (12 ≤ t272.length) = true := decide_eq_true (by omega)
                        clear c92
                        obtain rfl := Option.some.inj H
                        go_wp2
                        go_ret
                        exact ⟨by first | rfl | (simp [errW_none, errW_some] <;> rfl) | (simp [*, errW_none, errW_some] <;> rfl), by repeat (first | (with_reducible first | exact HB.out | apply below_alloc | apply pw_below_drewN | apply below_drew1 | refine below_set ?_ GE282.out) | exact HB.out)⟩
                      · rw [if_neg c92] at H
                        have c92b0 : decide (12 ≤ (t272.length : Int)) = false := decide_eq_false c92
                        have c92b1 : decide (12 ≤ t272.length) = false := decide_eq_false (by omega)
                        clear c92
                        obtain ⟨y293, hy293⟩ : ∃ y_ : List (S31), y_ = (([] : List (S31))) := ⟨_, rfl⟩
                        replace H : (if y293.length + t272.length < 3518437208883 then ((some (y293 ++ t272 : List (S31))).bind fun y296 => (if y296.length < 3518437208883 then (if t283 = true then ((impl_RulesLet.f k3 (y296 ++ [(⟨(l1.length : Int) % 3, 0, 0, 0, true, false⟩ : S31)]) t275 t276 t277 t278 t279 t280 t281).bind fun t302 => (some t302)) else (some true)) else (none))) else (none)) = some r := by first | (rw [hy293]; with_reducible exact H) | (have H2_ := (Option.bind_some _ _).symm.trans H; rw [hy293]; with_reducible exact H2_) | (have H2_ := (Option.bind_some _ _).symm.trans H; with_reducible exact H2_) | with_reducible exact H | (rw [hy293]; exact H) | exact H
                        have Ny293 := Aside0.mk hy293
                        clear hy293
                        by_cases c93 : y293.length + t272.length < 3518437208883
                        · rw [if_pos c93] at H
                          have LMc93 := Aside0.mk c93
                          clear c93
                          obtain ⟨y296, hy296⟩ : ∃ y_ : List (S31), y_ = (y293 ++ t272) := ⟨_, rfl⟩
                          replace H : (if y296.length < 3518437208883 then (if t283 = true then ((impl_RulesLet.f k3 (y296 ++ [(⟨(l1.length : Int) % 3, 0, 0, 0, true, false⟩ : S31)]) t275 t276 t277 t278 t279 t280 t281).bind fun t302 => (some t302)) else (some true)) else (none)) = some r := by first | (rw [hy296]; with_reducible exact H) | (have H2_ := (Option.bind_some _ _).symm.trans H; rw [hy296]; with_reducible exact H2_) | (have H2_ := (Option.bind_some _ _).symm.trans H; with_reducible exact H2_) | with_reducible exact H | (rw [hy296]; exact H) | exact H
                          have Ny296 := Aside0.mk hy296
                          clear hy296
                          by_cases c94 : y296.length < 3518437208883
                          · rw [if_pos c94] at H
                            have LMc94 := Aside0.mk c94
                            clear c94
                            obtain ⟨y299, hy299⟩ : ∃ y_ : List (S31), y_ = (y296 ++ [(⟨(l1.length : Int) % 3, 0, 0, 0, true, false⟩ : S31)]) := ⟨_, rfl⟩
                            replace H : (if t283 = true then ((impl_RulesLet.f k3 y299 t275 t276 t277 t278 t279 t280 t281).bind fun t302 => (some t302)) else (some true)) = some r := by first | (rw [hy299]; with_reducible exact H) | (have H2_ := (Option.bind_some _ _).symm.trans H; rw [hy299]; with_reducible exact H2_) | (have H2_ := (Option.bind_some _ _).symm.trans H; with_reducible exact H2_) | with_reducible exact H | (rw [hy299]; exact H) | exact H
                            have Ny299 := Aside0.mk hy299
                            clear hy299
                            by_cases c95 : t283 = true
                            · subst c95
                              have H1 : ((impl_RulesLet.f k3 y299 t275 t276 t277 t278 t279 t280 t281).bind fun t302 => (some t302)) = some r := by rw [if_pos rfl] at H; exact H
                              clear H
                              have H := H1
                              clear H1
                              replace H := Option.bind_eq_some_iff.mp H
                              obtain ⟨t302, A960, H⟩ := H
                              replace H : (some t302) = some r := H
                              have A96 := Aside0.mk A960
                              clear A960
                              obtain rfl := Option.some.inj H
                              go_wp2_with (first | ((with_reducible refine gate_dst (N := 128) rfl ?_); (try (refine gate_guard (by rfl) ?_; dsimp only)); refine Kd.R_lit k31 _ 31 ?hg (N := 128) ?hd (xs := ([] : List (S31))) (inner := []) (ok := fun _ => True) (okp := fun _ => True) ?hr ?hp (fun _ hk => hk) trivial (Below.refl _ _) (Nat.le_refl _) (by simp) ?_; (case hd => rfl); (case hg => rfl); (case hr => first | (go_simp; done) | (go_simp; rfl)); (case hp => exact (Reps.none _ _)); intro v294 w97 ho98 hb hg_ hnew_; clear hg_ hnew_; (first | rw [← Ny293.out] at ho98 | (simp only [Int.reduceToNat] at ho98; rw [← Ny293.out] at ho98)); have n0_ := Aside0.mk (Kd.R_elder' (by (with_reducible repeat (first | apply Kd.R_alloc | apply Kd.R_drewN | apply Kd.R_drew)); exact HO_5.out) (Kd.R_base ho98) hb); have n1_ := Aside0.mk (Kd.R_lower (Kd.R_new' ho98 (Kd.R_lt (by (with_reducible repeat (first | apply Kd.R_alloc | apply Kd.R_drewN | apply Kd.R_drew)); exact HO_5.out))) (below_size (by repeat (first | (with_reducible first | exact HB.out | apply below_alloc | apply pw_below_drewN | apply below_drew1 | refine below_set ?_ GE282.out) | exact HB.out)))); have n2_ := Aside0.mk (blk_below (g := gb282) (o := .cells #[.int .i64 t276, .int .i64 t277, .int .i64 t278, .int .i64 t279, .int .i64 t280, .string t281] 25 (0, 0)) (by (with_reducible repeat (first | refine blk_drewN ?_ _ | refine blk_drew ?_ | refine blk_alloc ?_ _)); exact BK282.out) hb); have n3_ := Aside0.mk (below_step (by repeat (first | (with_reducible first | exact HB.out | apply below_alloc | apply pw_below_drewN | apply below_drew1 | refine below_set ?_ GE282.out) | exact HB.out)) hb); clear HO_5; clear BK282; clear HB; have HO_5 := n0_; have HO295 := n1_; have BK282 := n2_; have HB := n3_; clear n0_ n1_ n2_ n3_; clear hb ho98) | ((with_reducible refine gate_builtin (b := .append) (xs := #[.tmp 128, .tmp 129]) rfl ?_); (try (refine gate_guard (by rfl) ?_; dsimp only)); at_builtin; refine Kd.R_append_rows k31 (w0 := w) w.heap.size rfl (.tmp 128) (.tmp 129) 23 31 (.agg #[(.int .i64 0), (.int .i64 0), (.int .i64 0), (.int .i64 0), (.bool false), (.bool false)]) 40 rfl Try.underlying23 info31 rfl (by decide) (by omega) v294 y293 t272 _ _ _ (fun k_ => some k_ ≠ (.slice Ao12 t272.length co12 : Value).ownBlock) (fun _ => False) rfl rfl ?aO ?aR (fun _ _ h => h) (fun _ h => h.elim) ?aF ?aB ?aS ?aL ?_; (case aR => repeat (first | exact (Kd.R_reads' HO_5.out).2.2 | (with_reducible refine Kd.C_alloc ?_ _) | (with_reducible refine Kd.C_drewN ?_ _) | (with_reducible refine Kd.C_drew ?_))); (case aB => exact (by repeat (first | (with_reducible first | exact HB.out | apply below_alloc | apply pw_below_drewN | apply below_drew1 | refine below_set ?_ GE282.out) | exact HB.out))); (case aF => exact (fun k_ hk => Kd.fresh' (Kd.R_lt (by (with_reducible repeat (first | apply Kd.R_alloc | apply Kd.R_drewN | apply Kd.R_drew)); exact HO_5.out)) k_ hk)); (case aO => exact (by (with_reducible repeat (first | apply Kd.R_alloc | apply Kd.R_drewN | apply Kd.R_drew)); exact Kd.R_mono HO295.out (fun _ hk => hk.2))); (case aS => exact (below_size (by repeat (first | (with_reducible first | exact HB.out | apply below_alloc | apply pw_below_drewN | apply below_drew1 | refine below_set ?_ GE282.out) | exact HB.out)))); (case aL => have := LMc93.out; omega); intro v297 w99 ho hb hg hat; rw [← Ny296.out] at ho; have n0_ := Aside0.mk (Kd.R_after (ok := (fun _ => True)) (by (with_reducible repeat (first | apply Kd.R_alloc | apply Kd.R_drewN | apply Kd.R_drew)); exact HO_5.out) hg hat); have n1_ := Aside0.mk (blk_grown (g := gb282) (o := .cells #[.int .i64 t276, .int .i64 t277, .int .i64 t278, .int .i64 t279, .int .i64 t280, .string t281] 25 (0, 0)) (by (with_reducible repeat (first | refine blk_drewN ?_ _ | refine blk_drew ?_ | refine blk_alloc ?_ _)); exact BK282.out) hg (Kd.R_ne HO295.out BK282.out (by decide))); have n2_ := Aside0.mk (hb); have n3_ := Aside0.mk (ho); clear HO_5; clear BK282; clear HB; clear HO295; have HO_5 := n0_; have BK282 := n1_; have HB := n2_; have HO298 := n3_; clear n0_ n1_ n2_ n3_; clear ho hb hg hat) | ((with_reducible refine gate_builtin (b := .append) (xs := #[.tmp 130, .tmp 135]) rfl ?_); (try (refine gate_guard (by rfl) ?_; dsimp only)); at_builtin; refine Kd.R_append k31 (w0 := w) w.heap.size rfl (.tmp 130) (.tmp 135) 23 31 (.agg #[(.int .i64 0), (.int .i64 0), (.int .i64 0), (.int .i64 0), (.bool false), (.bool false)]) 40 rfl Try.underlying23 info31 rfl (by decide) (by omega) v297 y296 (⟨(l1.length : Int) % 3, 0, 0, 0, true, false⟩ : S31) [.int .i64 ((l1.length : Int) % 3), .int .i64 0, .int .i64 0, .int .i64 0, .bool true, .bool false] (fun k_ => some k_ ≠ (.slice Ao12 t272.length co12 : Value).ownBlock) (fun _ => False) rfl rfl ?aP (fun _ hk => hk.elim) ?aF ?aO ?aB ?aS ?aL ?_; (case aP => exact k31_mkM _ _ _ (⟨(l1.length : Int) % 3, 0, 0, 0, true, false⟩ : S31)); (case aB => exact (by repeat (first | (with_reducible first | exact HB.out | apply below_alloc | apply pw_below_drewN | apply below_drew1 | refine below_set ?_ GE282.out) | exact HB.out))); (case aF => exact (fun k_ hk => Kd.fresh' (Kd.R_lt (by (with_reducible repeat (first | apply Kd.R_alloc | apply Kd.R_drewN | apply Kd.R_drew)); exact HO_5.out)) k_ hk)); (case aO => exact (by (with_reducible repeat (first | apply Kd.R_alloc | apply Kd.R_drewN | apply Kd.R_drew)); exact HO298.out)); (case aS => exact (below_size (by repeat (first | (with_reducible first | exact HB.out | apply below_alloc | apply pw_below_drewN | apply below_drew1 | refine below_set ?_ GE282.out) | exact HB.out)))); (case aL => have := LMc94.out; omega); intro v300 w100 ho hb hg hat; rw [← Ny299.out] at ho; have n0_ := Aside0.mk (Kd.R_after (ok := (fun _ => True)) (by (with_reducible repeat (first | apply Kd.R_alloc | apply Kd.R_drewN | apply Kd.R_drew)); exact HO_5.out) hg hat); have n1_ := Aside0.mk (blk_grown (g := gb282) (o := .cells #[.int .i64 t276, .int .i64 t277, .int .i64 t278, .int .i64 t279, .int .i64 t280, .string t281] 25 (0, 0)) (by (with_reducible repeat (first | refine blk_drewN ?_ _ | refine blk_drew ?_ | refine blk_alloc ?_ _)); exact BK282.out) hg (Kd.R_ne HO298.out BK282.out (by decide))); have n2_ := Aside0.mk (hb); have n3_ := Aside0.mk (ho); clear HO_5; clear BK282; clear HB; clear HO298; have HO_5 := n0_; have BK282 := n1_; have HB := n2_; have HO301 := n3_; clear n0_ n1_ n2_ n3_; clear ho hb hg hat; have hcz101_0 : w100.cell? ⟨gb282, 0, none⟩ = some (.int .i64 t276) := (blk_cell BK282.out 0).trans rfl; have hcz101_1 : w100.cell? ⟨gb282, 1, none⟩ = some (.int .i64 t277) := (blk_cell BK282.out 1).trans rfl; have hcz101_2 : w100.cell? ⟨gb282, 2, none⟩ = some (.int .i64 t278) := (blk_cell BK282.out 2).trans rfl; have hcz101_3 : w100.cell? ⟨gb282, 3, none⟩ = some (.int .i64 t279) := (blk_cell BK282.out 3).trans rfl; have hcz101_4 : w100.cell? ⟨gb282, 4, none⟩ = some (.int .i64 t280) := (blk_cell BK282.out 4).trans rfl; have hcz101_5 : w100.cell? ⟨gb282, 5, none⟩ = some (.string t281) := (blk_cell BK282.out 5).trans rfl; have hfz101_0 := blk_frozen BK282.out 0; have hfz101_1 := blk_frozen BK282.out 1; have hfz101_2 := blk_frozen BK282.out 2; have hfz101_3 := blk_frozen BK282.out 3; have hfz101_4 := blk_frozen BK282.out 4; have hfz101_5 := blk_frozen BK282.out 5; obtain ⟨Ao102, co102, eo102⟩ := Kd.R_slice HO301.out; subst eo102) | (go_at_call 8; (with_reducible refine (impl_RulesLet.calls k3 _ _ y299 t275 t276 t277 t278 t279 t280 t281 t302 _ ?side1 ?side2 A96.out).mono ?_); (case side1 => repeat (first | exact (Kd.R_reads' HO301.out).2.2 | (with_reducible refine Kd.C_alloc ?_ _) | (with_reducible refine Kd.C_drewN ?_ _) | (with_reducible refine Kd.C_drew ?_))); (case side2 => exact (Kd.R_reads' HO301.out).2.1); rintro e w103 ⟨rfl, hb⟩; have n0_ := Aside0.mk (Kd.R_below (by (with_reducible repeat (first | apply Kd.R_alloc | apply Kd.R_drewN | apply Kd.R_drew)); exact HO_5.out) hb); have n1_ := Aside0.mk (Kd.R_below (by (with_reducible repeat (first | apply Kd.R_alloc | apply Kd.R_drewN | apply Kd.R_drew)); exact HO301.out) hb); have n2_ := Aside0.mk (blk_below (g := gb282) (o := .cells #[.int .i64 t276, .int .i64 t277, .int .i64 t278, .int .i64 t279, .int .i64 t280, .string t281] 25 (0, 0)) (by (with_reducible repeat (first | refine blk_drewN ?_ _ | refine blk_drew ?_ | refine blk_alloc ?_ _)); exact BK282.out) hb); have n3_ := Aside0.mk (below_step (by repeat (first | (with_reducible first | exact HB.out | apply below_alloc | apply pw_below_drewN | apply below_drew1 | refine below_set ?_ GE282.out) | exact HB.out)) hb); clear HO_5; clear HO301; clear BK282; clear HB; have HO_5 := n0_; have HO301 := n1_; have BK282 := n2_; have HB := n3_; clear n0_ n1_ n2_ n3_; (try clear hb); (try clear hb2); (try clear hk); (try clear hi)))
                              go_ret
                              exact ⟨by first | rfl | (simp [errW_none, errW_some] <;> rfl) | (simp [*, errW_none, errW_some] <;> rfl), by repeat (first | (with_reducible first | exact HB.out | apply below_alloc | apply pw_below_drewN | apply below_drew1 | refine below_set ?_ GE282.out) | exact HB.out)⟩
                            · replace c95 := Bool.eq_false_iff.mpr c95
                              subst c95
                              have H1 : (some true) = some r := by rw [if_neg (show ¬ (false = true) by decide)] at H; exact H
                              clear H
                              have H := H1
                              clear H1
                              obtain rfl := Option.some.inj H
                              go_wp2_with (first | ((with_reducible refine gate_dst (N := 128) rfl ?_); (try (refine gate_guard (by rfl) ?_; dsimp only)); refine Kd.R_lit k31 _ 31 ?hg (N := 128) ?hd (xs := ([] : List (S31))) (inner := []) (ok := fun _ => True) (okp := fun _ => True) ?hr ?hp (fun _ hk => hk) trivial (Below.refl _ _) (Nat.le_refl _) (by simp) ?_; (case hd => rfl); (case hg => rfl); (case hr => first | (go_simp; done) | (go_simp; rfl)); (case hp => exact (Reps.none _ _)); intro v294 w104 ho105 hb hg_ hnew_; clear hg_ hnew_; (first | rw [← Ny293.out] at ho105 | (simp only [Int.reduceToNat] at ho105; rw [← Ny293.out] at ho105)); have n0_ := Aside0.mk (Kd.R_elder' (by (with_reducible repeat (first | apply Kd.R_alloc | apply Kd.R_drewN | apply Kd.R_drew)); exact HO_5.out) (Kd.R_base ho105) hb); have n1_ := Aside0.mk (Kd.R_lower (Kd.R_new' ho105 (Kd.R_lt (by (with_reducible repeat (first | apply Kd.R_alloc | apply Kd.R_drewN | apply Kd.R_drew)); exact HO_5.out))) (below_size (by repeat (first | (with_reducible first | exact HB.out | apply below_alloc | apply pw_below_drewN | apply below_drew1 | refine below_set ?_ GE282.out) | exact HB.out)))); have n2_ := Aside0.mk (blk_below (g := gb282) (o := .cells #[.int .i64 t276, .int .i64 t277, .int .i64 t278, .int .i64 t279, .int .i64 t280, .string t281] 25 (0, 0)) (by (with_reducible repeat (first | refine blk_drewN ?_ _ | refine blk_drew ?_ | refine blk_alloc ?_ _)); exact BK282.out) hb); have n3_ := Aside0.mk (below_step (by repeat (first | (with_reducible first | exact HB.out | apply below_alloc | apply pw_below_drewN | apply below_drew1 | refine below_set ?_ GE282.out) | exact HB.out)) hb); clear HO_5; clear BK282; clear HB; have HO_5 := n0_; have HO295 := n1_; have BK282 := n2_; have HB := n3_; clear n0_ n1_ n2_ n3_; clear hb ho105) | ((with_reducible refine gate_builtin (b := .append) (xs := #[.tmp 128, .tmp 129]) rfl ?_); (try (refine gate_guard (by rfl) ?_; dsimp only)); at_builtin; refine Kd.R_append_rows k31 (w0 := w) w.heap.size rfl (.tmp 128) (.tmp 129) 23 31 (.agg #[(.int .i64 0), (.int .i64 0), (.int .i64 0), (.int .i64 0), (.bool false), (.bool false)]) 40 rfl Try.underlying23 info31 rfl (by decide) (by omega) v294 y293 t272 _ _ _ (fun k_ => some k_ ≠ (.slice Ao12 t272.length co12 : Value).ownBlock) (fun _ => False) rfl rfl ?aO ?aR (fun _ _ h => h) (fun _ h => h.elim) ?aF ?aB ?aS ?aL ?_; (case aR => repeat (first | exact (Kd.R_reads' HO_5.out).2.2 | (with_reducible refine Kd.C_alloc ?_ _) | (with_reducible refine Kd.C_drewN ?_ _) | (with_reducible refine Kd.C_drew ?_))); (case aB => exact (by repeat (first | (with_reducible first | exact HB.out | apply below_alloc | apply pw_below_drewN | apply below_drew1 | refine below_set ?_ GE282.out) | exact HB.out))); (case aF => exact (fun k_ hk => Kd.fresh' (Kd.R_lt (by (with_reducible repeat (first | apply Kd.R_alloc | apply Kd.R_drewN | apply Kd.R_drew)); exact HO_5.out)) k_ hk)); (case aO => exact (by (with_reducible repeat (first | apply Kd.R_alloc | apply Kd.R_drewN | apply Kd.R_drew)); exact Kd.R_mono HO295.out (fun _ hk => hk.2))); (case aS => exact (below_size (by repeat (first | (with_reducible first | exact HB.out | apply below_alloc | apply pw_below_drewN | apply below_drew1 | refine below_set ?_ GE282.out) | exact HB.out)))); (case aL => have := LMc93.out; omega); intro v297 w106 ho hb hg hat; rw [← Ny296.out] at ho; have n0_ := Aside0.mk (Kd.R_after (ok := (fun _ => True)) (by (with_reducible repeat (first | apply Kd.R_alloc | apply Kd.R_drewN | apply Kd.R_drew)); exact HO_5.out) hg hat); have n1_ := Aside0.mk (blk_grown (g := gb282) (o := .cells #[.int .i64 t276, .int .i64 t277, .int .i64 t278, .int .i64 t279, .int .i64 t280, .string t281] 25 (0, 0)) (by (with_reducible repeat (first | refine blk_drewN ?_ _ | refine blk_drew ?_ | refine blk_alloc ?_ _)); exact BK282.out) hg (Kd.R_ne HO295.out BK282.out (by decide))); have n2_ := Aside0.mk (hb); have n3_ := Aside0.mk (ho); clear HO_5; clear BK282; clear HB; clear HO295; have HO_5 := n0_; have BK282 := n1_; have HB := n2_; have HO298 := n3_; clear n0_ n1_ n2_ n3_; clear ho hb hg hat) | ((with_reducible refine gate_builtin (b := .append) (xs := #[.tmp 130, .tmp 135]) rfl ?_); (try (refine gate_guard (by rfl) ?_; dsimp only)); at_builtin; refine Kd.R_append k31 (w0 := w) w.heap.size rfl (.tmp 130) (.tmp 135) 23 31 (.agg #[(.int .i64 0), (.int .i64 0), (.int .i64 0), (.int .i64 0), (.bool false), (.bool false)]) 40 rfl Try.underlying23 info31 rfl (by decide) (by omega) v297 y296 (⟨(l1.length : Int) % 3, 0, 0, 0, true, false⟩ : S31) [.int .i64 ((l1.length : Int) % 3), .int .i64 0, .int .i64 0, .int .i64 0, .bool true, .bool false] (fun k_ => some k_ ≠ (.slice Ao12 t272.length co12 : Value).ownBlock) (fun _ => False) rfl rfl ?aP (fun _ hk => hk.elim) ?aF ?aO ?aB ?aS ?aL ?_; (case aP => exact k31_mkM _ _ _ (⟨(l1.length : Int) % 3, 0, 0, 0, true, false⟩ : S31)); (case aB => exact (by repeat (first | (with_reducible first | exact HB.out | apply below_alloc | apply pw_below_drewN | apply below_drew1 | refine below_set ?_ GE282.out) | exact HB.out))); (case aF => exact (fun k_ hk => Kd.fresh' (Kd.R_lt (by (with_reducible repeat (first | apply Kd.R_alloc | apply Kd.R_drewN | apply Kd.R_drew)); exact HO_5.out)) k_ hk)); (case aO => exact (by (with_reducible repeat (first | apply Kd.R_alloc | apply Kd.R_drewN | apply Kd.R_drew)); exact HO298.out)); (case aS => exact (below_size (by repeat (first | (with_reducible first | exact HB.out | apply below_alloc | apply pw_below_drewN | apply below_drew1 | refine below_set ?_ GE282.out) | exact HB.out)))); (case aL => have := LMc94.out; omega); intro v300 w107 ho hb hg hat; rw [← Ny299.out] at ho; have n0_ := Aside0.mk (Kd.R_after (ok := (fun _ => True)) (by (with_reducible repeat (first | apply Kd.R_alloc | apply Kd.R_drewN | apply Kd.R_drew)); exact HO_5.out) hg hat); have n1_ := Aside0.mk (blk_grown (g := gb282) (o := .cells #[.int .i64 t276, .int .i64 t277, .int .i64 t278, .int .i64 t279, .int .i64 t280, .string t281] 25 (0, 0)) (by (with_reducible repeat (first | refine blk_drewN ?_ _ | refine blk_drew ?_ | refine blk_alloc ?_ _)); exact BK282.out) hg (Kd.R_ne HO298.out BK282.out (by decide))); have n2_ := Aside0.mk (hb); have n3_ := Aside0.mk (ho); clear HO_5; clear BK282; clear HB; clear HO298; have HO_5 := n0_; have BK282 := n1_; have HB := n2_; have HO301 := n3_; clear n0_ n1_ n2_ n3_; clear ho hb hg hat))
                              go_ret
                              exact ⟨by first | rfl | (simp [errW_none, errW_some] <;> rfl) | (simp [*, errW_none, errW_some] <;> rfl), by repeat (first | (with_reducible first | exact HB.out | apply below_alloc | apply pw_below_drewN | apply below_drew1 | refine below_set ?_ GE282.out) | exact HB.out)⟩
                          · rw [if_neg c94] at H
                            exact absurd H (by simp)
                        · rw [if_neg c93] at H
                          exact absurd H (by simp)

/-- THE ONE PURE STATEMENT of laws_FnRulesLet: yours. -/
def laws_FnRulesLet.Pure : Prop := ∀ (l0 : List Int) (l1 : List Int), l0.length ≤ maxLen → l0.length * 1 ≤ 140737488351232 → (∀ x ∈ l0, (Lit.int .u8 x).wf = true) → l1.length ≤ maxLen → l1.length * 1 ≤ 140737488351232 → (∀ x ∈ l1, (Lit.int .u8 x).wf = true) → ∃ k, laws_FnRulesLet.f k l0 l1 = some true
theorem laws_FnRulesLet.walk (P : laws_FnRulesLet.Pure) (a0 : Option Addr) (len0 cap0 : Nat) (z0 : List Int) (a1 : Option Addr) (len1 cap1 : Nat) (z1 : List Int) (w : World) (w0 : (a0 = none ∧ len0 = 0 ∧ cap0 = 0 ∧ z0 = []) ∨ ∃ x, a0 = some x ∧ len0 ≤ cap0 ∧ cap0 ≤ maxLen ∧ z0.length = cap0 ∧ (∀ i, i < z0.length → w.cell? (x.add i) = some (.int .u8 (z0.getD i 0))) ∧ ∀ n ∈ z0, (Lit.int .u8 n).wf = true) (y0 : len0 * 1 ≤ 140737488351232) (w1 : (a1 = none ∧ len1 = 0 ∧ cap1 = 0 ∧ z1 = []) ∨ ∃ x, a1 = some x ∧ len1 ≤ cap1 ∧ cap1 ≤ maxLen ∧ z1.length = cap1 ∧ (∀ i, i < z1.length → w.cell? (x.add i) = some (.int .u8 (z1.getD i 0))) ∧ ∀ n ∈ z1, (Lit.int .u8 n).wf = true) (y1 : len1 * 1 ≤ 140737488351232) :
    Calls Try.prog 3 #[.slice a0 len0 cap0, .slice a1 len1 cap1] w fun e w' => e = .returned (.bool true) ∧ Below w.heap.size w w' := by
  obtain ⟨l0, rfl, hr0, hm0, hw0, hc0⟩ := ReadsInt.ofRowC w0
  obtain ⟨l1, rfl, hr1, hm1, hw1, hc1⟩ := ReadsInt.ofRowC w1
  obtain ⟨k, h⟩ := P l0 l1 hm0 y0 hw0 hm1 y1 hw1
  refine (laws_FnRulesLet.calls k _ _ l0 _ _ l1 true w (Kd.C_of_reads (d := (0 : Int)) (h1 := fun _ => rfl) hr0) hc0 (Kd.C_of_reads (d := (0 : Int)) (h1 := fun _ => rfl) hr1) hc1 rfl h).mono ?_
  rintro e w' ⟨rfl, hd⟩
  exact ⟨rfl, hd⟩

end Go.Proofs.Ytnadkhgdeofheaa.PFnRulesLet
