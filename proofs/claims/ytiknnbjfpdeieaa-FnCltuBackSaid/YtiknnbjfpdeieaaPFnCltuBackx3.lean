-- written by a program of this session (tools/hprint.py, a turned copy of the kit print) out of the translation; Lean checks it
import Derived.Test.YtiknnbjfpdeieaaPFnCltuBackx0
import Derived.Test.YtiknnbjfpdeieaaPFnCltuBackx1
import Derived.Test.YtiknnbjfpdeieaaPFnCltuBackx2
namespace Go.Proofs.Ytiknnbjfpdeieaa.PFnCltuBack
open Go.RowKit Go.Proofs.YtiknnbjfpdeieaaW.PrintWords Go.Proofs.YtiknnbjfpdeieaaW.PrintLast Go.Proofs.YtiknnbjfpdeieaaW.PrintMore
attribute [local go_sem] max2_int min2_int max_two min_two max_three min_three max_four min_four   -- for this text's walks alone
set_option linter.unusedVariables false
set_option linter.unusedSimpArgs false

/-! ### impl_CltuRead: function 12 -/
noncomputable def impl_CltuRead.f (k : Nat) (a0 : ByteArray) : Option (ByteArray) := (strings_CutPrefix.f a0 (⟨#[235, 144]⟩ : ByteArray)).bind fun bt155 => (if bt155.2 = true then ((impl_CltuGet.f k bt155.1).bind fun bt157 => (some bt157.1)) else (some (⟨#[]⟩ : ByteArray)))
theorem impl_CltuRead.mono : ∀ a0 k, LeO (impl_CltuRead.f k a0) (impl_CltuRead.f (k + 1) a0) := by
  intro a0 k
  unfold impl_CltuRead.f
  repeat' first
      | (with_reducible exact impl_CltuGet.mono _ _)
      | (with_reducible exact LeO.refl _)
      | (with_reducible exact LeO.none _)
      | (with_reducible refine LeO.ite ?_ ?_)
      | (with_reducible refine LeO.bind ?_ (fun _ => ?_))
      | exact impl_CltuGet.mono _ _
      | exact LeO.none _
      | refine LeO.ite ?_ ?_
      | refine LeO.bind ?_ (fun _ => ?_)
set_option maxHeartbeats 8000000 in
set_option maxRecDepth 100000 in
theorem impl_CltuRead.calls (k : Nat) (a0 : ByteArray) (r : ByteArray) (w : World) (h : impl_CltuRead.f k a0 = some r) :
    Calls Try.prog 12 #[.string a0] w fun e w' => e = .returned (.string r) ∧ Below w.heap.size w w' := by
  have HB := Aside0.mk (Below.refl w.heap.size w)
  have H : ((strings_CutPrefix.f a0 (⟨#[235, 144]⟩ : ByteArray)).bind fun bt155 => (if bt155.2 = true then ((impl_CltuGet.f k bt155.1).bind fun bt157 => (some bt157.1)) else (some (⟨#[]⟩ : ByteArray)))) = some r := h
  clear h
  replace H := Option.bind_eq_some_iff.mp H
  obtain ⟨⟨t155, t156⟩, A20, H⟩ := H
  replace H : (if t156 = true then ((impl_CltuGet.f k t155).bind fun bt157 => (some bt157.1)) else (some (⟨#[]⟩ : ByteArray))) = some r := H
  have A2 := Aside0.mk A20
  clear A20
  by_cases c3 : t156 = true
  · subst c3
    have H1 : ((impl_CltuGet.f k t155).bind fun bt157 => (some bt157.1)) = some r := by rw [if_pos rfl] at H; exact H
    clear H
    have H := H1
    clear H1
    replace H := Option.bind_eq_some_iff.mp H
    obtain ⟨⟨t157, t158⟩, A40, H⟩ := H
    replace H : (some t157) = some r := H
    have A4 := Aside0.mk A40
    clear A40
    obtain rfl := Option.some.inj H
    go_enter Try.func12, Try.ntmps12
    go_wp2_with (first | ((with_reducible refine gate_callee (f := 30) rfl ?_); refine goesL_ (some 9) rfl rfl Try.func30 (by kernel_rfl) rfl #[.string a0, .string (⟨#[235, 144]⟩ : ByteArray)] rfl (by (try simp only [List.map_toArray, List.map_cons, List.map_nil]); first | done | rfl | (simp only [List.length_drop, List.length_take]; rfl)) ?_; (with_reducible refine (strings_CutPrefix.calls a0 (⟨#[235, 144]⟩ : ByteArray) t155 true _ A2.out).mono ?_); rintro e w' ⟨rfl, ⟨nd, rfl⟩⟩; refine ⟨_, rfl, ?_⟩) | ((with_reducible refine gate_callee (f := 14) rfl ?_); refine goesL_ (some 16) rfl rfl Try.func14 (by kernel_rfl) rfl #[.string t155] rfl (by (try simp only [List.map_toArray, List.map_cons, List.map_nil]); first | done | rfl | (simp only [List.length_drop, List.length_take]; rfl)) ?_; (with_reducible refine (impl_CltuGet.calls k t155 t157 t158 _ A4.out).mono ?_); rintro e w5 ⟨rfl, hb⟩; refine ⟨_, rfl, ?_⟩; have n0_ := Aside0.mk (below_step (by repeat (first | (with_reducible first | exact HB.out | apply below_alloc | apply pw_below_drewN | apply below_drew1) | exact HB.out)) hb); clear HB; have HB := n0_; clear n0_; (try clear hb); (try clear hb2); (try clear hk); (try clear hi)))
    go_ret
    exact ⟨by first | rfl | (simp [errW_none, errW_some] <;> rfl) | (simp [*, errW_none, errW_some] <;> rfl), by repeat (first | (with_reducible first | exact HB.out | apply below_alloc | apply pw_below_drewN | apply below_drew1) | exact HB.out)⟩
  · replace c3 := Bool.eq_false_iff.mpr c3
    subst c3
    have H1 : (some (⟨#[]⟩ : ByteArray)) = some r := by rw [if_neg (show ¬ (false = true) by decide)] at H; exact H
    clear H
    have H := H1
    clear H1
    obtain rfl := Option.some.inj H
    go_enter Try.func12, Try.ntmps12
    go_wp2_with (first | ((with_reducible refine gate_callee (f := 30) rfl ?_); refine goesL_ (some 9) rfl rfl Try.func30 (by kernel_rfl) rfl #[.string a0, .string (⟨#[235, 144]⟩ : ByteArray)] rfl (by (try simp only [List.map_toArray, List.map_cons, List.map_nil]); first | done | rfl | (simp only [List.length_drop, List.length_take]; rfl)) ?_; (with_reducible refine (strings_CutPrefix.calls a0 (⟨#[235, 144]⟩ : ByteArray) t155 false _ A2.out).mono ?_); rintro e w' ⟨rfl, ⟨nd, rfl⟩⟩; refine ⟨_, rfl, ?_⟩))
    go_ret
    exact ⟨by first | rfl | (simp [errW_none, errW_some] <;> rfl) | (simp [*, errW_none, errW_some] <;> rfl), by repeat (first | (with_reducible first | exact HB.out | apply below_alloc | apply pw_below_drewN | apply below_drew1) | exact HB.out)⟩

/-! ### laws_FnCltuBack: function 3 -/
mutual
noncomputable def laws_FnCltuBack.j0 : Nat → ByteArray → ByteArray → Bool → Option (Bool)
  | 0, _, _, _ => none
  | k + 1, x3, x4, x21 => if x21 = true then ((spec_CltuPut.f k x3).bind fun t162 => (some (x4.toList == t162.toList))) else ((impl_CltuRead.f k x4).bind fun t163 => (if (t163.size : Int) < (x3.size : Int) then (laws_FnCltuBack.j1 k x3 x4 t163 true) else (if 0 ≤ (x3.size : Int) then (if (x3.size : Int) ≤ (t163.size : Int) then (if (t163.extract 0 ((x3.size : Int) : Int).toNat).toList = x3.toList then (if ((t163.size : Int) % 7) = 0 then (laws_FnCltuBack.j1 k x3 x4 t163 (decide ((t163.size : Int) ≥ (wrap64 ((x3.size : Int) + 7))))) else (laws_FnCltuBack.j1 k x3 x4 t163 true)) else (laws_FnCltuBack.j1 k x3 x4 t163 true)) else (none)) else (none))))
noncomputable def laws_FnCltuBack.j1 : Nat → ByteArray → ByteArray → ByteArray → Bool → Option (Bool)
  | 0, _, _, _, _ => none
  | k + 1, x3, x4, x5, x54 => if x54 = true then (some false) else (laws_FnCltuBack.l0 k x4 x5 (x3.size : Int))
noncomputable def laws_FnCltuBack.l0 : Nat → ByteArray → ByteArray → Int → Option (Bool)
  | 0, _, _, _ => none
  | k + 1, x4, x5, x6 => if x6 < (x5.size : Int) then (if 0 ≤ x6 then (if (bt x5 x6) = 85 then (laws_FnCltuBack.l0 k x4 x5 (wrap64 (x6 + 1))) else (some false)) else (none)) else (if (x4.size : Int) = (wrap64 (10 + (wrap64 ((wrap64 ((x5.size : Int) / 7)) * 8)))) then (if 1 + x4.size ≤ 9223372036854775807 then ((impl_CltuRead.f k ((⟨#[120]⟩ : ByteArray) ++ x4)).bind fun t164 => (some (t164.toList == ([] : List UInt8)))) else (none)) else (some false))
end
noncomputable def laws_FnCltuBack.f (k : Nat) (l0 : List Int) : Option (Bool) := if (l0.length : Int) > 1048576 then (some true) else ((spec_DrawCltuPut.f k l0).bind fun t159 => ((impl_CltuPut.f k t159).bind fun t160 => ((spec_CltuPut.f k t159).bind fun t161 => (if t160.toList = t161.toList then (laws_FnCltuBack.j0 k t159 t160 (t160.toList == ([] : List UInt8))) else (laws_FnCltuBack.j0 k t159 t160 true)))))
theorem laws_FnCltuBack.mono_l : ∀ k, (∀ y0 y1 y2, LeO (laws_FnCltuBack.j0 k y0 y1 y2) (laws_FnCltuBack.j0 (k + 1) y0 y1 y2)) ∧ (∀ y0 y1 y2 y3, LeO (laws_FnCltuBack.j1 k y0 y1 y2 y3) (laws_FnCltuBack.j1 (k + 1) y0 y1 y2 y3)) ∧ (∀ y0 y1 y2, LeO (laws_FnCltuBack.l0 k y0 y1 y2) (laws_FnCltuBack.l0 (k + 1) y0 y1 y2))
  | 0 => ⟨fun _ _ _ r h => by simp [laws_FnCltuBack.j0] at h, fun _ _ _ _ r h => by simp [laws_FnCltuBack.j1] at h, fun _ _ _ r h => by simp [laws_FnCltuBack.l0] at h⟩
  | k + 1 => by
    obtain ⟨ih0, ih1, ih2⟩ := laws_FnCltuBack.mono_l k
    refine ⟨?_, ?_, ?_⟩
    · intro y0 y1 y2
      unfold laws_FnCltuBack.j0
      repeat' first
      | (with_reducible exact ih0 _ _ _)
      | (with_reducible exact ih1 _ _ _ _)
      | (with_reducible exact ih2 _ _ _)
      | (with_reducible exact impl_CltuPut.mono _ _)
      | (with_reducible exact impl_CltuRead.mono _ _)
      | (with_reducible exact spec_CltuPut.mono _ _)
      | (with_reducible exact spec_DrawCltuPut.mono _ _)
      | (with_reducible exact LeO.refl _)
      | (with_reducible exact LeO.none _)
      | (with_reducible refine LeO.ite ?_ ?_)
      | (with_reducible refine LeO.bind ?_ (fun _ => ?_))
      | exact ih0 _ _ _
      | exact ih1 _ _ _ _
      | exact ih2 _ _ _
      | exact impl_CltuPut.mono _ _
      | exact impl_CltuRead.mono _ _
      | exact spec_CltuPut.mono _ _
      | exact spec_DrawCltuPut.mono _ _
      | exact LeO.none _
      | refine LeO.ite ?_ ?_
      | refine LeO.bind ?_ (fun _ => ?_)
    · intro y0 y1 y2 y3
      unfold laws_FnCltuBack.j1
      repeat' first
      | (with_reducible exact ih0 _ _ _)
      | (with_reducible exact ih1 _ _ _ _)
      | (with_reducible exact ih2 _ _ _)
      | (with_reducible exact impl_CltuPut.mono _ _)
      | (with_reducible exact impl_CltuRead.mono _ _)
      | (with_reducible exact spec_CltuPut.mono _ _)
      | (with_reducible exact spec_DrawCltuPut.mono _ _)
      | (with_reducible exact LeO.refl _)
      | (with_reducible exact LeO.none _)
      | (with_reducible refine LeO.ite ?_ ?_)
      | (with_reducible refine LeO.bind ?_ (fun _ => ?_))
      | exact ih0 _ _ _
      | exact ih1 _ _ _ _
      | exact ih2 _ _ _
      | exact impl_CltuPut.mono _ _
      | exact impl_CltuRead.mono _ _
      | exact spec_CltuPut.mono _ _
      | exact spec_DrawCltuPut.mono _ _
      | exact LeO.none _
      | refine LeO.ite ?_ ?_
      | refine LeO.bind ?_ (fun _ => ?_)
    · intro y0 y1 y2
      unfold laws_FnCltuBack.l0
      repeat' first
      | (with_reducible exact ih0 _ _ _)
      | (with_reducible exact ih1 _ _ _ _)
      | (with_reducible exact ih2 _ _ _)
      | (with_reducible exact impl_CltuPut.mono _ _)
      | (with_reducible exact impl_CltuRead.mono _ _)
      | (with_reducible exact spec_CltuPut.mono _ _)
      | (with_reducible exact spec_DrawCltuPut.mono _ _)
      | (with_reducible exact LeO.refl _)
      | (with_reducible exact LeO.none _)
      | (with_reducible refine LeO.ite ?_ ?_)
      | (with_reducible refine LeO.bind ?_ (fun _ => ?_))
      | exact ih0 _ _ _
      | exact ih1 _ _ _ _
      | exact ih2 _ _ _
      | exact impl_CltuPut.mono _ _
      | exact impl_CltuRead.mono _ _
      | exact spec_CltuPut.mono _ _
      | exact spec_DrawCltuPut.mono _ _
      | exact LeO.none _
      | refine LeO.ite ?_ ?_
      | refine LeO.bind ?_ (fun _ => ?_)
theorem laws_FnCltuBack.mono : ∀ a0 k, LeO (laws_FnCltuBack.f k a0) (laws_FnCltuBack.f (k + 1) a0) := by
  intro a0 k
  obtain ⟨ih0, ih1, ih2⟩ := laws_FnCltuBack.mono_l k
  unfold laws_FnCltuBack.f
  repeat' first
      | (with_reducible exact ih0 _ _ _)
      | (with_reducible exact ih1 _ _ _ _)
      | (with_reducible exact ih2 _ _ _)
      | (with_reducible exact impl_CltuPut.mono _ _)
      | (with_reducible exact impl_CltuRead.mono _ _)
      | (with_reducible exact spec_CltuPut.mono _ _)
      | (with_reducible exact spec_DrawCltuPut.mono _ _)
      | (with_reducible exact LeO.refl _)
      | (with_reducible exact LeO.none _)
      | (with_reducible refine LeO.ite ?_ ?_)
      | (with_reducible refine LeO.bind ?_ (fun _ => ?_))
      | exact ih0 _ _ _
      | exact ih1 _ _ _ _
      | exact ih2 _ _ _
      | exact impl_CltuPut.mono _ _
      | exact impl_CltuRead.mono _ _
      | exact spec_CltuPut.mono _ _
      | exact spec_DrawCltuPut.mono _ _
      | exact LeO.none _
      | refine LeO.ite ?_ ?_
      | refine LeO.bind ?_ (fun _ => ?_)
set_option maxHeartbeats 8000000 in
set_option maxRecDepth 100000 in
theorem laws_FnCltuBack.calls (k : Nat) (A0 : Option Addr) (c0 : Nat) (l0 : List Int) (r : Bool) (w : World) (hr0 : Kd.C (Kd.int .u8) w A0 l0.length l0) (hc0 : l0.length ≤ c0) (hr_ : r = true) (h : laws_FnCltuBack.f k l0 = some r) :
    Calls Try.prog 3 #[.slice A0 l0.length c0] w fun e w' => e = .returned (.bool r) ∧ Below w.heap.size w w' := by
  have HRT_ := Aside0.mk hr_
  clear hr_
  have HR0 := Aside0.mk hr0
  have HC0 := Aside0.mk hc0
  clear hr0 hc0
  have HB := Aside0.mk (Below.refl w.heap.size w)
  have H : (if (l0.length : Int) > 1048576 then (some true) else ((spec_DrawCltuPut.f k l0).bind fun t159 => ((impl_CltuPut.f k t159).bind fun t160 => ((spec_CltuPut.f k t159).bind fun t161 => (if t160.toList = t161.toList then (laws_FnCltuBack.j0 k t159 t160 (t160.toList == ([] : List UInt8))) else (laws_FnCltuBack.j0 k t159 t160 true)))))) = some r := h
  clear h
  by_cases c2 : (l0.length : Int) > 1048576
  · rw [if_pos c2] at H
    have c2b0 : decide (1048576 < (l0.length : Int)) = true := decide_eq_true c2
    have c2b1 : decide (1048576 < l0.length) = true := decide_eq_true (by omega)
    clear c2
    obtain rfl := Option.some.inj H
    go_enter Try.func3, Try.ntmps3
    go_wp2
    go_ret
    exact ⟨by first | rfl | (simp [errW_none, errW_some] <;> rfl) | (simp [*, errW_none, errW_some] <;> rfl), by repeat (first | (with_reducible first | exact HB.out | apply below_alloc | apply pw_below_drewN | apply below_drew1) | exact HB.out)⟩
  · rw [if_neg c2] at H
    have c2b0 : decide (1048576 < (l0.length : Int)) = false := decide_eq_false c2
    have c2b1 : decide (1048576 < l0.length) = false := decide_eq_false (by omega)
    clear c2
    replace H := Option.bind_eq_some_iff.mp H
    obtain ⟨t159, A30, H⟩ := H
    replace H : ((impl_CltuPut.f k t159).bind fun t160 => ((spec_CltuPut.f k t159).bind fun t161 => (if t160.toList = t161.toList then (laws_FnCltuBack.j0 k t159 t160 (t160.toList == ([] : List UInt8))) else (laws_FnCltuBack.j0 k t159 t160 true)))) = some r := H
    have A3 := Aside0.mk A30
    clear A30
    replace H := Option.bind_eq_some_iff.mp H
    obtain ⟨t160, A40, H⟩ := H
    replace H : ((spec_CltuPut.f k t159).bind fun t161 => (if t160.toList = t161.toList then (laws_FnCltuBack.j0 k t159 t160 (t160.toList == ([] : List UInt8))) else (laws_FnCltuBack.j0 k t159 t160 true))) = some r := H
    have A4 := Aside0.mk A40
    clear A40
    have HC5 := Aside0.mk H
    clear H
    go_enter Try.func3, Try.ntmps3
    go_upto_region 5 with (first | ((with_reducible refine gate_callee (f := 9) rfl ?_); refine goesL_ (some 11) rfl rfl Try.func9 (by kernel_rfl) rfl #[.slice A0 l0.length c0] rfl (by (try simp only [List.map_toArray, List.map_cons, List.map_nil]); first | done | rfl | (simp only [List.length_drop, List.length_take]; rfl)) ?_; (with_reducible refine (spec_DrawCltuPut.calls k _ _ l0 t159 _ ?side1 ?side2 A3.out).mono ?_); (case side1 => repeat (first | exact HR0.out | (with_reducible refine Kd.C_alloc ?_ _) | (with_reducible refine Kd.C_drewN ?_ _) | (with_reducible refine Kd.C_drew ?_))); (case side2 => exact HC0.out); rintro e w6 ⟨rfl, hb⟩; refine ⟨_, rfl, ?_⟩; have n0_ := Aside0.mk (below_step (by repeat (first | (with_reducible first | exact HB.out | apply below_alloc | apply pw_below_drewN | apply below_drew1) | exact HB.out)) hb); clear HB; have HB := n0_; clear n0_; (try clear hb); (try clear hb2); (try clear hk); (try clear hi)) | ((with_reducible refine gate_callee (f := 10) rfl ?_); refine goesL_ (some 13) rfl rfl Try.func10 (by kernel_rfl) rfl #[.string t159] rfl (by (try simp only [List.map_toArray, List.map_cons, List.map_nil]); first | done | rfl | (simp only [List.length_drop, List.length_take]; rfl)) ?_; (with_reducible refine (impl_CltuPut.calls k t159 t160 _ A4.out).mono ?_); rintro e w7 ⟨rfl, hb⟩; refine ⟨_, rfl, ?_⟩; have n0_ := Aside0.mk (below_step (by repeat (first | (with_reducible first | exact HB.out | apply below_alloc | apply pw_below_drewN | apply below_drew1) | exact HB.out)) hb); clear HB; have HB := n0_; clear n0_; (try clear hb); (try clear hb2); (try clear hk); (try clear hi)))
    (try simp only [Act.put, List.setIfInBounds_toArray, List.set_cons_zero, List.set_cons_succ])
    go_cut [21] (fun v21 wc => ∃ (kq : Nat) (x21_4 : Bool), v21 = .bool x21_4 ∧ Aside0 (laws_FnCltuBack.j0 kq t159 t160 x21_4 = some r) ∧ Aside0 (kq ≤ k) ∧ Aside0 (Below w.heap.size w wc))
    case first =>
      have H := HC5.out
      clear HC5
      replace H := Option.bind_eq_some_iff.mp H
      obtain ⟨t161, A80, H⟩ := H
      replace H : (if t160.toList = t161.toList then (laws_FnCltuBack.j0 k t159 t160 (t160.toList == ([] : List UInt8))) else (laws_FnCltuBack.j0 k t159 t160 true)) = some r := H
      have A8 := Aside0.mk A80
      clear A80
      by_cases c9 : t160.toList = t161.toList
      · rw [if_pos c9] at H
        have c9b0 : (t160.toList == t161.toList) = true := beq_iff_eq.mpr c9
        have c9b1 : (t160.toList != t161.toList) = false := bne_eq_false_iff_eq.mpr c9
        clear c9
        (first | rw [c9b0] | (simp only [i64_w, i32_w]; rw [c9b0]) | skip)
        have H' := Aside0.mk H
        clear H
        go_wp2_with (first | ((with_reducible refine gate_callee (f := 11) rfl ?_); refine goesL_ (some 16) rfl rfl Try.func11 (by kernel_rfl) rfl #[.string t159] rfl (by (try simp only [List.map_toArray, List.map_cons, List.map_nil]); first | done | rfl | (simp only [List.length_drop, List.length_take]; rfl)) ?_; (with_reducible refine (spec_CltuPut.calls k t159 t161 _ A8.out).mono ?_); rintro e w10 ⟨rfl, hb⟩; refine ⟨_, rfl, ?_⟩; have n0_ := Aside0.mk (below_step (by repeat (first | (with_reducible first | exact HB.out | apply below_alloc | apply pw_below_drewN | apply below_drew1) | exact HB.out)) hb); clear HB; have HB := n0_; clear n0_; (try clear hb); (try clear hb2); (try clear hk); (try clear hi)))
        go_meet
        case rel => exact ⟨_, ((t160.toList == ([] : List UInt8))), (by first | rfl | (simp; done) | (simp [*]; done)), H', ⟨by first | omega | exact Nat.le_refl _⟩, ⟨by repeat (first | (with_reducible first | exact HB.out | apply below_alloc | apply pw_below_drewN | apply below_drew1) | exact HB.out)⟩⟩
      · rw [if_neg c9] at H
        have c9b0 : (t160.toList == t161.toList) = false := beq_eq_false_iff_ne.mpr c9
        have c9b1 : (t160.toList != t161.toList) = true := bne_iff_ne.mpr c9
        (first | rw [c9b0] | (simp only [i64_w, i32_w]; rw [c9b0]) | skip)
        have H' := Aside0.mk H
        clear H
        go_wp2_with (first | ((with_reducible refine gate_callee (f := 11) rfl ?_); refine goesL_ (some 16) rfl rfl Try.func11 (by kernel_rfl) rfl #[.string t159] rfl (by (try simp only [List.map_toArray, List.map_cons, List.map_nil]); first | done | rfl | (simp only [List.length_drop, List.length_take]; rfl)) ?_; (with_reducible refine (spec_CltuPut.calls k t159 t161 _ A8.out).mono ?_); rintro e w11 ⟨rfl, hb⟩; refine ⟨_, rfl, ?_⟩; have n0_ := Aside0.mk (below_step (by repeat (first | (with_reducible first | exact HB.out | apply below_alloc | apply pw_below_drewN | apply below_drew1) | exact HB.out)) hb); clear HB; have HB := n0_; clear n0_; (try clear hb); (try clear hb2); (try clear hk); (try clear hi)))
        go_meet
        case rel => exact ⟨_, (true), (by first | rfl | (simp; done) | (simp [*]; done)), H', ⟨by first | omega | exact Nat.le_refl _⟩, ⟨by repeat (first | (with_reducible first | exact HB.out | apply below_alloc | apply pw_below_drewN | apply below_drew1) | exact HB.out)⟩⟩
    case rest =>
      clear HC5
      try clear c1
      try clear c2
      try clear c2b0
      try clear c2b1
      try clear p2
      try clear c3
      try clear c9
      try clear c9b0
      try clear c9b1
      try clear c10
      try clear c11
      obtain ⟨kq, x21_4, rfl, HA, HJ4, HB⟩ := hcut
      cases kq with
      | zero => exact absurd HA.out (by simp [laws_FnCltuBack.j0])
      | succ kj4 =>
        have H := HA.out
        clear HA
        simp only [laws_FnCltuBack.j0] at H
        by_cases c12 : x21_4 = true
        · subst c12
          have H1 : ((spec_CltuPut.f kj4 t159).bind fun t162 => (some (t160.toList == t162.toList))) = some r := by rw [if_pos rfl] at H; exact H
          clear H
          have H := H1
          clear H1
          replace H := Option.bind_eq_some_iff.mp H
          obtain ⟨t162, A130, H⟩ := H
          replace H : (some (t160.toList == t162.toList)) = some r := H
          have A13 := Aside0.mk A130
          clear A130
          obtain rfl := Option.some.inj H
          go_wp2_with (first | ((with_reducible refine gate_callee (f := 11) rfl ?_); refine goesL_ (some 24) rfl rfl Try.func11 (by kernel_rfl) rfl #[.string t159] rfl (by (try simp only [List.map_toArray, List.map_cons, List.map_nil]); first | done | rfl | (simp only [List.length_drop, List.length_take]; rfl)) ?_; (with_reducible refine (spec_CltuPut.calls kj4 t159 t162 _ A13.out).mono ?_); rintro e w14 ⟨rfl, hb⟩; refine ⟨_, rfl, ?_⟩; have n0_ := Aside0.mk (below_step (by repeat (first | (with_reducible first | exact HB.out | apply below_alloc | apply pw_below_drewN | apply below_drew1) | exact HB.out)) hb); clear HB; have HB := n0_; clear n0_; (try clear hb); (try clear hb2); (try clear hk); (try clear hi)))
          go_ret
          exact ⟨by first | rfl | (simp [errW_none, errW_some] <;> rfl) | (simp [*, errW_none, errW_some] <;> rfl), by repeat (first | (with_reducible first | exact HB.out | apply below_alloc | apply pw_below_drewN | apply below_drew1) | exact HB.out)⟩
        · replace c12 := Bool.eq_false_iff.mpr c12
          subst c12
          have H1 : ((impl_CltuRead.f kj4 t160).bind fun t163 => (if (t163.size : Int) < (t159.size : Int) then (laws_FnCltuBack.j1 kj4 t159 t160 t163 true) else (if 0 ≤ (t159.size : Int) then (if (t159.size : Int) ≤ (t163.size : Int) then (if (t163.extract 0 ((t159.size : Int) : Int).toNat).toList = t159.toList then (if ((t163.size : Int) % 7) = 0 then (laws_FnCltuBack.j1 kj4 t159 t160 t163 (decide ((t163.size : Int) ≥ (wrap64 ((t159.size : Int) + 7))))) else (laws_FnCltuBack.j1 kj4 t159 t160 t163 true)) else (laws_FnCltuBack.j1 kj4 t159 t160 t163 true)) else (none)) else (none)))) = some r := by rw [if_neg (show ¬ (false = true) by decide)] at H; exact H
          clear H
          have H := H1
          clear H1
          replace H := Option.bind_eq_some_iff.mp H
          obtain ⟨t163, A150, H⟩ := H
          replace H : (if (t163.size : Int) < (t159.size : Int) then (laws_FnCltuBack.j1 kj4 t159 t160 t163 true) else (if 0 ≤ (t159.size : Int) then (if (t159.size : Int) ≤ (t163.size : Int) then (if (t163.extract 0 ((t159.size : Int) : Int).toNat).toList = t159.toList then (if ((t163.size : Int) % 7) = 0 then (laws_FnCltuBack.j1 kj4 t159 t160 t163 (decide ((t163.size : Int) ≥ (wrap64 ((t159.size : Int) + 7))))) else (laws_FnCltuBack.j1 kj4 t159 t160 t163 true)) else (laws_FnCltuBack.j1 kj4 t159 t160 t163 true)) else (none)) else (none))) = some r := H
          have A15 := Aside0.mk A150
          clear A150
          have HC16 := Aside0.mk H
          clear H
          go_upto_region 8 with (first | ((with_reducible refine gate_callee (f := 12) rfl ?_); refine goesL_ (some 27) rfl rfl Try.func12 (by kernel_rfl) rfl #[.string t160] rfl (by (try simp only [List.map_toArray, List.map_cons, List.map_nil]); first | done | rfl | (simp only [List.length_drop, List.length_take]; rfl)) ?_; (with_reducible refine (impl_CltuRead.calls kj4 t160 t163 _ A15.out).mono ?_); rintro e w17 ⟨rfl, hb⟩; refine ⟨_, rfl, ?_⟩; have n0_ := Aside0.mk (below_step (by repeat (first | (with_reducible first | exact HB.out | apply below_alloc | apply pw_below_drewN | apply below_drew1) | exact HB.out)) hb); clear HB; have HB := n0_; clear n0_; (try clear hb); (try clear hb2); (try clear hk); (try clear hi)))
          (try simp only [Act.put, List.setIfInBounds_toArray, List.set_cons_zero, List.set_cons_succ])
          go_cut [54] (fun v54 wc => ∃ (kq : Nat) (x54_15 : Bool), v54 = .bool x54_15 ∧ Aside0 (laws_FnCltuBack.j1 kq t159 t160 t163 x54_15 = some r) ∧ Aside0 (kq ≤ kj4) ∧ Aside0 (Below w.heap.size w wc))
          case first =>
            have H := HC16.out
            clear HC16
            by_cases c18 : (t163.size : Int) < (t159.size : Int)
            · rw [if_pos c18] at H
              have c18b0 : decide ((t163.size : Int) < (t159.size : Int)) = true := decide_eq_true c18
              have c18b1 : decide (t163.size < t159.size) = true := decide_eq_true (Int.ofNat_lt.mp c18)
              clear c18
              (first | rw [c18b0] | (simp only [i64_w, i32_w]; rw [c18b0]) | skip)
              have H' := Aside0.mk H
              clear H
              go_wp2
              go_meet
              case rel => exact ⟨_, (true), (by first | rfl | (simp; done) | (simp [*]; done)), H', ⟨by have := HJ4.out; first | omega | exact Nat.le_refl _⟩, ⟨by repeat (first | (with_reducible first | exact HB.out | apply below_alloc | apply pw_below_drewN | apply below_drew1) | exact HB.out)⟩⟩
            · rw [if_neg c18] at H
              have c18b0 : decide ((t163.size : Int) < (t159.size : Int)) = false := decide_eq_false c18
              have c18b1 : decide (t163.size < t159.size) = false := decide_eq_false (fun h => c18 (Int.ofNat_lt.mpr h))
              clear c18
              (first | rw [c18b0] | (simp only [i64_w, i32_w]; rw [c18b0]) | skip)
              by_cases c19 : 0 ≤ (t159.size : Int)
              · rw [if_pos c19] at H
                have c19b0 := eq_true c19
                have c19b1 : decide (0 ≤ (t159.size : Int)) = true := decide_eq_true c19
                clear c19
                by_cases c20 : (t159.size : Int) ≤ (t163.size : Int)
                · rw [if_pos c20] at H
                  have c20b0 := eq_true c20
                  have c20b1 : decide ((t159.size : Int) ≤ (t163.size : Int)) = true := decide_eq_true c20
                  clear c20
                  by_cases c21 : (t163.extract 0 ((t159.size : Int) : Int).toNat).toList = t159.toList
                  · rw [if_pos c21] at H
                    have c21b0 : ((t163.extract 0 ((t159.size : Int) : Int).toNat).toList == t159.toList) = true := beq_iff_eq.mpr c21
                    (try (have c21b0z := c21b0; simp only [Int.toNat_natCast] at c21b0z))
                    have c21b1 : ((t163.extract 0 ((t159.size : Int) : Int).toNat).toList != t159.toList) = false := bne_eq_false_iff_eq.mpr c21
                    (try (have c21b1z := c21b1; simp only [Int.toNat_natCast] at c21b1z))
                    clear c21
                    by_cases c22 : ((t163.size : Int) % 7) = 0
                    · rw [if_pos c22] at H
                      have c22b0 : (((t163.size : Int) % 7) == 0) = true := beq_iff_eq.mpr c22
                      have c22b1 : (((t163.size : Int) % 7) != 0) = false := bne_eq_false_iff_eq.mpr c22
                      clear c22
                      have H' := Aside0.mk H
                      clear H
                      go_wp2
                      go_meet
                      case rel => exact ⟨_, (decide ((t163.size : Int) ≥ (wrap64 ((t159.size : Int) + 7)))), (by first | rfl | (simp; done) | (simp [*]; done)), H', ⟨by have := HJ4.out; first | omega | exact Nat.le_refl _⟩, ⟨by repeat (first | (with_reducible first | exact HB.out | apply below_alloc | apply pw_below_drewN | apply below_drew1) | exact HB.out)⟩⟩
                    · rw [if_neg c22] at H
                      have c22b0 : (((t163.size : Int) % 7) == 0) = false := beq_eq_false_iff_ne.mpr c22
                      have c22b1 : (((t163.size : Int) % 7) != 0) = true := bne_iff_ne.mpr c22
                      have H' := Aside0.mk H
                      clear H
                      go_wp2
                      go_meet
                      case rel => exact ⟨_, (true), (by first | rfl | (simp; done) | (simp [*]; done)), H', ⟨by have := HJ4.out; first | omega | exact Nat.le_refl _⟩, ⟨by repeat (first | (with_reducible first | exact HB.out | apply below_alloc | apply pw_below_drewN | apply below_drew1) | exact HB.out)⟩⟩
                  · rw [if_neg c21] at H
                    have c21b0 : ((t163.extract 0 ((t159.size : Int) : Int).toNat).toList == t159.toList) = false := beq_eq_false_iff_ne.mpr c21
                    (try (have c21b0z := c21b0; simp only [Int.toNat_natCast] at c21b0z))
                    have c21b1 : ((t163.extract 0 ((t159.size : Int) : Int).toNat).toList != t159.toList) = true := bne_iff_ne.mpr c21
                    (try (have c21b1z := c21b1; simp only [Int.toNat_natCast] at c21b1z))
                    have H' := Aside0.mk H
                    clear H
                    go_wp2
                    go_meet
                    case rel => exact ⟨_, (true), (by first | rfl | (simp; done) | (simp [*]; done)), H', ⟨by have := HJ4.out; first | omega | exact Nat.le_refl _⟩, ⟨by repeat (first | (with_reducible first | exact HB.out | apply below_alloc | apply pw_below_drewN | apply below_drew1) | exact HB.out)⟩⟩
                · rw [if_neg c20] at H
                  exact absurd H (by simp)
              · rw [if_neg c19] at H
                exact absurd H (by simp)
          case rest =>
            clear HC16
            try clear c1
            try clear c2
            try clear c2b0
            try clear c2b1
            try clear p2
            try clear c3
            try clear p6
            try clear c9
            try clear c9b0
            try clear c9b1
            try clear c10
            try clear c11
            try clear c12
            try clear c18
            try clear c18b0
            try clear c18b1
            try clear c19
            try clear c19b0
            try clear c19b1
            try clear c20
            try clear c20b0
            try clear c20b1
            try clear c21
            try clear c21b0
            try clear c21b1
            try clear c22
            try clear c22b0
            try clear c22b1
            try clear p2
            obtain ⟨kq, x54_15, rfl, HA, HJ15, HB⟩ := hcut
            cases kq with
            | zero => exact absurd HA.out (by simp [laws_FnCltuBack.j1])
            | succ kj15 =>
              have H := HA.out
              clear HA
              simp only [laws_FnCltuBack.j1] at H
              by_cases c23 : x54_15 = true
              · subst c23
                have H1 : (some false) = some r := by rw [if_pos rfl] at H; exact H
                clear H
                have H := H1
                clear H1
                exact absurd ((Option.some.inj H).trans HRT_.out) (by decide)
              · replace c23 := Bool.eq_false_iff.mpr c23
                subst c23
                have H1 : (laws_FnCltuBack.l0 kj15 t160 t163 (t159.size : Int)) = some r := by rw [if_neg (show ¬ (false = true) by decide)] at H; exact H
                clear H
                have H := H1
                clear H1
                have H' := Aside0.mk H
                clear H
                go_wp2
                go_loopg [6] kj15 (fun kq v6 w' => ∃ (x6_3 : Int), v6 = .int .i64 x6_3 ∧ Aside0 (laws_FnCltuBack.l0 kq t160 t163 x6_3 = some r) ∧ Aside0 (kq ≤ kj15) ∧ Aside0 (Below w.heap.size w w'))
                case atStart => exact ⟨((t159.size : Int)), (by first | rfl | (simp; done) | (simp [*]; done)), H', ⟨Nat.le_refl _⟩, ⟨by repeat (first | (with_reducible first | exact HB.out | apply below_alloc | apply pw_below_drewN | apply below_drew1) | exact HB.out)⟩⟩
                case round =>
                  clear H'
                  try clear c1
                  try clear c2
                  try clear c2b0
                  try clear c2b1
                  try clear p2
                  try clear c3
                  try clear p6
                  try clear c9
                  try clear c9b0
                  try clear c9b1
                  try clear c10
                  try clear c11
                  try clear c12
                  try clear c18
                  try clear c18b0
                  try clear c18b1
                  try clear c19
                  try clear c19b0
                  try clear c19b1
                  try clear c20
                  try clear c20b0
                  try clear c20b1
                  try clear c21
                  try clear c21b0
                  try clear c21b1
                  try clear c22
                  try clear c22b0
                  try clear c22b1
                  try clear c23
                  try clear p2
                  try clear p6
                  obtain ⟨x6_3, rfl, HA, HK3, HB⟩ := hrel
                  cases gk with
                  | zero => exact absurd HA.out (by simp [laws_FnCltuBack.l0])
                  | succ k3 =>
                    have H := HA.out
                    clear HA
                    simp only [laws_FnCltuBack.l0] at H
                    by_cases c24 : x6_3 < (t163.size : Int)
                    · rw [if_pos c24] at H
                      have c24b0 : decide (x6_3 < (t163.size : Int)) = true := decide_eq_true c24
                      clear c24
                      by_cases c25 : 0 ≤ x6_3
                      · rw [if_pos c25] at H
                        have c25b0 : decide (0 ≤ x6_3) = true := decide_eq_true c25
                        clear c25
                        by_cases c27 : (bt t163 x6_3) = 85
                        · rw [if_pos c27] at H
                          have c27b0 : ((bt t163 x6_3) == 85) = true := beq_iff_eq.mpr c27
                          have c27b1 : ((bt t163 x6_3) != 85) = false := bne_eq_false_iff_eq.mpr c27
                          clear c27
                          have H' := Aside0.mk H
                          clear H
                          have p26 : 0 ≤ (x6_3 : Int) := of_decide_eq_true (by first | (with_reducible assumption) | assumption)
                          have q26 : x6_3 < (t163.size : Int) := of_decide_eq_true (by first | (with_reducible assumption) | assumption)
                          have hx26 := bt_at t163 x6_3
                          replace p26 := eq_true p26
                          replace q26 := eq_true q26
                          go_wp2
                          go_roundg k3
                          case measure => have := HJ4.out; have := HJ15.out; have := HK3.out; omega
                          case rel => exact ⟨(wrap64 (x6_3 + 1)), (by first | rfl | (simp; done) | (simp [*]; done)), H', ⟨by have := HJ4.out; have := HJ15.out; have := HK3.out; omega⟩, ⟨by repeat (first | (with_reducible first | exact HB.out | apply below_alloc | apply pw_below_drewN | apply below_drew1) | exact HB.out)⟩⟩
                        · rw [if_neg c27] at H
                          have c27b0 : ((bt t163 x6_3) == 85) = false := beq_eq_false_iff_ne.mpr c27
                          have c27b1 : ((bt t163 x6_3) != 85) = true := bne_iff_ne.mpr c27
                          exact absurd ((Option.some.inj H).trans HRT_.out) (by decide)
                      · rw [if_neg c25] at H
                        exact absurd H (by simp)
                    · rw [if_neg c24] at H
                      have c24b0 : decide (x6_3 < (t163.size : Int)) = false := decide_eq_false c24
                      clear c24
                      by_cases c28 : (t160.size : Int) = (wrap64 (10 + (wrap64 ((wrap64 ((t163.size : Int) / 7)) * 8))))
                      · rw [if_pos c28] at H
                        have c28b0 : ((t160.size : Int) == (wrap64 (10 + (wrap64 ((wrap64 ((t163.size : Int) / 7)) * 8))))) = true := beq_iff_eq.mpr c28
                        have c28b1 : ((t160.size : Int) != (wrap64 (10 + (wrap64 ((wrap64 ((t163.size : Int) / 7)) * 8))))) = false := bne_eq_false_iff_eq.mpr c28
                        clear c28
                        by_cases c29 : 1 + t160.size ≤ 9223372036854775807
                        · rw [if_pos c29] at H
                          have c29b0 := eq_true c29
                          have c29b1 : decide (1 + t160.size ≤ 9223372036854775807) = true := decide_eq_true c29
                          try have c29b2 : (9223372036854775807 < 1 + t160.size) = False := eq_false (Nat.not_lt.2 c29)
                          replace H := Option.bind_eq_some_iff.mp H
                          obtain ⟨t164, A300, H⟩ := H
                          replace H : (some (t164.toList == ([] : List UInt8))) = some r := H
                          have A30 := Aside0.mk A300
                          clear A300
                          obtain rfl := Option.some.inj H
                          go_wp2_with (first | (go_at_call 12; (with_reducible refine (impl_CltuRead.calls k3 ((⟨#[120]⟩ : ByteArray) ++ t160) t164 _ A30.out).mono ?_); rintro e w31 ⟨rfl, hb⟩; have n0_ := Aside0.mk (below_step (by repeat (first | (with_reducible first | exact HB.out | apply below_alloc | apply pw_below_drewN | apply below_drew1) | exact HB.out)) hb); clear HB; have HB := n0_; clear n0_; (try clear hb); (try clear hb2); (try clear hk); (try clear hi)))
                          go_ret
                          exact ⟨by first | rfl | (simp [errW_none, errW_some] <;> rfl) | (simp [*, errW_none, errW_some] <;> rfl), by repeat (first | (with_reducible first | exact HB.out | apply below_alloc | apply pw_below_drewN | apply below_drew1) | exact HB.out)⟩
                        · rw [if_neg c29] at H
                          exact absurd H (by simp)
                      · rw [if_neg c28] at H
                        have c28b0 : ((t160.size : Int) == (wrap64 (10 + (wrap64 ((wrap64 ((t163.size : Int) / 7)) * 8))))) = false := beq_eq_false_iff_ne.mpr c28
                        have c28b1 : ((t160.size : Int) != (wrap64 (10 + (wrap64 ((wrap64 ((t163.size : Int) / 7)) * 8))))) = true := bne_iff_ne.mpr c28
                        exact absurd ((Option.some.inj H).trans HRT_.out) (by decide)

/-- THE ONE PURE STATEMENT of laws_FnCltuBack: yours. -/
def laws_FnCltuBack.Pure : Prop := ∀ (l0 : List Int), l0.length ≤ maxLen → l0.length * 1 ≤ 140737488351232 → (∀ x ∈ l0, (Lit.int .u8 x).wf = true) → ∃ k, laws_FnCltuBack.f k l0 = some true
theorem laws_FnCltuBack.walk (P : laws_FnCltuBack.Pure) (a0 : Option Addr) (len0 cap0 : Nat) (z0 : List Int) (w : World) (w0 : (a0 = none ∧ len0 = 0 ∧ cap0 = 0 ∧ z0 = []) ∨ ∃ x, a0 = some x ∧ len0 ≤ cap0 ∧ cap0 ≤ maxLen ∧ z0.length = cap0 ∧ (∀ i, i < z0.length → w.cell? (x.add i) = some (.int .u8 (z0.getD i 0))) ∧ ∀ n ∈ z0, (Lit.int .u8 n).wf = true) (y0 : len0 * 1 ≤ 140737488351232) :
    Calls Try.prog 3 #[.slice a0 len0 cap0] w fun e w' => e = .returned (.bool true) ∧ Below w.heap.size w w' := by
  obtain ⟨l0, rfl, hr0, hm0, hw0, hc0⟩ := ReadsInt.ofRowC w0
  obtain ⟨k, h⟩ := P l0 hm0 y0 hw0
  refine (laws_FnCltuBack.calls k _ _ l0 true w (Kd.C_of_reads (d := (0 : Int)) (h1 := fun _ => rfl) hr0) hc0 rfl h).mono ?_
  rintro e w' ⟨rfl, hd⟩
  exact ⟨rfl, hd⟩

end Go.Proofs.Ytiknnbjfpdeieaa.PFnCltuBack
