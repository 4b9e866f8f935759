/- FnExactPlanShift: the row, for every input: the law answers true and its arguments read as they did. No conditions. -/
import Derived.Test.YthiddhipphaacaaRows
import Derived.Test.YthiddhipphaacaaOpen
import Derived.Test.YthiddhipphaacaaPFnExactPlanShiftx7
import Derived.Test.YthiddhipphaacaaPureFnExactPlanShift
import Derived.WalkKit
import Derived.ProofKit
import Derived.OpenShut
import Derived.ShutString
import Derived.ChangeOld
import Derived.Below
import Derived.SizedLaws
import Derived.Carry
namespace Go.Proofs.Ythiddhipphaacaa.fnExactPlanShift
open Go.ChangeShapes Go.WideShapes Go.ChangeAt Go.RowKit Go.Proofs.Ythiddhipphaacaa.Open Go.Proofs.YthiddhipphaacaaW.PrintWords
open Go.ChangeMaps (open_string shut_string)
set_option linter.unusedVariables false
set_option linter.unusedSimpArgs false
theorem own : ownKnob Try.prog.godebug = none := by kernel_rfl
theorem laidOut : laidOutB Try.prog = true := by kernel_rfl
theorem el_Item {H : Type} {enc : TypeId × Value → H} {w : World} {base : Nat} {spare : Nat → Bool} {held : Bool} (n : Nat) (cs' : List Value) (y : DataW H × List MemPlace) (h : DataW.trod enc Try.prog w base spare held n 61 cs' = some y) :
    ∃ a : PFnExactPlanShift.S61, PFnExactPlanShift.k61.K w a cs' ∧ a.f1.size ≤ 9223372036854775807 := by
  obtain ⟨hl, n1, hf⟩ := open_cells Try.underlying61 (by kernel_rfl) (by kernel_rfl) h
  obtain ⟨x0, x1, rfl⟩ := list2 hl
  obtain ⟨c, y, hc, ht⟩ := hf 0 _ rfl
  obtain rfl : x0 = c := at0 hc
  obtain ⟨b0, e, _, w_b0⟩ := DataW.trod_int Try.underlying3 ht
  obtain rfl : x0 = .int .i64 b0 := one e
  clear hc ht e
  obtain ⟨c, y, hc, ht⟩ := hf 1 _ rfl
  obtain rfl : x1 = c := at1 hc
  obtain ⟨b1, e, _, s_b1⟩ := DataW.trod_string Try.underlying9 ht
  obtain rfl : x1 = .string b1 := one e
  clear hc ht e
  exact ⟨⟨b0, b1⟩, PFnExactPlanShift.k61_mk w _, s_b1⟩
set_option maxRecDepth 100000 in
theorem lifted (os : Os) (started : os.Started) (H : Type) (enc : TypeId × Value → H) :
    ReturnsInHanded {} Try.checked os 6 .any (Rows.fnExactPlanShiftSpec.pre6 enc Try.prog Try.f6 Rows.fnExactPlanShiftRow.domain false) (Rows.fnExactPlanShiftSpec.post enc Try.prog Try.f6 false true false false) := by
  refine returnsInHanded_of_change_sized (C := Try.checked) own started (by kernel_rfl) Try.func6
    (ChangeSpec.witness6 (enc := enc) (C := Try.checked) false ⟨#[], #[.agg #[.bool false, .slice none 0 0], .int .i64 0, .int .i64 0], []⟩ 8 (by kernel_rfl) (by kernel_rfl) (by kernel_rfl) (by kernel_rfl)) ?_
  intro W base args ds gs before hval0 hW hcnd hsz0 _
  have hsz : (DataW.weightsEach Try.prog (Try.f6.params.toList ++ Rows.fnExactPlanShiftSpec.plain.varTypes Try.prog) (ds ++ gs)).all (· ≤ reachBytes) = true := hsz0
  have hval : ∀ (j : Nat) t v, Try.f6.params[j]? = some t → args[j]? = some v → Value.okWide Try.prog W .any base t v := hval0
  have hW' := hW
  obtain ⟨p, q, hA0, hV, rfl, hfz, hnd⟩ := hW
  have hA : DataW.TrodAll enc Try.prog W 0 (fun _ => true) true Try.f6.params.toList args.toList ds p := hA0
  rw [Try.params6] at hA hval hsz
  obtain ⟨v0, vs0, d0, ds0, p0, q0, hargs, rfl, rfl, h0, r0⟩ := trodAll_cons hA
  obtain ⟨v1, vs1, d1, ds1, p1, q1, rfl, rfl, rfl, h1, r1⟩ := trodAll_cons r0
  obtain ⟨v2, vs2, d2, ds2, p2, q2, rfl, rfl, rfl, h2, r2⟩ := trodAll_cons r1
  obtain ⟨rfl, rfl, rfl⟩ := trodAll_nil r2
  obtain rfl : args = #[v0, v1, v2] := by cases args; simp_all
  obtain ⟨rfl, rfl⟩ := trodVars_none hV
  have hlt0 : ∀ x ∈ p0, x.block < W.heap.size := fun x hx => by simpa using hW'.lt x (by simp [hx])
  have hlt1 : ∀ x ∈ p1, x.block < W.heap.size := fun x hx => by simpa using hW'.lt x (by simp [hx])
  have hlt2 : ∀ x ∈ p2, x.block < W.heap.size := fun x hx => by simpa using hW'.lt x (by simp [hx])
  have z0 := h0
  have z1 := h1
  have z2 := h2
  obtain ⟨cs0, n0, rfl, hl0, hf0⟩ := open_agg Try.underlying38 (by kernel_rfl) (by kernel_rfl) (hval 0 38 v0 rfl rfl) h0
  obtain ⟨x0_0, x0_1, rfl⟩ := list2 hl0
  obtain ⟨c, y, hc, ht⟩ := hf0 0 _ rfl
  obtain rfl : x0_0 = c := at0 hc
  obtain ⟨b0_0, e, _⟩ := DataW.trod_bool Try.underlying4 ht
  obtain rfl : x0_0 = .bool b0_0 := one e
  clear hc ht e
  obtain ⟨c, y, hc, ht⟩ := hf0 1 _ rfl
  obtain rfl : x0_1 = c := at1 hc
  obtain ⟨A_b0_1, c_b0_1, b0_1, e, l_b0_1, k_b0_1, g_b0_1⟩ := open_kind PFnExactPlanShift.k61 (fun a => a.f1.size ≤ 9223372036854775807) Try.underlying36 (by kernel_rfl) el_Item ht
  obtain rfl : x0_1 = .slice A_b0_1 b0_1.length c_b0_1 := one e
  clear hc ht e
  obtain ⟨a1, rfl, rfl, rfl, w1⟩ := open_int Try.underlying3 (hval 1 3 v1 rfl rfl) h1
  obtain ⟨a2, rfl, rfl, rfl, w2⟩ := open_int Try.underlying3 (hval 2 3 v2 rfl rfl) h2
  clear hA0 hval0 hsz0 hsz
  obtain ⟨k, hk⟩ := Pure.FnExactPlanShift b0_0 b0_1 a1 a2 k_b0_1.2.1 g_b0_1 w1 w2
  refine (PFnExactPlanShift.laws_FnExactPlanShift.calls k b0_0 A_b0_1 c_b0_1 b0_1 a1 a2 true W k_b0_1 l_b0_1 rfl hk).mono fun e W' ⟨he, hd⟩ => ?_
  have bel : Below W.heap.size W W' := by first | exact hd | exact hd.below
  subst he
  exact ⟨_, rfl, _, _, _, [], _, [], hW', trodAll_mk1 (shut_bool Try.underlying4 _), (trodAll_cons_mk (Below.trod laidOut (by kernel_rfl) (of_decide_eq_true (by kernel_rfl)) z0 bel hlt0) (trodAll_cons_mk (shut_int Try.underlying3 w1) (trodAll_cons_mk (shut_int Try.underlying3 w2) trodAll_mk0))), rfl, bel.frame _, fun h => by cases h⟩
theorem over : Rows.fnExactPlanShiftRow.holds Try.pinned (OpenSpec.ofChange Rows.fnExactPlanShiftSpec) :=
  OpenClaim.holds_of_wide 6 Try.f6 rfl rfl rfl rfl rfl rfl rfl ⟨rfl, rfl, rfl, rfl, rfl⟩ rfl rfl rfl rfl rfl (by kernel_rfl) Try.func6 (by kernel_rfl)
    (of_decide_eq_true (by kernel_rfl)) (by unfold Func.isWrapper; first | (rw [if_pos (by decide +kernel)]; kernel_rfl) | (rw [if_neg (by decide +kernel)]; exact ⟨rfl, rfl⟩))
    (fun os started H enc _ => lifted os started H enc)
theorem proved : Rows.FnExactPlanShiftSaid := over
#print axioms proved
end Go.Proofs.Ythiddhipphaacaa.fnExactPlanShift
namespace Go.Proofs.Ythiddhipphaacaa
/-- The row, under a short name, for the claim. -/
theorem fnExactPlanShift_holds : Rows.FnExactPlanShiftSaid := fnExactPlanShift.proved
end Go.Proofs.Ythiddhipphaacaa
