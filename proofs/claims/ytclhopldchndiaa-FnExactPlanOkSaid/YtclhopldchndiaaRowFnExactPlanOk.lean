/- FnExactPlanOk: the row, for every input: the law answers true and its arguments read as they did. No conditions. -/
import Derived.Test.YtclhopldchndiaaRows
import Derived.Test.YtclhopldchndiaaOpen
import Derived.Test.YtclhopldchndiaaPFnExactPlanOkx4
import Derived.Test.YtclhopldchndiaaPureFnExactPlanOk
import Derived.WalkKit
import Derived.ProofKit
import Derived.OpenShut
import Derived.ShutString
import Derived.ChangeOld
import Derived.Below
import Derived.SizedLaws
import Derived.Carry
namespace Go.Proofs.Ytclhopldchndiaa.fnExactPlanOk
open Go.ChangeShapes Go.WideShapes Go.ChangeAt Go.RowKit Go.Proofs.Ytclhopldchndiaa.Open Go.Proofs.YtclhopldchndiaaW.PrintWords
open Go.ChangeMaps (open_string shut_string)
set_option linter.unusedVariables false
set_option linter.unusedSimpArgs false
theorem own : ownKnob Try.prog.godebug = none := by kernel_rfl
theorem laidOut : laidOutB Try.prog = true := by kernel_rfl
theorem el_Item {H : Type} {enc : TypeId × Value → H} {w : World} {base : Nat} {spare : Nat → Bool} {held : Bool} (n : Nat) (cs' : List Value) (y : DataW H × List MemPlace) (h : DataW.trod enc Try.prog w base spare held n 122 cs' = some y) :
    ∃ a : PFnExactPlanOk.S122, PFnExactPlanOk.k122.K w a cs' ∧ a.f1.size ≤ 9223372036854775807 := by
  obtain ⟨hl, n1, hf⟩ := open_cells Try.underlying122 (by kernel_rfl) (by kernel_rfl) h
  obtain ⟨x0, x1, rfl⟩ := list2 hl
  obtain ⟨c, y, hc, ht⟩ := hf 0 _ rfl
  obtain rfl : x0 = c := at0 hc
  obtain ⟨b0, e, _, w_b0⟩ := DataW.trod_int Try.underlying3 ht
  obtain rfl : x0 = .int .i64 b0 := one e
  clear hc ht e
  obtain ⟨c, y, hc, ht⟩ := hf 1 _ rfl
  obtain rfl : x1 = c := at1 hc
  obtain ⟨b1, e, _, s_b1⟩ := DataW.trod_string Try.underlying9 ht
  obtain rfl : x1 = .string b1 := one e
  clear hc ht e
  exact ⟨⟨b0, b1⟩, PFnExactPlanOk.k122_mk w _, s_b1⟩
set_option maxRecDepth 100000 in
theorem lifted (os : Os) (started : os.Started) (H : Type) (enc : TypeId × Value → H) :
    ReturnsInHanded {} Try.checked os 10 .any (Rows.fnExactPlanOkSpec.pre6 enc Try.prog Try.f10 Rows.fnExactPlanOkRow.domain false) (Rows.fnExactPlanOkSpec.post enc Try.prog Try.f10 false true false false) := by
  refine returnsInHanded_of_change_sized (C := Try.checked) own started (by kernel_rfl) Try.func10
    (ChangeSpec.witness6 (enc := enc) (C := Try.checked) false ⟨#[], #[.agg #[.bool false, .slice none 0 0]], []⟩ 8 (by kernel_rfl) (by kernel_rfl) (by kernel_rfl) (by kernel_rfl)) ?_
  intro W base args ds gs before hval0 hW hcnd hsz0 _
  have hsz : (DataW.weightsEach Try.prog (Try.f10.params.toList ++ Rows.fnExactPlanOkSpec.plain.varTypes Try.prog) (ds ++ gs)).all (· ≤ reachBytes) = true := hsz0
  have hval : ∀ (j : Nat) t v, Try.f10.params[j]? = some t → args[j]? = some v → Value.okWide Try.prog W .any base t v := hval0
  have hW' := hW
  obtain ⟨p, q, hA0, hV, rfl, hfz, hnd⟩ := hW
  have hA : DataW.TrodAll enc Try.prog W 0 (fun _ => true) true Try.f10.params.toList args.toList ds p := hA0
  rw [Try.params10] at hA hval hsz
  obtain ⟨v0, vs0, d0, ds0, p0, q0, hargs, rfl, rfl, h0, r0⟩ := trodAll_cons hA
  obtain ⟨rfl, rfl, rfl⟩ := trodAll_nil r0
  obtain rfl : args = #[v0] := by cases args; simp_all
  obtain ⟨rfl, rfl⟩ := trodVars_none hV
  have hlt0 : ∀ x ∈ p0, x.block < W.heap.size := fun x hx => by simpa using hW'.lt x (by simp [hx])
  have z0 := h0
  obtain ⟨cs0, n0, rfl, hl0, hf0⟩ := open_agg Try.underlying66 (by kernel_rfl) (by kernel_rfl) (hval 0 66 v0 rfl rfl) h0
  obtain ⟨x0_0, x0_1, rfl⟩ := list2 hl0
  obtain ⟨c, y, hc, ht⟩ := hf0 0 _ rfl
  obtain rfl : x0_0 = c := at0 hc
  obtain ⟨b0_0, e, _⟩ := DataW.trod_bool Try.underlying4 ht
  obtain rfl : x0_0 = .bool b0_0 := one e
  clear hc ht e
  obtain ⟨c, y, hc, ht⟩ := hf0 1 _ rfl
  obtain rfl : x0_1 = c := at1 hc
  obtain ⟨A_b0_1, c_b0_1, b0_1, e, l_b0_1, k_b0_1, g_b0_1⟩ := open_kind PFnExactPlanOk.k122 (fun a => a.f1.size ≤ 9223372036854775807) Try.underlying64 (by kernel_rfl) el_Item ht
  obtain rfl : x0_1 = .slice A_b0_1 b0_1.length c_b0_1 := one e
  clear hc ht e
  clear hA0 hval0 hsz0 hsz
  obtain ⟨k, hk⟩ := Pure.FnExactPlanOk b0_0 b0_1 k_b0_1.2.1 g_b0_1
  refine (PFnExactPlanOk.laws_FnExactPlanOk.calls k b0_0 A_b0_1 c_b0_1 b0_1 true W k_b0_1 l_b0_1 hk).mono fun e W' ⟨he, hd⟩ => ?_
  have bel : Below W.heap.size W W' := by first | exact hd | exact hd.below
  subst he
  exact ⟨_, rfl, _, _, _, [], _, [], hW', trodAll_mk1 (shut_bool Try.underlying4 _), (trodAll_cons_mk (Below.trod laidOut (by kernel_rfl) (of_decide_eq_true (by kernel_rfl)) z0 bel hlt0) trodAll_mk0), rfl, bel.frame _, fun h => by cases h⟩
theorem over : Rows.fnExactPlanOkRow.holds Try.pinned (OpenSpec.ofChange Rows.fnExactPlanOkSpec) :=
  OpenClaim.holds_of_wide 10 Try.f10 rfl rfl rfl rfl rfl rfl rfl ⟨rfl, rfl, rfl, rfl, rfl⟩ rfl rfl rfl rfl rfl (by kernel_rfl) Try.func10 (by kernel_rfl)
    (of_decide_eq_true (by kernel_rfl)) (by unfold Func.isWrapper; first | (rw [if_pos (by decide +kernel)]; kernel_rfl) | (rw [if_neg (by decide +kernel)]; exact ⟨rfl, rfl⟩))
    (fun os started H enc _ => lifted os started H enc)
theorem proved : Rows.FnExactPlanOkSaid := over
#print axioms proved
end Go.Proofs.Ytclhopldchndiaa.fnExactPlanOk
namespace Go.Proofs.Ytclhopldchndiaa
/-- The row, under a short name, for the claim. -/
theorem fnExactPlanOk_holds : Rows.FnExactPlanOkSaid := fnExactPlanOk.proved
end Go.Proofs.Ytclhopldchndiaa
