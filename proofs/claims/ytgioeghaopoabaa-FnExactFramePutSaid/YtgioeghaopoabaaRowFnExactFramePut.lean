/- FnExactFramePut: the row, for every input: the law answers true and its arguments read as they did. No conditions. -/
import Derived.Test.YtgioeghaopoabaaRows
import Derived.Test.YtgioeghaopoabaaOpen
import Derived.Test.YtgioeghaopoabaaPFnExactFramePutx3
import Derived.Test.YtgioeghaopoabaaPureFnExactFramePut
import Derived.WalkKit
import Derived.ProofKit
import Derived.OpenShut
import Derived.ShutString
import Derived.ChangeOld
import Derived.Below
import Derived.SizedLaws
import Derived.Carry
namespace Go.Proofs.Ytgioeghaopoabaa.fnExactFramePut
open Go.ChangeShapes Go.WideShapes Go.ChangeAt Go.RowKit Go.Proofs.Ytgioeghaopoabaa.Open Go.Proofs.YtgioeghaopoabaaW.PrintWords
open Go.ChangeMaps (open_string shut_string)
set_option linter.unusedVariables false
set_option linter.unusedSimpArgs false
theorem own : ownKnob Try.prog.godebug = none := by kernel_rfl
theorem laidOut : laidOutB Try.prog = true := by kernel_rfl
set_option maxRecDepth 100000 in
theorem lifted (os : Os) (started : os.Started) (H : Type) (enc : TypeId × Value → H) :
    ReturnsInHanded {} Try.checked os 8 .any (Rows.fnExactFramePutSpec.pre6 enc Try.prog Try.f8 Rows.fnExactFramePutRow.domain false) (Rows.fnExactFramePutSpec.post enc Try.prog Try.f8 false true false false) := by
  refine returnsInHanded_of_change_sized (C := Try.checked) own started (by kernel_rfl) Try.func8
    (ChangeSpec.witness6 (enc := enc) (C := Try.checked) false ⟨#[], #[.agg #[.bool false, .bool false, .int .i64 0, .int .i64 0, .int .i64 0, .string ByteArray.empty]], []⟩ 8 (by kernel_rfl) (by kernel_rfl) (by kernel_rfl) (by kernel_rfl)) ?_
  intro W base args ds gs before hval0 hW hcnd hsz0 _
  have hsz : (DataW.weightsEach Try.prog (Try.f8.params.toList ++ Rows.fnExactFramePutSpec.plain.varTypes Try.prog) (ds ++ gs)).all (· ≤ reachBytes) = true := hsz0
  have hval : ∀ (j : Nat) t v, Try.f8.params[j]? = some t → args[j]? = some v → Value.okWide Try.prog W .any base t v := hval0
  have hW' := hW
  obtain ⟨p, q, hA0, hV, rfl, hfz, hnd⟩ := hW
  have hA : DataW.TrodAll enc Try.prog W 0 (fun _ => true) true Try.f8.params.toList args.toList ds p := hA0
  rw [Try.params8] at hA hval hsz
  obtain ⟨v0, vs0, d0, ds0, p0, q0, hargs, rfl, rfl, h0, r0⟩ := trodAll_cons hA
  obtain ⟨rfl, rfl, rfl⟩ := trodAll_nil r0
  obtain rfl : args = #[v0] := by cases args; simp_all
  obtain ⟨rfl, rfl⟩ := trodVars_none hV
  have hlt0 : ∀ x ∈ p0, x.block < W.heap.size := fun x hx => by simpa using hW'.lt x (by simp [hx])
  have z0 := h0
  obtain ⟨cs0, n0, rfl, hl0, hf0⟩ := open_agg Try.underlying45 (by kernel_rfl) (by kernel_rfl) (hval 0 45 v0 rfl rfl) h0
  obtain ⟨x0_0, x0_1, x0_2, x0_3, x0_4, x0_5, rfl⟩ := list6 hl0
  obtain ⟨c, y, hc, ht⟩ := hf0 0 _ rfl
  obtain rfl : x0_0 = c := at0 hc
  obtain ⟨b0_0, e, _⟩ := DataW.trod_bool Try.underlying4 ht
  obtain rfl : x0_0 = .bool b0_0 := one e
  clear hc ht e
  obtain ⟨c, y, hc, ht⟩ := hf0 1 _ rfl
  obtain rfl : x0_1 = c := at1 hc
  obtain ⟨b0_1, e, _⟩ := DataW.trod_bool Try.underlying4 ht
  obtain rfl : x0_1 = .bool b0_1 := one e
  clear hc ht e
  obtain ⟨c, y, hc, ht⟩ := hf0 2 _ rfl
  obtain rfl : x0_2 = c := at2 hc
  obtain ⟨b0_2, e, _, w_b0_2⟩ := DataW.trod_int Try.underlying3 ht
  obtain rfl : x0_2 = .int .i64 b0_2 := one e
  clear hc ht e
  obtain ⟨c, y, hc, ht⟩ := hf0 3 _ rfl
  obtain rfl : x0_3 = c := at3 hc
  obtain ⟨b0_3, e, _, w_b0_3⟩ := DataW.trod_int Try.underlying3 ht
  obtain rfl : x0_3 = .int .i64 b0_3 := one e
  clear hc ht e
  obtain ⟨c, y, hc, ht⟩ := hf0 4 _ rfl
  obtain rfl : x0_4 = c := at4 hc
  obtain ⟨b0_4, e, _, w_b0_4⟩ := DataW.trod_int Try.underlying3 ht
  obtain rfl : x0_4 = .int .i64 b0_4 := one e
  clear hc ht e
  obtain ⟨c, y, hc, ht⟩ := hf0 5 _ rfl
  obtain rfl : x0_5 = c := at5 hc
  obtain ⟨b0_5, e, _, s_b0_5⟩ := DataW.trod_string Try.underlying9 ht
  obtain rfl : x0_5 = .string b0_5 := one e
  clear hc ht e
  clear hA0 hval0 hsz0 hsz
  obtain ⟨k, hk⟩ := Pure.FnExactFramePut b0_0 b0_1 b0_2 b0_3 b0_4 b0_5 w_b0_2 w_b0_3 w_b0_4 s_b0_5
  refine (PFnExactFramePut.laws_FnExactFramePut.calls k b0_0 b0_1 b0_2 b0_3 b0_4 b0_5 true W  hk).mono fun e W' ⟨he, hd⟩ => ?_
  have bel : Below W.heap.size W W' := by first | exact hd | exact hd.below
  subst he
  exact ⟨_, rfl, _, _, _, [], _, [], hW', trodAll_mk1 (shut_bool Try.underlying4 _), (trodAll_cons_mk (Below.trod laidOut (by kernel_rfl) (of_decide_eq_true (by kernel_rfl)) z0 bel hlt0) trodAll_mk0), rfl, bel.frame _, fun h => by cases h⟩
theorem over : Rows.fnExactFramePutRow.holds Try.pinned (OpenSpec.ofChange Rows.fnExactFramePutSpec) :=
  OpenClaim.holds_of_wide 8 Try.f8 rfl rfl rfl rfl rfl rfl rfl ⟨rfl, rfl, rfl, rfl, rfl⟩ rfl rfl rfl rfl rfl (by kernel_rfl) Try.func8 (by kernel_rfl)
    (of_decide_eq_true (by kernel_rfl)) (by unfold Func.isWrapper; first | (rw [if_pos (by decide +kernel)]; kernel_rfl) | (rw [if_neg (by decide +kernel)]; exact ⟨rfl, rfl⟩))
    (fun os started H enc _ => lifted os started H enc)
theorem proved : Rows.FnExactFramePutSaid := over
#print axioms proved
end Go.Proofs.Ytgioeghaopoabaa.fnExactFramePut
namespace Go.Proofs.Ytgioeghaopoabaa
/-- The row, under a short name, for the claim. -/
theorem fnExactFramePut_holds : Rows.FnExactFramePutSaid := fnExactFramePut.proved
end Go.Proofs.Ytgioeghaopoabaa
