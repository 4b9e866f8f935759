/- FnExactRulesLess: the row, for every input: the law answers true and its arguments read as they did. No conditions. -/
import Derived.Test.YtnadkhgdeofheaaRows
import Derived.Test.YtnadkhgdeofheaaOpen
import Derived.Test.YtnadkhgdeofheaaPFnExactRulesLessx4
import Derived.Test.YtnadkhgdeofheaaPureFnExactRulesLess
import Derived.WalkKit
import Derived.ProofKit
import Derived.OpenShut
import Derived.ShutString
import Derived.ChangeOld
import Derived.Below
import Derived.SizedLaws
import Derived.Carry
namespace Go.Proofs.Ytnadkhgdeofheaa.fnExactRulesLess
open Go.ChangeShapes Go.WideShapes Go.ChangeAt Go.RowKit Go.Proofs.Ytnadkhgdeofheaa.Open Go.Proofs.YtnadkhgdeofheaaW.PrintWords
open Go.ChangeMaps (open_string shut_string)
set_option linter.unusedVariables false
set_option linter.unusedSimpArgs false
theorem own : ownKnob Try.prog.godebug = none := by kernel_rfl
theorem laidOut : laidOutB Try.prog = true := by kernel_rfl
theorem el_Rule {H : Type} {enc : TypeId × Value → H} {w : World} {base : Nat} {spare : Nat → Bool} {held : Bool} (n : Nat) (cs' : List Value) (y : DataW H × List MemPlace) (h : DataW.trod enc Try.prog w base spare held n 62 cs' = some y) :
    ∃ a : PFnExactRulesLess.S62, PFnExactRulesLess.k62.K w a cs' ∧ True := by
  obtain ⟨hl, n1, hf⟩ := open_cells Try.underlying62 (by kernel_rfl) (by kernel_rfl) h
  obtain ⟨x0, x1, x2, x3, x4, x5, rfl⟩ := list6 hl
  obtain ⟨c, y, hc, ht⟩ := hf 0 _ rfl
  obtain rfl : x0 = c := at0 hc
  obtain ⟨b0, e, _, w_b0⟩ := DataW.trod_int Try.underlying3 ht
  obtain rfl : x0 = .int .i64 b0 := one e
  clear hc ht e
  obtain ⟨c, y, hc, ht⟩ := hf 1 _ rfl
  obtain rfl : x1 = c := at1 hc
  obtain ⟨b1, e, _, w_b1⟩ := DataW.trod_int Try.underlying3 ht
  obtain rfl : x1 = .int .i64 b1 := one e
  clear hc ht e
  obtain ⟨c, y, hc, ht⟩ := hf 2 _ rfl
  obtain rfl : x2 = c := at2 hc
  obtain ⟨b2, e, _, w_b2⟩ := DataW.trod_int Try.underlying3 ht
  obtain rfl : x2 = .int .i64 b2 := one e
  clear hc ht e
  obtain ⟨c, y, hc, ht⟩ := hf 3 _ rfl
  obtain rfl : x3 = c := at3 hc
  obtain ⟨b3, e, _, w_b3⟩ := DataW.trod_int Try.underlying3 ht
  obtain rfl : x3 = .int .i64 b3 := one e
  clear hc ht e
  obtain ⟨c, y, hc, ht⟩ := hf 4 _ rfl
  obtain rfl : x4 = c := at4 hc
  obtain ⟨b4, e, _⟩ := DataW.trod_bool Try.underlying4 ht
  obtain rfl : x4 = .bool b4 := one e
  clear hc ht e
  obtain ⟨c, y, hc, ht⟩ := hf 5 _ rfl
  obtain rfl : x5 = c := at5 hc
  obtain ⟨b5, e, _⟩ := DataW.trod_bool Try.underlying4 ht
  obtain rfl : x5 = .bool b5 := one e
  clear hc ht e
  exact ⟨⟨b0, b1, b2, b3, b4, b5⟩, PFnExactRulesLess.k62_mk w _, trivial⟩
set_option maxRecDepth 100000 in
theorem lifted (os : Os) (started : os.Started) (H : Type) (enc : TypeId × Value → H) :
    ReturnsInHanded {} Try.checked os 6 .any (Rows.fnExactRulesLessSpec.pre6 enc Try.prog Try.f6 Rows.fnExactRulesLessRow.domain false) (Rows.fnExactRulesLessSpec.post enc Try.prog Try.f6 false true false false) := by
  refine returnsInHanded_of_change_sized (C := Try.checked) own started (by kernel_rfl) Try.func6
    (ChangeSpec.witness6 (enc := enc) (C := Try.checked) false ⟨#[], #[.slice none 0 0], []⟩ 8 (by kernel_rfl) (by kernel_rfl) (by kernel_rfl) (by kernel_rfl)) ?_
  intro W base args ds gs before hval0 hW hcnd hsz0 _
  have hsz : (DataW.weightsEach Try.prog (Try.f6.params.toList ++ Rows.fnExactRulesLessSpec.plain.varTypes Try.prog) (ds ++ gs)).all (· ≤ reachBytes) = true := hsz0
  have hval : ∀ (j : Nat) t v, Try.f6.params[j]? = some t → args[j]? = some v → Value.okWide Try.prog W .any base t v := hval0
  have hW' := hW
  obtain ⟨p, q, hA0, hV, rfl, hfz, hnd⟩ := hW
  have hA : DataW.TrodAll enc Try.prog W 0 (fun _ => true) true Try.f6.params.toList args.toList ds p := hA0
  rw [Try.params6] at hA hval hsz
  obtain ⟨v0, vs0, d0, ds0, p0, q0, hargs, rfl, rfl, h0, r0⟩ := trodAll_cons hA
  obtain ⟨rfl, rfl, rfl⟩ := trodAll_nil r0
  obtain rfl : args = #[v0] := by cases args; simp_all
  obtain ⟨rfl, rfl⟩ := trodVars_none hV
  have hlt0 : ∀ x ∈ p0, x.block < W.heap.size := fun x hx => by simpa using hW'.lt x (by simp [hx])
  have z0 := h0
  obtain ⟨A0v, lenv, capv, rfl⟩ := okWide_slice Try.underlying33 (hval 0 33 v0 rfl rfl)
  obtain ⟨fuel0, ht0⟩ := h0
  obtain ⟨A_b0, c_b0, b0, e_b0, l_b0, k_b0, g_b0⟩ := open_kind PFnExactRulesLess.k62 (fun a => True) Try.underlying33 (by kernel_rfl) el_Rule ht0
  simp only [Value.cells, List.cons.injEq, and_true] at e_b0
  obtain ⟨rfl, rfl, rfl⟩ : A0v = A_b0 ∧ lenv = b0.length ∧ capv = c_b0 := by simpa using e_b0
  clear hA0 hval0 hsz0 hsz
  obtain ⟨k, hk⟩ := Pure.FnExactRulesLess b0 k_b0.2.1 g_b0
  refine (PFnExactRulesLess.laws_FnExactRulesLess.calls k _ _ b0 true W k_b0 l_b0 rfl hk).mono fun e W' ⟨he, hd⟩ => ?_
  have bel : Below W.heap.size W W' := by first | exact hd | exact hd.below
  subst he
  exact ⟨_, rfl, _, _, _, [], _, [], hW', trodAll_mk1 (shut_bool Try.underlying4 _), (trodAll_cons_mk (Below.trod laidOut (by kernel_rfl) (of_decide_eq_true (by kernel_rfl)) z0 bel hlt0) trodAll_mk0), rfl, bel.frame _, fun h => by cases h⟩
theorem over : Rows.fnExactRulesLessRow.holds Try.pinned (OpenSpec.ofChange Rows.fnExactRulesLessSpec) :=
  OpenClaim.holds_of_wide 6 Try.f6 rfl rfl rfl rfl rfl rfl rfl ⟨rfl, rfl, rfl, rfl, rfl⟩ rfl rfl rfl rfl rfl (by kernel_rfl) Try.func6 (by kernel_rfl)
    (of_decide_eq_true (by kernel_rfl)) (by unfold Func.isWrapper; first | (rw [if_pos (by decide +kernel)]; kernel_rfl) | (rw [if_neg (by decide +kernel)]; exact ⟨rfl, rfl⟩))
    (fun os started H enc _ => lifted os started H enc)
theorem proved : Rows.FnExactRulesLessSaid := over
#print axioms proved
end Go.Proofs.Ytnadkhgdeofheaa.fnExactRulesLess
namespace Go.Proofs.Ytnadkhgdeofheaa
/-- The row, under a short name, for the claim. -/
theorem fnExactRulesLess_holds : Rows.FnExactRulesLessSaid := fnExactRulesLess.proved
end Go.Proofs.Ytnadkhgdeofheaa
