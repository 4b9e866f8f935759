/- FnExactRulesLet: the row, for every input: the law answers true and its arguments read as they did. No conditions. -/
import Derived.Test.YtnadkhgdeofheaaRows
import Derived.Test.YtnadkhgdeofheaaOpen
import Derived.Test.YtnadkhgdeofheaaPFnExactRulesLetx4
import Derived.Test.YtnadkhgdeofheaaPureFnExactRulesLet
import Derived.WalkKit
import Derived.ProofKit
import Derived.OpenShut
import Derived.ShutString
import Derived.ChangeOld
import Derived.Below
import Derived.SizedLaws
import Derived.Carry
namespace Go.Proofs.Ytnadkhgdeofheaa.fnExactRulesLet
open Go.ChangeShapes Go.WideShapes Go.ChangeAt Go.RowKit Go.Proofs.Ytnadkhgdeofheaa.Open Go.Proofs.YtnadkhgdeofheaaW.PrintWords
open Go.ChangeMaps (open_string shut_string)
set_option linter.unusedVariables false
set_option linter.unusedSimpArgs false
theorem own : ownKnob Try.prog.godebug = none := by kernel_rfl
theorem laidOut : laidOutB Try.prog = true := by kernel_rfl
theorem el_Rule {H : Type} {enc : TypeId × Value → H} {w : World} {base : Nat} {spare : Nat → Bool} {held : Bool} (n : Nat) (cs' : List Value) (y : DataW H × List MemPlace) (h : DataW.trod enc Try.prog w base spare held n 62 cs' = some y) :
    ∃ a : PFnExactRulesLet.S62, PFnExactRulesLet.k62.K w a cs' ∧ True := by
  obtain ⟨hl, n1, hf⟩ := open_cells Try.underlying62 (by kernel_rfl) (by kernel_rfl) h
  obtain ⟨x0, x1, x2, x3, x4, x5, rfl⟩ := list6 hl
  obtain ⟨c, y, hc, ht⟩ := hf 0 _ rfl
  obtain rfl : x0 = c := at0 hc
  obtain ⟨b0, e, _, w_b0⟩ := DataW.trod_int Try.underlying3 ht
  obtain rfl : x0 = .int .i64 b0 := one e
  clear hc ht e
  obtain ⟨c, y, hc, ht⟩ := hf 1 _ rfl
  obtain rfl : x1 = c := at1 hc
  obtain ⟨b1, e, _, w_b1⟩ := DataW.trod_int Try.underlying3 ht
  obtain rfl : x1 = .int .i64 b1 := one e
  clear hc ht e
  obtain ⟨c, y, hc, ht⟩ := hf 2 _ rfl
  obtain rfl : x2 = c := at2 hc
  obtain ⟨b2, e, _, w_b2⟩ := DataW.trod_int Try.underlying3 ht
  obtain rfl : x2 = .int .i64 b2 := one e
  clear hc ht e
  obtain ⟨c, y, hc, ht⟩ := hf 3 _ rfl
  obtain rfl : x3 = c := at3 hc
  obtain ⟨b3, e, _, w_b3⟩ := DataW.trod_int Try.underlying3 ht
  obtain rfl : x3 = .int .i64 b3 := one e
  clear hc ht e
  obtain ⟨c, y, hc, ht⟩ := hf 4 _ rfl
  obtain rfl : x4 = c := at4 hc
  obtain ⟨b4, e, _⟩ := DataW.trod_bool Try.underlying4 ht
  obtain rfl : x4 = .bool b4 := one e
  clear hc ht e
  obtain ⟨c, y, hc, ht⟩ := hf 5 _ rfl
  obtain rfl : x5 = c := at5 hc
  obtain ⟨b5, e, _⟩ := DataW.trod_bool Try.underlying4 ht
  obtain rfl : x5 = .bool b5 := one e
  clear hc ht e
  exact ⟨⟨b0, b1, b2, b3, b4, b5⟩, PFnExactRulesLet.k62_mk w _, trivial⟩
set_option maxRecDepth 100000 in
theorem lifted (os : Os) (started : os.Started) (H : Type) (enc : TypeId × Value → H) :
    ReturnsInHanded {} Try.checked os 4 .any (Rows.fnExactRulesLetSpec.pre6 enc Try.prog Try.f4 Rows.fnExactRulesLetRow.domain false) (Rows.fnExactRulesLetSpec.post enc Try.prog Try.f4 false true false false) := by
  refine returnsInHanded_of_change_sized (C := Try.checked) own started (by kernel_rfl) Try.func4
    (ChangeSpec.witness6 (enc := enc) (C := Try.checked) false ⟨#[], #[.slice none 0 0, .int .i64 0, .agg #[.int .i64 0, .int .i64 0, .int .i64 0, .int .i64 0, .int .i64 0, .string ByteArray.empty]], []⟩ 8 (by kernel_rfl) (by kernel_rfl) (by kernel_rfl) (by kernel_rfl)) ?_
  intro W base args ds gs before hval0 hW hcnd hsz0 _
  have hsz : (DataW.weightsEach Try.prog (Try.f4.params.toList ++ Rows.fnExactRulesLetSpec.plain.varTypes Try.prog) (ds ++ gs)).all (· ≤ reachBytes) = true := hsz0
  have hval : ∀ (j : Nat) t v, Try.f4.params[j]? = some t → args[j]? = some v → Value.okWide Try.prog W .any base t v := hval0
  have hW' := hW
  obtain ⟨p, q, hA0, hV, rfl, hfz, hnd⟩ := hW
  have hA : DataW.TrodAll enc Try.prog W 0 (fun _ => true) true Try.f4.params.toList args.toList ds p := hA0
  rw [Try.params4] at hA hval hsz
  obtain ⟨v0, vs0, d0, ds0, p0, q0, hargs, rfl, rfl, h0, r0⟩ := trodAll_cons hA
  obtain ⟨v1, vs1, d1, ds1, p1, q1, rfl, rfl, rfl, h1, r1⟩ := trodAll_cons r0
  obtain ⟨v2, vs2, d2, ds2, p2, q2, rfl, rfl, rfl, h2, r2⟩ := trodAll_cons r1
  obtain ⟨rfl, rfl, rfl⟩ := trodAll_nil r2
  obtain rfl : args = #[v0, v1, v2] := by cases args; simp_all
  obtain ⟨rfl, rfl⟩ := trodVars_none hV
  have hlt0 : ∀ x ∈ p0, x.block < W.heap.size := fun x hx => by simpa using hW'.lt x (by simp [hx])
  have hlt1 : ∀ x ∈ p1, x.block < W.heap.size := fun x hx => by simpa using hW'.lt x (by simp [hx])
  have hlt2 : ∀ x ∈ p2, x.block < W.heap.size := fun x hx => by simpa using hW'.lt x (by simp [hx])
  have z0 := h0
  have z1 := h1
  have z2 := h2
  obtain ⟨A0v, lenv, capv, rfl⟩ := okWide_slice Try.underlying33 (hval 0 33 v0 rfl rfl)
  obtain ⟨fuel0, ht0⟩ := h0
  obtain ⟨A_b0, c_b0, b0, e_b0, l_b0, k_b0, g_b0⟩ := open_kind PFnExactRulesLet.k62 (fun a => True) Try.underlying33 (by kernel_rfl) el_Rule ht0
  simp only [Value.cells, List.cons.injEq, and_true] at e_b0
  obtain ⟨rfl, rfl, rfl⟩ : A0v = A_b0 ∧ lenv = b0.length ∧ capv = c_b0 := by simpa using e_b0
  obtain ⟨a1, rfl, rfl, rfl, w1⟩ := open_int Try.underlying3 (hval 1 3 v1 rfl rfl) h1
  obtain ⟨cs2, n2, rfl, hl2, hf2⟩ := open_agg Try.underlying34 (by kernel_rfl) (by kernel_rfl) (hval 2 34 v2 rfl rfl) h2
  obtain ⟨x2_0, x2_1, x2_2, x2_3, x2_4, x2_5, rfl⟩ := list6 hl2
  obtain ⟨c, y, hc, ht⟩ := hf2 0 _ rfl
  obtain rfl : x2_0 = c := at0 hc
  obtain ⟨b2_0, e, _, w_b2_0⟩ := DataW.trod_int Try.underlying3 ht
  obtain rfl : x2_0 = .int .i64 b2_0 := one e
  clear hc ht e
  obtain ⟨c, y, hc, ht⟩ := hf2 1 _ rfl
  obtain rfl : x2_1 = c := at1 hc
  obtain ⟨b2_1, e, _, w_b2_1⟩ := DataW.trod_int Try.underlying3 ht
  obtain rfl : x2_1 = .int .i64 b2_1 := one e
  clear hc ht e
  obtain ⟨c, y, hc, ht⟩ := hf2 2 _ rfl
  obtain rfl : x2_2 = c := at2 hc
  obtain ⟨b2_2, e, _, w_b2_2⟩ := DataW.trod_int Try.underlying3 ht
  obtain rfl : x2_2 = .int .i64 b2_2 := one e
  clear hc ht e
  obtain ⟨c, y, hc, ht⟩ := hf2 3 _ rfl
  obtain rfl : x2_3 = c := at3 hc
  obtain ⟨b2_3, e, _, w_b2_3⟩ := DataW.trod_int Try.underlying3 ht
  obtain rfl : x2_3 = .int .i64 b2_3 := one e
  clear hc ht e
  obtain ⟨c, y, hc, ht⟩ := hf2 4 _ rfl
  obtain rfl : x2_4 = c := at4 hc
  obtain ⟨b2_4, e, _, w_b2_4⟩ := DataW.trod_int Try.underlying3 ht
  obtain rfl : x2_4 = .int .i64 b2_4 := one e
  clear hc ht e
  obtain ⟨c, y, hc, ht⟩ := hf2 5 _ rfl
  obtain rfl : x2_5 = c := at5 hc
  obtain ⟨b2_5, e, _, s_b2_5⟩ := DataW.trod_string Try.underlying9 ht
  obtain rfl : x2_5 = .string b2_5 := one e
  clear hc ht e
  clear hA0 hval0 hsz0 hsz
  obtain ⟨k, hk⟩ := Pure.FnExactRulesLet b0 a1 b2_0 b2_1 b2_2 b2_3 b2_4 b2_5 k_b0.2.1 g_b0 w1 w_b2_0 w_b2_1 w_b2_2 w_b2_3 w_b2_4 s_b2_5
  refine (PFnExactRulesLet.laws_FnExactRulesLet.calls k _ _ b0 a1 b2_0 b2_1 b2_2 b2_3 b2_4 b2_5 true W k_b0 l_b0 rfl hk).mono fun e W' ⟨he, hd⟩ => ?_
  have bel : Below W.heap.size W W' := by first | exact hd | exact hd.below
  subst he
  exact ⟨_, rfl, _, _, _, [], _, [], hW', trodAll_mk1 (shut_bool Try.underlying4 _), (trodAll_cons_mk (Below.trod laidOut (by kernel_rfl) (of_decide_eq_true (by kernel_rfl)) z0 bel hlt0) (trodAll_cons_mk (shut_int Try.underlying3 w1) (trodAll_cons_mk (Below.trod laidOut (by kernel_rfl) (of_decide_eq_true (by kernel_rfl)) z2 bel hlt2) trodAll_mk0))), rfl, bel.frame _, fun h => by cases h⟩
theorem over : Rows.fnExactRulesLetRow.holds Try.pinned (OpenSpec.ofChange Rows.fnExactRulesLetSpec) :=
  OpenClaim.holds_of_wide 4 Try.f4 rfl rfl rfl rfl rfl rfl rfl ⟨rfl, rfl, rfl, rfl, rfl⟩ rfl rfl rfl rfl rfl (by kernel_rfl) Try.func4 (by kernel_rfl)
    (of_decide_eq_true (by kernel_rfl)) (by unfold Func.isWrapper; first | (rw [if_pos (by decide +kernel)]; kernel_rfl) | (rw [if_neg (by decide +kernel)]; exact ⟨rfl, rfl⟩))
    (fun os started H enc _ => lifted os started H enc)
theorem proved : Rows.FnExactRulesLetSaid := over
#print axioms proved
end Go.Proofs.Ytnadkhgdeofheaa.fnExactRulesLet
namespace Go.Proofs.Ytnadkhgdeofheaa
/-- The row, under a short name, for the claim. -/
theorem fnExactRulesLet_holds : Rows.FnExactRulesLetSaid := fnExactRulesLet.proved
end Go.Proofs.Ytnadkhgdeofheaa
