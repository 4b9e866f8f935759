/- Rules' keys in a map: what stands where. No walk. -/
import Derived.Test.YtnadkhgdeofheaaProg
import Derived.Maps.Own
import Derived.Maps.Views
import Derived.DeepKeys4
import Derived.KernelRfl
import Derived.RowKit
namespace Go.Proofs.Ytnadkhgdeofheaa.HMap
open Go Go.Maps Go.RowKit
set_option linter.unusedVariables false
set_option linter.unusedSimpArgs false
abbrev K4 := Int × Int × Int × Int
def keyV (k : K4) : Value := .agg #[.int .i64 k.1, .int .i64 k.2.1, .int .i64 k.2.2.1, .int .i64 k.2.2.2]
def KeyWf (k : K4) : Prop := (Lit.int .i64 k.1).wf = true ∧ (Lit.int .i64 k.2.1).wf = true ∧ (Lit.int .i64 k.2.2.1).wf = true ∧ (Lit.int .i64 k.2.2.2).wf = true
theorem laidOut : laidOutB Try.prog = true := by kernel_rfl
theorem rowK : (58 : TypeId) < Try.prog.types.size := of_decide_eq_true (by kernel_rfl)
theorem wideK : (match Try.prog.underlying 58 with | some (.array _ _) | some (.struct _) => true | _ => false) = true := by rw [Try.underlying58]
theorem law : Keyed Try.prog 58 := Keyed.of_law (deep_law_laid laidOut (m := 2) (by omega) rowK (by kernel_rfl) wideK)
theorem keyTypeK : Try.prog.keyType 58 = true := by kernel_rfl
theorem cells4 : Try.prog.cellsOf 58 = 4 := by kernel_rfl
theorem cells1 : Try.prog.cellsOf 3 = 1 := by kernel_rfl
theorem lits1 (d : Nat) (n : Int) (h : (Lit.int .i64 n).wf = true) : Try.prog.keyLits (d + 1) 3 [.int .i64 n] = some [.int .i64 n] := by
  unfold Program.keyLits
  rw [Try.underlying3]
  simp [h]
theorem key_some (k : K4) (h : KeyWf k) : ∃ l, keyOf Try.prog 58 (keyV k) = some l := by
  obtain ⟨h0, h1, h2, h3⟩ := h
  obtain ⟨d0, hd0⟩ := Nat.exists_eq_add_of_lt rowK
  obtain ⟨d, hd⟩ : ∃ d, Try.prog.types.size = d + 1 := ⟨_, hd0⟩
  clear hd0
  have hf : (keyV k).formed Try.prog 58 = true := by
    unfold keyV Value.formed
    rw [Try.underlying58, cells4]
    rfl
  unfold keyOf
  rw [Try.underlying58, keyTypeK, hf, hd]
  unfold Program.keyLits
  rw [Try.underlying58, cells4]
  simp [keyV, Value.cells, cells1, lits1, h0, h1, h2, h3]
noncomputable def litK (k : K4) : Lit := (keyOf Try.prog 58 (keyV k)).getD (.bool false)
theorem key_lit {k : K4} (h : KeyWf k) : keyOf Try.prog 58 (keyV k) = some (litK k) := by
  obtain ⟨l, hl⟩ := key_some k h
  unfold litK
  rw [hl]
  rfl
theorem keyV_inj {a b : K4} (h : keyV a = keyV b) : a = b := by
  obtain ⟨a0, a1, a2, a3⟩ := a
  obtain ⟨b0, b1, b2, b3⟩ := b
  simp only [keyV, Value.agg.injEq] at h
  have h' := congrArg Array.toList h
  simp at h'
  obtain ⟨rfl, rfl, rfl, rfl⟩ := h'
  rfl
theorem lit_inj {a b : K4} (ha : KeyWf a) (hb : KeyWf b) (e : litK a = litK b) : a = b := keyV_inj (law.inj (key_lit ha) ((key_lit hb).trans (congrArg some e.symm)))
noncomputable def put1 (p : DataW Unit × Nat) (k : K4) : DataW Unit × Nat := (p.1.put (litK k) (.lit (.int .i64 p.2)), p.2 + 1)
/-- Each key at its place. -/
noncomputable def datum (ks : List K4) : DataW Unit := (ks.foldl put1 (.map [], 0)).1
theorem fold_len (ks : List K4) : ∀ p, (ks.foldl put1 p).2 = p.2 + ks.length := by
  induction ks with
  | nil => intro p; rfl
  | cons k ks ih =>
    intro p
    rw [List.foldl_cons, ih, List.length_cons]
    show p.2 + 1 + ks.length = _
    omega
theorem datum_snoc (ks : List K4) (k : K4) : datum (ks ++ [k]) = (datum ks).put (litK k) (.lit (.int .i64 ks.length)) := by
  unfold datum
  rw [List.foldl_append, List.foldl_cons, List.foldl_nil]
  have h := fold_len ks (.map [], 0)
  unfold put1 at h ⊢
  dsimp only
  rw [h]
  simp
theorem datum_map (ks : List K4) : IsMap (datum ks) := by
  induction h : ks.length generalizing ks with
  | zero =>
    rw [List.length_eq_zero_iff.1 h]
    exact isMap_empty
  | succ n ih =>
    have hne : ks ≠ [] := by
      rintro rfl
      simp at h
    rw [← List.dropLast_concat_getLast hne, datum_snoc]
    exact (ih _ (by rw [List.length_dropLast]; omega)).put _ _
theorem at_some (n : Nat) : ∀ (ks : List K4) (i : Nat) (k : K4) (zd : DataW Unit), ks.length = n → (∀ k ∈ ks, KeyWf k) → ks.Nodup → ks[i]? = some k → (datum ks).atKey (litK k) zd = .lit (.int .i64 i) := by
  induction n with
  | zero =>
    intro ks i k zd h _ _ hi
    rw [List.length_eq_zero_iff.1 h] at hi
    simp at hi
  | succ n ih =>
    intro ks i k zd h hw hn hi
    have hne : ks ≠ [] := by
      rintro rfl
      simp at h
    obtain ⟨xs, x, rfl⟩ : ∃ xs x, ks = xs ++ [x] := ⟨_, _, (List.dropLast_concat_getLast hne).symm⟩
    rw [List.length_append, List.length_singleton] at h
    have hwk : KeyWf k := hw k (List.mem_of_getElem? hi)
    have hwx : KeyWf x := hw x (by simp)
    rw [datum_snoc]
    by_cases hlt : i < xs.length
    · rw [List.getElem?_append_left hlt] at hi
      have hkx : k ≠ x := by
        rintro rfl
        have := (List.nodup_append.1 hn).2.2 k (List.mem_of_getElem? hi) k (by simp)
        exact this rfl
      rw [atKey_put_other (fun e => hkx (lit_inj hwk hwx e))]
      exact ih xs i k zd (by omega) (fun k hk => hw k (by simp [hk])) (List.nodup_append.1 hn).1 hi
    · have hi2 : i = xs.length := by
        have := (List.getElem?_eq_some_iff.1 hi).1
        rw [List.length_append, List.length_singleton] at this
        omega
      subst hi2
      rw [List.getElem?_append_right (Nat.le_refl _), Nat.sub_self] at hi
      obtain rfl : x = k := by simpa using hi
      exact atKey_put_same (datum_map xs) (law.key (key_lit hwx)) _ _
theorem at_none (n : Nat) : ∀ (ks : List K4) (k : K4) (zd : DataW Unit), ks.length = n → (∀ k ∈ ks, KeyWf k) → KeyWf k → k ∉ ks → (datum ks).atKey (litK k) zd = zd := by
  induction n with
  | zero =>
    intro ks k zd h _ _ _
    rw [List.length_eq_zero_iff.1 h]
    rfl
  | succ n ih =>
    intro ks k zd h hw hk hno
    have hne : ks ≠ [] := by
      rintro rfl
      simp at h
    obtain ⟨xs, x, rfl⟩ : ∃ xs x, ks = xs ++ [x] := ⟨_, _, (List.dropLast_concat_getLast hne).symm⟩
    rw [List.length_append, List.length_singleton] at h
    rw [datum_snoc, atKey_put_other (fun e => hno (by rw [lit_inj hk (hw x (by simp)) e]; simp))]
    exact ih xs k zd (by omega) (fun k hk => hw k (by simp [hk])) hk (fun h => hno (by simp [h]))
/-- Block mb holds these keys, each at its place. -/
def MapOk (W : World) (mb : Nat) (ks : List K4) : Prop := W.ownsMap (H := Unit) Try.prog 58 (plainElem Try.prog 3) mb ks.length (datum ks)
theorem zeroE (W : World) : (zeroValue 3).run Try.prog W = .ok (.int .i64 0) W := by kernel_rfl
theorem look_yes {W : World} {mb : Nat} {ks : List K4} {i : Nat} {k : K4} (h : MapOk W mb ks) (hw : ∀ k ∈ ks, KeyWf k) (hn : ks.Nodup) (hi : ks[i]? = some k) :
    (Instr.lookup 52 (.map (some mb)) (keyV k) true).run Try.prog W = .ok (.tuple #[.int .i64 i, .bool true]) W := by
  obtain ⟨es, clock, hb, F, _, hD⟩ := h
  have hk := key_lit (hw k (List.mem_of_getElem? hi))
  have hat := fun zd => at_some ks.length ks i k zd rfl hw hn hi
  rcases Maps.fit_look true law Try.underlying52 (zeroE W) hb F hk with ⟨_, _, h2⟩ | ⟨e0, y, _, _, hrun, hR, h2, _⟩
  · have h3 := h2 (.lit (.bool true))
    rw [← hD, hat] at h3
    exact absurd h3 (by simp)
  · have h3 := h2 (.lit (.bool true))
    rw [← hD, hat] at h3
    obtain ⟨a, ha, hy, _⟩ := plainElem_int_inv Try.underlying3 hR
    rw [hy] at h3
    have h4 : a = (i : Int) := by simpa using h3.symm
    rw [hrun, ha, h4]
    rfl
theorem look_no {W : World} {mb : Nat} {ks : List K4} {k : K4} (h : MapOk W mb ks) (hw : ∀ k ∈ ks, KeyWf k) (hwk : KeyWf k) (hno : k ∉ ks) :
    (Instr.lookup 52 (.map (some mb)) (keyV k) true).run Try.prog W = .ok (.tuple #[.int .i64 0, .bool false]) W := by
  obtain ⟨es, clock, hb, F, _, hD⟩ := h
  have hk := key_lit hwk
  have hat := fun zd => at_none ks.length ks k zd rfl hw hwk hno
  rcases Maps.fit_look true law Try.underlying52 (zeroE W) hb F hk with ⟨hrun, _, _⟩ | ⟨e0, y, _, _, _, _, h2, _⟩
  · rw [hrun]
    rfl
  · have h3 := h2 (.lit (.bool true))
    have h4 := h2 (.lit (.bool false))
    rw [← hD, hat] at h3 h4
    rw [← h3] at h4
    exact absurd h4 (by simp)
theorem int_wf {n : Nat} (h : n ≤ 9223372036854775807) : (Lit.int .i64 (n : Int)).wf = true := by
  simp [Lit.wf, IntKind.min, IntKind.max, IntKind.bits, IntKind.signed]
  omega
theorem store_new {W : World} {mb : Nat} {ks : List K4} {k : K4} (h : MapOk W mb ks) (hlt : ks.length < 1000000) (hk : KeyWf k) :
    ∃ W', (Instr.mapUpdate 52 (.map (some mb)) (keyV k) (.int .i64 ks.length)).run Try.prog W = .ok () W' ∧ MapOk W' mb (ks ++ [k]) ∧ W.grownBy W' (some mb) := by
  obtain ⟨W', h1, h2, h3⟩ := World.ownsMap.update h law Try.underlying52 (by unfold maxLen; omega) (key_lit hk) (plainElem_int Try.underlying3 (int_wf (n := ks.length) (by omega)))
  refine ⟨W', h1, ?_, h3⟩
  unfold MapOk
  rw [datum_snoc, List.length_append, List.length_singleton]
  exact h2
theorem made (W : World) : MapOk (W.alloc (.map #[] 0)) W.heap.size [] := World.ownsMap_made W _ _ _
theorem same {W W' : World} {mb : Nat} {ks : List K4} (h : MapOk W mb ks) (he : W'.heap[mb]? = W.heap[mb]?) : MapOk W' mb ks := by
  obtain ⟨es, clock, hb, F, hs, hD⟩ := h
  exact ⟨es, clock, he.trans hb, F, hs, hD⟩
theorem is_map {W : World} {mb : Nat} {ks : List K4} (h : MapOk W mb ks) : ∃ es clock, W.heap[mb]? = some (.map es clock) := by
  obtain ⟨es, clock, hb, _⟩ := h
  exact ⟨es, clock, hb⟩
end Go.Proofs.Ytnadkhgdeofheaa.HMap
