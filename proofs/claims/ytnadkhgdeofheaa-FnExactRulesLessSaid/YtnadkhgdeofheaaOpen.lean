/- Arguments by value opened into their cells: structs of one-cell fields, slices of any element that a kind reads. Conditions: the type's own rows (each by kernel_rfl where it is used). -/
import Derived.Deep.Slices
import Derived.Deep.Fields
import Derived.ChangeSame
import Derived.WideShapes
import Derived.ChangeMaps5
import Derived.Carry
import Derived.Test.YtnadkhgdeofheaaWWords
namespace Go.Proofs.Ytnadkhgdeofheaa.Open
open Go.ChangeShapes Go.WideShapes Go.Deep Go.RowKit Go.Proofs.YtnadkhgdeofheaaW.PrintWords

section
variable {H : Type} {enc : TypeId × Value → H} {P : Program} {w : World} {base : Nat} {spare : Nat → Bool} {held : Bool}

/-- The one cell of field j, and its own reading. -/
theorem field_at {fs : Array Field} (hone : oneCellFields P fs = true) {n : Nat} {cs : List Value} {ys : List (DataW H × List MemPlace)}
    (hf : ∀ (i : Nat) (f : Field), fs[i]? = some f → DataW.trod enc P w base spare held n f.type ((cs.drop f.offset).take (P.cellsOf f.type)) = ys[i]?)
    (hl : ys.length = fs.size) (hc : cs.length = fs.size) (j : Nat) (f : Field) (hj : fs[j]? = some f) :
    ∃ c y, cs[j]? = some c ∧ ys[j]? = some y ∧ DataW.trod enc P w base spare held n f.type [c] = some y := by
  obtain ⟨ho, hk⟩ := hone_of hone j f hj
  have hjl : j < fs.size := (Array.getElem?_eq_some_iff.1 hj).1
  have h1 := hf j f hj
  have hone' : (cs.drop f.offset).take (P.cellsOf f.type) = [cs[j]'(by omega)] := by
    rw [ho, hk, List.drop_eq_getElem_cons (by omega)]
    rfl
  rw [hone'] at h1
  have hys : ys[j]? = some (ys[j]'(by omega)) := List.getElem?_eq_getElem (by omega)
  exact ⟨_, _, List.getElem?_eq_getElem (by omega), hys, h1.trans hys⟩

/-- A struct of one-cell fields, by value. -/
theorem open_agg {fs : Array Field} {r : Reach} {b0 : Nat} {t : TypeId} {v : Value} {d : DataW H} {p : List MemPlace} (hs : P.underlying t = some (.struct fs)) (hone : oneCellFields P fs = true) (hC : P.cellsOf t = fs.size)
    (hv : Value.okWide P w r b0 t v) (h : DataW.Trod enc P w base spare held t v d p) :
    ∃ (cs : List Value) (n : Nat), v = .agg ⟨cs⟩ ∧ cs.length = fs.size ∧
      ∀ (j : Nat) (f : Field), fs[j]? = some f → ∃ c y, cs[j]? = some c ∧ DataW.trod enc P w base spare held n f.type [c] = some y := by
  obtain ⟨cs, rfl, hsz⟩ := okWide_struct hs hv
  obtain ⟨l⟩ := cs
  obtain ⟨fuel, hf⟩ := h
  obtain ⟨xs, n, _, hx, hcl, hlen, hg⟩ := DataW.trod_struct hs hf
  have hcl' : l.length = fs.size := hsz.trans hC
  have hg' : ∀ (i : Nat) (f : Field), fs[i]? = some f → DataW.trod enc P w base spare held n f.type ((l.drop f.offset).take (P.cellsOf f.type)) = xs[i]? := fun i f hi => by
    simpa [Value.cells] using hg i f hi
  refine ⟨l, n, rfl, hcl', fun j f hj => ?_⟩
  obtain ⟨c, y, h1, _, h3⟩ := field_at hone hg' hlen hcl' j f hj
  exact ⟨c, y, h1, h3⟩

/-- The same of a run of cells in memory (an element of a slice of structs). -/
theorem open_cells {fs : Array Field} {t : TypeId} {fuel : Nat} {cs : List Value} {x : DataW H × List MemPlace} (hs : P.underlying t = some (.struct fs)) (hone : oneCellFields P fs = true) (hC : P.cellsOf t = fs.size)
    (h : DataW.trod enc P w base spare held fuel t cs = some x) :
    cs.length = fs.size ∧ ∃ n, ∀ (j : Nat) (f : Field), fs[j]? = some f → ∃ c y, cs[j]? = some c ∧ DataW.trod enc P w base spare held n f.type [c] = some y := by
  obtain ⟨xs, n, _, hx, hcl, hlen, hg⟩ := DataW.trod_struct hs h
  have hcl' : cs.length = fs.size := hcl.trans hC
  refine ⟨hcl', n, fun j f hj => ?_⟩
  obtain ⟨c, y, h1, _, h3⟩ := field_at hone hg hlen hcl' j f hj
  exact ⟨c, y, h1, h3⟩

/-- A slice, read by a kind: 'hel': an element's cells are what the kind says of some x that is Good. -/
theorem open_kind {α : Type} (k : Kd α) (Good : α → Prop) {t e : TypeId} {fuel : Nat} {cs : List Value} {x : DataW H × List MemPlace} (ht : P.underlying t = some (.slice e)) (hsz : P.cellsOf e = k.sz)
    (hel : ∀ n cs' y, DataW.trod enc P w base spare held n e cs' = some y → ∃ a, k.K w a cs' ∧ Good a)
    (h : DataW.trod enc P w base spare held fuel t cs = some x) :
    ∃ (A : Option Addr) (c : Nat) (l : List α), cs = [.slice A l.length c] ∧ l.length ≤ c ∧ Kd.C k w A l.length l ∧ ∀ a ∈ l, Good a := by
  rcases open_slice ht h with ⟨h0, _⟩ | ⟨a, len, cap, m, n, D, Pl, hcs, hb, hl, hm, hmm, hx, hi⟩
  · exact ⟨none, 0, [], h0, Nat.le_refl _, ⟨rfl, by simp, fun h => absurd h (by simp)⟩, by simp⟩
  · have hle : len ≤ m := by rw [hmm]; split <;> omega
    have hex : ∀ i, i < len → ∃ (z : α) (cs' : List Value), k.K w z cs' ∧ Good z ∧ w.cells? base (a.add (i * k.sz)) k.sz = some cs' := by
      intro i him
      obtain ⟨cs', hc, ht'⟩ := hi i (by omega)
      obtain ⟨z, hz', hg⟩ := hel n cs' _ ht'
      rw [hsz] at hc
      exact ⟨z, cs', hz', hg, hc⟩
    have hall : ∀ q, q ≤ len → ∃ l : List α, l.length = q ∧ (∀ z ∈ l, Good z) ∧ ∀ j z, l[j]? = some z → ∃ cs', k.K w z cs' ∧ w.cells? base (a.add (j * k.sz)) k.sz = some cs' := by
      intro q
      induction q with
      | zero => exact fun _ => ⟨[], rfl, by simp, by simp⟩
      | succ q ih =>
        intro hq
        obtain ⟨l, hll, hgl, hlj⟩ := ih (by omega)
        obtain ⟨z, cs', hk, hg, hc⟩ := hex q (by omega)
        refine ⟨l ++ [z], by simp [hll], ?_, ?_⟩
        · intro y hy
          rcases List.mem_append.1 hy with hy | hy
          · exact hgl y hy
          · obtain rfl : y = z := by simpa using hy
            exact hg
        · intro j y hy
          by_cases hj : j < l.length
          · rw [List.getElem?_append_left hj] at hy
            exact hlj j y hy
          · have hjl : j = l.length := by
              have := (List.getElem?_eq_some_iff.1 hy).1
              rw [List.length_append, List.length_singleton] at this
              omega
            subst hjl
            obtain rfl : z = y := by simpa using hy
            exact ⟨cs', hk, by rw [hll]; exact hc⟩
    obtain ⟨l, hll, hgl, hlj⟩ := hall len (Nat.le_refl _)
    subst hll
    refine ⟨some a, cap, l, hcs, hl, ⟨rfl, ?_, fun _ => ⟨a, rfl, fun j p hj => ?_⟩⟩, hgl⟩
    · have : cap ≤ 9223372036854775807 := hm
      omega
    · obtain ⟨cs', hk, hc⟩ := hlj j p hj
      obtain ⟨_, hcl, hat⟩ := World.cells?_some hc
      refine ⟨cs', hcl, hk, fun i u hu => ?_⟩
      have hi' : i < k.sz := by
        have := (List.getElem?_eq_some_iff.1 hu).1
        omega
      rw [← Go.Deep.add_add, hat i hi', hu]

/-- A string in one cell. -/
theorem string_kind {t : TypeId} (ht : P.underlying t = some .string) (n : Nat) (cs' : List Value) (y : DataW H × List MemPlace) (h : DataW.trod enc P w base spare held n t cs' = some y) :
    ∃ a : ByteArray, Kd.string.K w a cs' ∧ a.size ≤ 9223372036854775807 := by
  obtain ⟨s, rfl, _, hs⟩ := DataW.trod_string ht h
  exact ⟨s, rfl, hs⟩
end


/-! Lists of a known length, written out (outside the rows' proofs: a match there runs away). -/
theorem list1 {l : List Value} (h : l.length = 1) : ∃ x0, l = [x0] := by
  match l, h with
  | [x0], _ => exact ⟨_, rfl⟩
theorem list2 {l : List Value} (h : l.length = 2) : ∃ x0 x1, l = [x0, x1] := by
  match l, h with
  | [x0, x1], _ => exact ⟨_, _, rfl⟩
theorem list3 {l : List Value} (h : l.length = 3) : ∃ x0 x1 x2, l = [x0, x1, x2] := by
  match l, h with
  | [x0, x1, x2], _ => exact ⟨_, _, _, rfl⟩
theorem list4 {l : List Value} (h : l.length = 4) : ∃ x0 x1 x2 x3, l = [x0, x1, x2, x3] := by
  match l, h with
  | [x0, x1, x2, x3], _ => exact ⟨_, _, _, _, rfl⟩
theorem list5 {l : List Value} (h : l.length = 5) : ∃ x0 x1 x2 x3 x4, l = [x0, x1, x2, x3, x4] := by
  match l, h with
  | [x0, x1, x2, x3, x4], _ => exact ⟨_, _, _, _, _, rfl⟩
theorem list6 {l : List Value} (h : l.length = 6) : ∃ x0 x1 x2 x3 x4 x5, l = [x0, x1, x2, x3, x4, x5] := by
  match l, h with
  | [x0, x1, x2, x3, x4, x5], _ => exact ⟨_, _, _, _, _, _, rfl⟩
theorem at0 {x0 c : Value} {l : List Value} (h : (x0 :: l)[0]? = some c) : x0 = c := by simpa using h
theorem at1 {x0 x1 c : Value} {l : List Value} (h : (x0 :: x1 :: l)[1]? = some c) : x1 = c := by simpa using h
theorem at2 {x0 x1 x2 c : Value} {l : List Value} (h : (x0 :: x1 :: x2 :: l)[2]? = some c) : x2 = c := by simpa using h
theorem at3 {x0 x1 x2 x3 c : Value} {l : List Value} (h : (x0 :: x1 :: x2 :: x3 :: l)[3]? = some c) : x3 = c := by simpa using h
theorem at4 {x0 x1 x2 x3 x4 c : Value} {l : List Value} (h : (x0 :: x1 :: x2 :: x3 :: x4 :: l)[4]? = some c) : x4 = c := by simpa using h
theorem at5 {x0 x1 x2 x3 x4 x5 c : Value} {l : List Value} (h : (x0 :: x1 :: x2 :: x3 :: x4 :: x5 :: l)[5]? = some c) : x5 = c := by simpa using h
theorem one {a b : Value} (h : [a] = [b]) : a = b := by simpa using h

end Go.Proofs.Ytnadkhgdeofheaa.Open
