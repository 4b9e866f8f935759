/- Bytes of texts that are put together. No program. -/
import Derived.Test.YtclhopldchndiaaAux
namespace Go.Proofs.Ytclhopldchndiaa.Bt
open Go Go.RowKit Go.Proofs.YtclhopldchndiaaW.PrintWords Go.Proofs.Ytclhopldchndiaa.Aux

theorem bytesOf_append (s u : ByteArray) : bytesOf (s ++ u) = bytesOf s ++ bytesOf u := by
  simp [bytesOf]
theorem bt_eq (s : ByteArray) (i : Nat) : bt s (i : Int) = (bytesOf s)[i]?.getD 0 := by
  rw [← rd_bytesOf, rd, Int.toNat_natCast, List.getD_eq_getElem?_getD]
theorem bt_left (s u : ByteArray) (i : Nat) (h : i < s.size) : bt (s ++ u) (i : Int) = bt s (i : Int) := by
  rw [bt_eq, bt_eq, bytesOf_append, List.getElem?_append_left (by rw [bytesOf_length]; exact h)]
theorem bt_right (s u : ByteArray) (j : Nat) : bt (s ++ u) ((s.size + j : Nat) : Int) = bt u (j : Int) := by
  rw [bt_eq, bt_eq, bytesOf_append, List.getElem?_append_right (by rw [bytesOf_length]; omega), bytesOf_length]
  congr 2
  omega
/-- Are these numbers bytes? -/
def AllBytes (xs : List Int) : Prop := ∀ x ∈ xs, 0 ≤ x ∧ x ≤ 255
theorem bytesOf_str {xs : List Int} (h : AllBytes xs) : bytesOf (strOfNums xs) = xs := by
  unfold bytesOf strOfNums
  simp only [List.map_map]
  conv => rhs; rw [← List.map_id xs]
  refine List.map_congr_left fun x hx => ?_
  obtain ⟨h0, h1⟩ := h x hx
  simp only [Function.comp, id]
  rw [UInt8.toNat_ofNat']
  omega
theorem bt_str {xs : List Int} (h : AllBytes xs) (i : Nat) : bt (strOfNums xs) (i : Int) = xs[i]?.getD 0 := by
  rw [bt_eq, bytesOf_str h]
theorem str_bytesOf (s : ByteArray) : strOfNums (bytesOf s) = s := by
  apply ByteArray.ext
  apply Array.ext'
  simp only [strOfNums, bytesOf, List.map_map]
  conv => rhs; rw [← List.map_id s.data.toList]
  refine List.map_congr_left fun x _ => ?_
  simp [Function.comp]
theorem allBytes_of (s : ByteArray) : AllBytes (bytesOf s) := by
  intro x hx
  obtain ⟨b, _, rfl⟩ := List.mem_map.1 hx
  have := b.toNat_lt
  omega
theorem be_bytes (d : Nat) : ∀ n : Int, AllBytes (be d n) := by
  induction d with
  | zero => intro n x hx; exact absurd hx (by simp [be])
  | succ d ih =>
    intro n x hx
    rcases List.mem_append.1 hx with hx | hx
    · exact ih _ x hx
    · obtain rfl : x = n % 256 := by simpa using hx
      omega
theorem bt_of_le (s : ByteArray) (i : Nat) (h : s.size ≤ i) : bt s (i : Int) = 0 := by
  rw [bt_eq, List.getElem?_eq_none (by rw [bytesOf_length]; exact h)]
  rfl
theorem str_ext {s u : ByteArray} (hl : s.size = u.size) (h : ∀ i, i < s.size → bt s (i : Int) = bt u (i : Int)) : s = u := by
  rw [← str_bytesOf s, ← str_bytesOf u]
  congr 1
  refine List.ext_getElem? fun i => ?_
  by_cases hi : i < s.size
  · have h1 := h i hi
    rw [bt_eq, bt_eq] at h1
    rw [List.getElem?_eq_getElem (by rw [bytesOf_length]; exact hi), List.getElem?_eq_getElem (by rw [bytesOf_length]; omega)] at h1 ⊢
    simpa using h1
  · rw [List.getElem?_eq_none (by rw [bytesOf_length]; omega), List.getElem?_eq_none (by rw [bytesOf_length]; omega)]
end Go.Proofs.Ytclhopldchndiaa.Bt
