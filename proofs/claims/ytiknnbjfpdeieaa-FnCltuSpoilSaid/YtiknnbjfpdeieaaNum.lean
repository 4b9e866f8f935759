/- Numbers in bytes are read back, and put again are those bytes. No program. -/
import Derived.Test.YtiknnbjfpdeieaaBt
namespace Go.Proofs.Ytiknnbjfpdeieaa.Num
open Go Go.RowKit Go.Proofs.YtiknnbjfpdeieaaW.PrintWords Go.Proofs.Ytiknnbjfpdeieaa.Aux Go.Proofs.Ytiknnbjfpdeieaa.Bt

theorem bt_rng (s : ByteArray) (i : Nat) : 0 ≤ bt s (i : Int) ∧ bt s (i : Int) ≤ 255 := by
  rw [bt_eq]
  cases h : (bytesOf s)[i]? with
  | none => exact ⟨Int.le_refl _, by decide⟩
  | some x => exact allBytes_of s x (List.mem_of_getElem? h)
theorem gets_snoc (s : ByteArray) (d : Nat) : ∀ (p acc : Int), gets s (d + 1) p acc = gets s d p acc * 256 + bt s (p + (d : Int)) := by
  induction d with
  | zero =>
    intro p acc
    have e : p + ((0 : Nat) : Int) = p := Int.add_zero p
    rw [e]
    rfl
  | succ d ih =>
    intro p acc
    have e : p + 1 + (d : Int) = p + ((d + 1 : Nat) : Int) := by omega
    rw [gets, ih, gets, e]
theorem gets_be (s : ByteArray) (d : Nat) : ∀ (p : Nat) (n : Int), 0 ≤ n → n < 256 ^ d → (∀ i, i < d → bt s ((p + i : Nat) : Int) = (be d n)[i]?.getD 0) → gets s d (p : Int) 0 = n := by
  induction d with
  | zero =>
    intro p n h0 h1 _
    rw [Int.pow_zero] at h1
    show (0 : Int) = n
    omega
  | succ d ih =>
    intro p n h0 h1 hb
    have hp : (256 : Int) ^ (d + 1) = 256 ^ d * 256 := Int.pow_succ _ _
    have hd : n / 256 < 256 ^ d := by omega
    have hlast := hb d (by omega)
    have hlen := be_length d (n / 256)
    rw [be, List.getElem?_append_right (by omega), hlen, Nat.sub_self] at hlast
    have e : (p : Int) + (d : Int) = ((p + d : Nat) : Int) := by omega
    rw [gets_snoc, e, hlast, ih p (n / 256) (by omega) hd (fun i hi => by
      have h2 := hb i (by omega)
      rw [be, List.getElem?_append_left (by omega)] at h2
      exact h2)]
    simp only [List.getElem?_cons_zero, Option.getD_some]
    omega
theorem gets_rng (s : ByteArray) (d : Nat) (p : Nat) : 0 ≤ gets s d (p : Int) 0 ∧ gets s d (p : Int) 0 < 256 ^ d := by
  induction d with
  | zero => exact ⟨Int.le_refl _, by show (0 : Int) < 256 ^ 0; decide⟩
  | succ d ih =>
    have hp : (256 : Int) ^ (d + 1) = 256 ^ d * 256 := Int.pow_succ _ _
    have e : (p : Int) + (d : Int) = ((p + d : Nat) : Int) := by omega
    have hb := bt_rng s (p + d)
    rw [gets_snoc, e]
    omega
theorem be_gets (s : ByteArray) (d p : Nat) : be d (gets s d (p : Int) 0) = (List.range d).map fun i => bt s ((p + i : Nat) : Int) := by
  induction d with
  | zero => rfl
  | succ d ih =>
    have e : (p : Int) + (d : Int) = ((p + d : Nat) : Int) := by omega
    have hb := bt_rng s (p + d)
    have e1 : (gets s d (p : Int) 0 * 256 + bt s ((p + d : Nat) : Int)) / 256 = gets s d (p : Int) 0 := by omega
    have e2 : (gets s d (p : Int) 0 * 256 + bt s ((p + d : Nat) : Int)) % 256 = bt s ((p + d : Nat) : Int) := by omega
    rw [gets_snoc, e, be, e1, e2, ih, List.range_succ, List.map_append]
    rfl
theorem bt_extract (s : ByteArray) (a b i : Nat) (hi : i < b - a) (hb : b ≤ s.size) : bt (s.extract a b) (i : Int) = bt s ((a + i : Nat) : Int) := by
  have e : ∀ (u : ByteArray) (j : Nat), (bytesOf u)[j]? = u.data[j]?.map fun b => (b.toNat : Int) := by
    intro u j
    simp [bytesOf]
  rw [bt_eq, bt_eq, e, e, ByteArray.data_extract, Array.getElem?_extract_of_lt (by simp only [ByteArray.size] at hb; omega), ← Array.getElem?_eq_getElem]
/-- Put again it is those bytes. -/
theorem put_gets (s : ByteArray) (d p : Nat) (h1 : 1 ≤ d) (h4 : d ≤ 4) (hs : p + d ≤ s.size) : numPut (gets s d (p : Int) 0) (d : Int) = s.extract p (p + d) := by
  have hr := gets_rng s d p
  unfold numPut
  rw [Int.toNat_natCast, if_pos ⟨by omega, by omega, hr.1, hr.2⟩]
  have hz : (s.extract p (p + d)).size = d := by rw [ByteArray.size_extract]; omega
  refine str_ext (by rw [strOfNums_size, be_length, hz]) fun i hi => ?_
  rw [strOfNums_size, be_length] at hi
  rw [bt_str (be_bytes d _), be_gets, bt_extract s p (p + d) i (by omega) hs, List.getElem?_map, List.getElem?_range hi]
  rfl
/-- Read again it is that number. -/
theorem gets_put (u : ByteArray) (d : Nat) (n : Int) (h0 : 0 ≤ n) (h1 : n < 256 ^ d) : gets (u ++ strOfNums (be d n)) d (u.size : Int) 0 = n :=
  gets_be _ d u.size n h0 h1 fun i _ => by rw [bt_right, bt_str (be_bytes d n)]

end Go.Proofs.Ytiknnbjfpdeieaa.Num
