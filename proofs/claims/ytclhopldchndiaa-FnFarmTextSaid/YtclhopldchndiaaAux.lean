/- Plain arithmetic for the pure statements: wraps that do nothing, bit operations on small numbers, numbers in bytes. No program. -/
import Derived.Laws.BitsLemmas
import Derived.Test.YtclhopldchndiaaWWords
import Derived.Test.YtclhopldchndiaaWMore
namespace Go.Proofs.Ytclhopldchndiaa.Aux
open Go Go.RowKit Go.Proofs.YtclhopldchndiaaW.PrintWords Go.Proofs.YtclhopldchndiaaW.PrintMore

theorem w64 {x : Int} (h0 : -9223372036854775808 ≤ x) (h1 : x ≤ 9223372036854775807) : wrap64 x = x := by
  unfold wrap64
  omega
theorem tmodp {a b : Int} (h : 0 ≤ a) : Int.tmod a b = a % b := Int.tmod_eq_emod_of_nonneg h
theorem tdivp {a b : Int} (h : 0 ≤ a) : Int.tdiv a b = a / b := Int.tdiv_eq_ediv_of_nonneg h
theorem wraps_i64 (n : Int) (h0 : 0 ≤ n) (h1 : n < 2 ^ 63) : IntKind.i64.wrap n = n := by
  rw [IntKind.wrap_i64]
  omega

/-- A byte put behind a number. -/
theorem or_byte {x b : Int} (h0 : 0 ≤ x) (h1 : x < 36028797018963968) (hb : 0 ≤ b) (hb1 : b < 256) : bits .or .i64 (x * 256) b = x * 256 + b := by
  refine bits_join .i64 63 (by decide) wraps_i64 8 (x * 256) b (by omega) ?_ ?_ hb ?_ ?_
  · show x * 256 % 256 = 0
    omega
  · show x * 256 < 9223372036854775808
    omega
  · show b < 256
    omega
  · show b < 9223372036854775808
    omega
theorem and_low (i : Nat) (hi : i ≤ 63) {x : Int} (h0 : 0 ≤ x) (h1 : x < 9223372036854775808) : bits .and .i64 x (2 ^ i - 1) = x % 2 ^ i :=
  bits_mask .i64 63 (by decide) wraps_i64 i hi x h0 h1
theorem and255 {x : Int} (h0 : 0 ≤ x) (h1 : x < 9223372036854775808) : bits .and .i64 x 255 = x % 256 := and_low 8 (by decide) h0 h1

/-- A number's bytes, the highest first. -/
def be : Nat → Int → List Int
  | 0, _ => []
  | d + 1, n => be d (n / 256) ++ [n % 256]
theorem be_length (d : Nat) (n : Int) : (be d n).length = d := by
  induction d generalizing n with
  | zero => rfl
  | succ d ih => simp [be, ih]
theorem strOfNums_append (xs ys : List Int) : strOfNums (xs ++ ys) = strOfNums xs ++ strOfNums ys := by
  apply ByteArray.ext
  simp [strOfNums]
theorem strOfNums_size (xs : List Int) : (strOfNums xs).size = xs.length := by
  simp [strOfNums, ByteArray.size]
theorem str_nil_append (s : ByteArray) : (⟨#[]⟩ : ByteArray) ++ s = s := by
  apply ByteArray.ext
  simp
theorem str_append_nil (s : ByteArray) : s ++ (⟨#[]⟩ : ByteArray) = s := by
  apply ByteArray.ext
  simp

/-- NumPut's answer. -/
def numPut (n size : Int) : ByteArray := if 1 ≤ size ∧ size ≤ 4 ∧ 0 ≤ n ∧ n < 256 ^ size.toNat then strOfNums (be size.toNat n) else ⟨#[]⟩

/-- The number in d bytes of a text from place p on, behind what is read already. -/
def gets (s : ByteArray) : Nat → Int → Int → Int
  | 0, _, acc => acc
  | d + 1, p, acc => gets s d (p + 1) (acc * 256 + bt s p)
/-- NumGet's answer. -/
def numGet (s : ByteArray) (p size : Int) : Int × Bool := if 1 ≤ size ∧ size ≤ 4 ∧ 0 ≤ p ∧ p ≤ (s.size : Int) - size then (gets s size.toNat p 0, true) else (0, false)
theorem gets_room {d : Nat} {n b : Int} (h0 : 0 ≤ n) (h : (n + 1) * 256 ^ (d + 1) ≤ 4294967296) (hb1 : b ≤ 255) :
    (n * 256 + b + 1) * 256 ^ d ≤ 4294967296 ∧ n < 16777216 := by
  have hp : (0 : Int) < 256 ^ d := Int.pow_pos (by decide)
  rw [Int.pow_succ] at h
  constructor
  · have h1 : (n * 256 + b + 1) * 256 ^ d ≤ ((n + 1) * 256) * 256 ^ d := Int.mul_le_mul_of_nonneg_right (by omega) (by omega)
    have h2 : ((n + 1) * 256) * 256 ^ d = (n + 1) * (256 ^ d * 256) := by rw [Int.mul_assoc, Int.mul_comm 256]
    omega
  · have h3 : (n + 1) * 256 ≤ (n + 1) * (256 ^ d * 256) := Int.mul_le_mul_of_nonneg_left (by omega) (by omega)
    omega

end Go.Proofs.Ytclhopldchndiaa.Aux
