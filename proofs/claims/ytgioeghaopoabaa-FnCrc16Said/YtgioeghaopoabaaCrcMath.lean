/- Sums of sixteen bits: the program's table gives what the reference reckons bit by bit; a text with its sum behind it has the sum 0; one byte turned turns the sum. No program. -/
import Derived.Test.YtgioeghaopoabaaHCrc
import Derived.Test.YtgioeghaopoabaaAux
namespace Go.Proofs.Ytgioeghaopoabaa.CrcMath
open Go Go.RowKit Go.Proofs.YtgioeghaopoabaaW.PrintWords Go.Proofs.Ytgioeghaopoabaa.HCrc Go.Proofs.Ytgioeghaopoabaa.Aux

/-- One bit more. -/
def st (x : BitVec 16) : BitVec 16 := (x <<< 1) ^^^ (if x.msb then 4129#16 else 0#16)
theorem st_xor (x y : BitVec 16) : st (x ^^^ y) = st x ^^^ st y := by
  unfold st
  rw [BitVec.shiftLeft_xor_distrib, BitVec.msb_xor]
  generalize x <<< 1 = a
  generalize y <<< 1 = b
  cases x.msb <;> cases y.msb <;> simp [BitVec.xor_assoc]
  · exact BitVec.xor_comm _ _
  · rw [BitVec.xor_comm b, ← BitVec.xor_assoc, BitVec.xor_self, BitVec.zero_xor]
/-- So many bits more. -/
def sts : Nat → BitVec 16 → BitVec 16
  | 0, x => x
  | k + 1, x => st (sts k x)
theorem sts_xor (k : Nat) (x y : BitVec 16) : sts k (x ^^^ y) = sts k x ^^^ sts k y := by
  induction k with
  | zero => rfl
  | succ k ih => rw [sts, ih, st_xor]; rfl
theorem sts_add (j k : Nat) (x : BitVec 16) : sts (j + k) x = sts j (sts k x) := by
  induction j with
  | zero => rw [Nat.zero_add]; rfl
  | succ j ih => rw [Nat.succ_add, sts, ih]; rfl

/-- A sum as a number. -/
def num (x : BitVec 16) : Int := (x.toNat : Int)
theorem num_rng (x : BitVec 16) : 0 ≤ num x ∧ num x < 65536 := by
  have := x.isLt
  unfold num
  omega
theorem ofInt_num (x : BitVec 16) : BitVec.ofInt 16 (num x) = x := by
  unfold num
  rw [BitVec.ofInt_natCast, BitVec.ofNat_toNat, BitVec.setWidth_eq]
theorem wrap_num (x : BitVec 16) : IntKind.u16.wrap (x.toNat : Int) = num x := by
  have h : IntKind.u16.wrap (x.toNat : Int) = (x.toNat : Int) % 65536 := by simp [IntKind.wrap, IntKind.bits, IntKind.signed]
  have := x.isLt
  unfold num
  omega
theorem xor_num (x y : BitVec 16) : bits .xor .u16 (num x) (num y) = num (x ^^^ y) := by
  show IntKind.u16.wrap ((BitVec.ofInt 16 (num x) ^^^ BitVec.ofInt 16 (num y)).toNat : Int) = _
  rw [ofInt_num, ofInt_num, wrap_num]
theorem shl_num (x : BitVec 16) (k : Nat) : IntKind.u16.wrap (num x * 2 ^ k) = num (x <<< k) := by
  have h : IntKind.u16.wrap (num x * 2 ^ k) = (num x * 2 ^ k) % 65536 := by simp [IntKind.wrap, IntKind.bits, IntKind.signed]
  rw [h]
  unfold num
  rw [BitVec.toNat_shiftLeft, Nat.shiftLeft_eq]
  simp only [Int.natCast_emod, Int.natCast_mul, Int.natCast_pow]
  rfl
theorem and_num (x : BitVec 16) : bits .and .u16 (num x) 32768 = num (x &&& 32768#16) := by
  show IntKind.u16.wrap ((BitVec.ofInt 16 (num x) &&& BitVec.ofInt 16 32768).toNat : Int) = _
  rw [ofInt_num, ← wrap_num]
  rfl
theorem top_bit (x : BitVec 16) : (bits .and .u16 (num x) 32768 = 0) ↔ x.msb = false := by
  rw [and_num, show (32768#16) = BitVec.twoPow 16 15 from rfl, BitVec.and_twoPow, BitVec.msb_eq_getLsbD_last]
  cases h : x.getLsbD 15 with
  | false => simp [num]
  | true => simp [num]
theorem sh_num (x : BitVec 16) : sh (num x) = num (st x) := by
  unfold sh st
  have e := shl_num x 1
  have e2 : num x * 2 ^ 1 = num x * 2 := rfl
  rw [e2] at e
  rw [e]
  cases h : x.msb with
  | false => rw [if_pos ((top_bit x).2 h)]; simp
  | true =>
    rw [if_neg (fun c => by rw [(top_bit x).1 c] at h; cases h)]
    simp only [if_true]
    rw [← xor_num]
    rfl
theorem shs_num (k : Nat) (x : BitVec 16) : shs k (num x) = num (sts k x) := by
  induction k with
  | zero => rfl
  | succ k ih => rw [shs, ih, sh_num]; rfl
/-- The reference's step. -/
theorem spec_num (x : BitVec 16) : (if num x * 2 ≥ 65536 then bits .xor .i64 (num x * 2 - 65536) 4129 else num x * 2) = num (st x) := by
  have hx := x.isLt
  have hs : (x <<< 1).toNat = x.toNat * 2 % 65536 := by rw [BitVec.toNat_shiftLeft, Nat.shiftLeft_eq]
  have hm : x.msb = decide (32768 ≤ x.toNat) := by rw [BitVec.msb_eq_decide]
  by_cases c : 32768 ≤ x.toNat
  · rw [if_pos (by unfold num; omega)]
    have h2 : st x = (x <<< 1) ^^^ 4129#16 := by
      unfold st
      rw [hm, decide_eq_true c]
      rfl
    rw [h2]
    have e : (num x * 2 - 65536 : Int) = ((x <<< 1).toNat : Int) := by unfold num; omega
    have hl : (x <<< 1).toNat < 65536 := (x <<< 1).isLt
    rw [e]
    show IntKind.i64.wrap ((BitVec.ofInt 64 (((x <<< 1).toNat : Nat) : Int) ^^^ BitVec.ofInt 64 4129).toNat : Int) = _
    have h3 : (BitVec.ofInt 64 (((x <<< 1).toNat : Nat) : Int) ^^^ BitVec.ofInt 64 4129).toNat = ((x <<< 1) ^^^ 4129#16).toNat := by
      rw [BitVec.toNat_xor, BitVec.toNat_xor, BitVec.ofInt_natCast, BitVec.toNat_ofNat, Nat.mod_eq_of_lt (by omega)]
      rfl
    rw [h3]
    have h4 := ((x <<< 1) ^^^ 4129#16).isLt
    exact wraps_i64 _ (by omega) (by omega)
  · rw [if_neg (by unfold num; omega)]
    have h2 : st x = (x <<< 1) := by
      unfold st
      rw [hm, decide_eq_false c]
      simp
    rw [h2]
    unfold num
    omega

theorem xor64 (x y : BitVec 16) : bits .xor .i64 (num x) (num y) = num (x ^^^ y) := by
  have hx := x.isLt
  have hy := y.isLt
  show IntKind.i64.wrap ((BitVec.ofInt 64 ((x.toNat : Nat) : Int) ^^^ BitVec.ofInt 64 ((y.toNat : Nat) : Int)).toNat : Int) = _
  have h3 : (BitVec.ofInt 64 ((x.toNat : Nat) : Int) ^^^ BitVec.ofInt 64 ((y.toNat : Nat) : Int)).toNat = (x ^^^ y).toNat := by
    rw [BitVec.toNat_xor, BitVec.toNat_xor, BitVec.ofInt_natCast, BitVec.ofInt_natCast, BitVec.toNat_ofNat, BitVec.toNat_ofNat, Nat.mod_eq_of_lt (by omega), Nat.mod_eq_of_lt (by omega)]
  rw [h3]
  have h4 := (x ^^^ y).isLt
  exact wraps_i64 _ (by omega) (by omega)
/-- Where nothing falls out a sum is shifted alone. -/
theorem sts_small (k : Nat) (x : BitVec 16) (h : x.toNat * 2 ^ k < 65536) : sts k x = x <<< k := by
  induction k with
  | zero => simp [sts]
  | succ k ih =>
    rw [Nat.pow_succ, ← Nat.mul_assoc] at h
    have h1 : x.toNat * 2 ^ k < 65536 := by omega
    rw [sts, ih h1, st]
    have hn : (x <<< k).toNat = x.toNat * 2 ^ k := by
      rw [BitVec.toNat_shiftLeft, Nat.shiftLeft_eq]
      exact Nat.mod_eq_of_lt h1
    have hm : (x <<< k).msb = false := by
      rw [BitVec.msb_eq_decide, hn]
      exact decide_eq_false (by show ¬ 32768 ≤ _; omega)
    rw [hm]
    simp [BitVec.shiftLeft_add]
theorem split12 (x : BitVec 16) : x = ((x >>> 12) <<< 12) ^^^ (x &&& 4095#16) := by
  apply BitVec.eq_of_getLsbD_eq
  intro i hi
  have h : i = 0 ∨ i = 1 ∨ i = 2 ∨ i = 3 ∨ i = 4 ∨ i = 5 ∨ i = 6 ∨ i = 7 ∨ i = 8 ∨ i = 9 ∨ i = 10 ∨ i = 11 ∨ i = 12 ∨ i = 13 ∨ i = 14 ∨ i = 15 := by omega
  rcases h with rfl | rfl | rfl | rfl | rfl | rfl | rfl | rfl | rfl | rfl | rfl | rfl | rfl | rfl | rfl | rfl <;> simp
theorem xor_fin : ∀ (a b : Fin 16), (bits .xor .u8 (a.1 : Int) (b.1 : Int)).toNat = a.1 ^^^ b.1 := by decide +kernel
theorem tab_num (i : BitVec 16) (h : i.toNat < 16) : tabE i.toNat = num (sts 4 (i <<< 12)) := by
  have e : ((i.toNat : Int) * 4096 : Int) = num (i <<< 12) := by
    unfold num
    rw [BitVec.toNat_shiftLeft, Nat.shiftLeft_eq]
    omega
  rw [tabE, e, shs_num]
theorem half_num (x : BitVec 16) (b : Nat) (hb : b < 16) : halfI (num x) (b : Int) = num (sts 4 (x ^^^ (BitVec.ofNat 16 b <<< 12))) := by
  have hx := x.isLt
  have hs : (x >>> 12).toNat = x.toNat / 4096 := by rw [BitVec.toNat_ushiftRight, Nat.shiftRight_eq_div_pow]
  have hbn : (BitVec.ofNat 16 b).toNat = b := by rw [BitVec.toNat_ofNat]; exact Nat.mod_eq_of_lt (by omega)
  have hi : (bits .xor .u8 (num x / 4096) (b : Int)).toNat = ((x >>> 12) ^^^ BitVec.ofNat 16 b).toNat := by
    rw [BitVec.toNat_xor, hs, hbn]
    have h := xor_fin ⟨x.toNat / 4096, by omega⟩ ⟨b, hb⟩
    have e : num x / 4096 = ((x.toNat / 4096 : Nat) : Int) := by unfold num; omega
    rw [e]
    exact h
  have hlt : ((x >>> 12) ^^^ BitVec.ofNat 16 b).toNat < 16 := by
    rw [BitVec.toNat_xor, hs, hbn]
    exact Nat.xor_lt_two_pow (n := 4) (by omega) hb
  have e4 : IntKind.u16.wrap (num x * 16) = num (x <<< 4) := shl_num x 4
  have hlo : (x &&& 4095#16).toNat < 4096 := by
    rw [BitVec.toNat_and]
    exact Nat.lt_of_le_of_lt Nat.and_le_right (by decide)
  have h0 : ((x >>> 12) <<< 12) <<< 4 = 0#16 := by
    rw [← BitVec.shiftLeft_add]
    exact BitVec.shiftLeft_eq_zero (by decide)
  rw [halfI, e4, hi, tab_num _ hlt, xor_num]
  congr 1
  have hsx : sts 4 (x ^^^ (BitVec.ofNat 16 b <<< 12)) = sts 4 (((x >>> 12) ^^^ BitVec.ofNat 16 b) <<< 12) ^^^ sts 4 (x &&& 4095#16) := by
    rw [← sts_xor, BitVec.shiftLeft_xor_distrib]
    congr 1
    conv => lhs; rw [split12 x]
    rw [BitVec.xor_assoc, BitVec.xor_assoc, BitVec.xor_comm (x &&& 4095#16)]
  have hx4 : x <<< 4 = sts 4 (x &&& 4095#16) := by
    rw [sts_small 4 _ (by omega)]
    conv => lhs; rw [split12 x]
    rw [BitVec.shiftLeft_xor_distrib, h0, BitVec.zero_xor]
  rw [hsx, hx4, BitVec.xor_comm]
theorem byte_fin : ∀ v : Fin 256, BitVec.ofNat 16 v.1 <<< 8 = (BitVec.ofNat 16 (v.1 / 16) <<< 12) ^^^ (BitVec.ofNat 16 (v.1 % 16) <<< 8) := by decide +kernel
theorem low_fin : ∀ v : Fin 16, sts 4 (BitVec.ofNat 16 v.1 <<< 8) = BitVec.ofNat 16 v.1 <<< 12 := by decide +kernel
/-- One byte more. -/
def bstep (x : BitVec 16) (v : Nat) : BitVec 16 := sts 8 (x ^^^ (BitVec.ofNat 16 v <<< 8))
theorem byte_num (x : BitVec 16) (v : Nat) (hv : v < 256) : byteI (num x) (v : Int) = num (bstep x v) := by
  have e1 : (v : Int) / 16 = ((v / 16 : Nat) : Int) := by omega
  have e2 : (v : Int) % 16 = ((v % 16 : Nat) : Int) := by omega
  rw [byteI, e1, e2, half_num x (v / 16) (by omega), half_num _ (v % 16) (by omega), bstep, byte_fin ⟨v, hv⟩, sts_add 4 4, ← BitVec.xor_assoc, sts_xor 4 (x ^^^ _), low_fin ⟨v % 16, by omega⟩]
/-- The sum behind n bytes of a text. -/
def crcB (t : ByteArray) : Nat → BitVec 16
  | 0 => 65535#16
  | n + 1 => bstep (crcB t n) (bt t (n : Int)).toNat
theorem fold_num (t : ByteArray) (n : Nat) : foldT t n = num (crcB t n) := by
  induction n with
  | zero => rfl
  | succ n ih =>
    have hb := bt_range t (n : Int)
    have e : bt t (n : Int) = (((bt t (n : Int)).toNat : Nat) : Int) := by omega
    rw [foldT, ih, e, byte_num _ _ (by omega), crcB]
end Go.Proofs.Ytgioeghaopoabaa.CrcMath
