/- Sums of sixteen bits, more: a text with its sum behind it has the sum 0; one byte turned turns the sum. No program. -/
import Derived.Test.YtgioeghaopoabaaCrcMath
import Derived.Test.YtgioeghaopoabaaBt
namespace Go.Proofs.Ytgioeghaopoabaa.CrcMath
open Go Go.RowKit Go.Proofs.YtgioeghaopoabaaW.PrintWords Go.Proofs.Ytgioeghaopoabaa.HCrc Go.Proofs.Ytgioeghaopoabaa.Aux Go.Proofs.Ytgioeghaopoabaa.Bt

theorem crcB_congr (s u : ByteArray) (n : Nat) (h : ∀ i, i < n → bt s (i : Int) = bt u (i : Int)) : crcB s n = crcB u n := by
  induction n with
  | zero => rfl
  | succ n ih => rw [crcB, crcB, ih (fun i hi => h i (by omega)), h n (by omega)]
theorem split8 (x : BitVec 16) : x = ((x >>> 8) <<< 8) ^^^ (x &&& 255#16) := by
  apply BitVec.eq_of_getLsbD_eq
  intro i hi
  have h : i = 0 ∨ i = 1 ∨ i = 2 ∨ i = 3 ∨ i = 4 ∨ i = 5 ∨ i = 6 ∨ i = 7 ∨ i = 8 ∨ i = 9 ∨ i = 10 ∨ i = 11 ∨ i = 12 ∨ i = 13 ∨ i = 14 ∨ i = 15 := by omega
  rcases h with rfl | rfl | rfl | rfl | rfl | rfl | rfl | rfl | rfl | rfl | rfl | rfl | rfl | rfl | rfl | rfl <;> simp
/-- A sum's two bytes behind it. -/
theorem crc_end (x : BitVec 16) : bstep (bstep x (x.toNat / 256)) (x.toNat % 256) = 0#16 := by
  have hx := x.isLt
  have h8 : BitVec.ofNat 16 (x.toNat / 256) = x >>> 8 := by
    apply BitVec.eq_of_toNat_eq
    rw [BitVec.toNat_ofNat, BitVec.toNat_ushiftRight, Nat.shiftRight_eq_div_pow]
    omega
  have hl : x &&& 255#16 = BitVec.ofNat 16 (x.toNat % 256) := by
    apply BitVec.eq_of_toNat_eq
    have h : x.toNat &&& 255 = x.toNat % 256 := Nat.and_two_pow_sub_one_eq_mod x.toNat 8
    have e1 : (255#16).toNat = 255 := rfl
    rw [BitVec.toNat_and, e1, h, BitVec.toNat_ofNat]
    omega
  have h1 : bstep x (x.toNat / 256) = BitVec.ofNat 16 (x.toNat % 256) <<< 8 := by
    rw [bstep, h8]
    have e : x ^^^ ((x >>> 8) <<< 8) = x &&& 255#16 := by
      conv => lhs; lhs; rw [split8 x]
      rw [BitVec.xor_comm, ← BitVec.xor_assoc, BitVec.xor_self, BitVec.zero_xor]
    rw [e, hl, sts_small 8 _ (by rw [BitVec.toNat_ofNat]; omega)]
  rw [h1, bstep, BitVec.xor_self]
  decide
theorem st_zero {z : BitVec 16} (h : st z = 0#16) : z = 0#16 := by
  have hz := z.isLt
  unfold st at h
  have hm : z.msb = decide (32768 ≤ z.toNat) := by rw [BitVec.msb_eq_decide]
  have hs : (z <<< 1).toNat = z.toNat * 2 % 65536 := by rw [BitVec.toNat_shiftLeft, Nat.shiftLeft_eq]
  rw [hm] at h
  by_cases c : 32768 ≤ z.toNat
  · rw [decide_eq_true c] at h
    have e : z <<< 1 = 4129#16 := by
      have h2 := congrArg (fun y => y ^^^ 4129#16) h
      simpa [BitVec.xor_assoc] using h2
    rw [e] at hs
    have : (4129#16).toNat = 4129 := rfl
    omega
  · rw [decide_eq_false c] at h
    have e : z <<< 1 = 0#16 := by simpa using h
    rw [e] at hs
    apply BitVec.eq_of_toNat_eq
    have : (0#16).toNat = 0 := rfl
    omega
theorem xor_zero {x y : BitVec 16} (h : x ^^^ y = 0#16) : x = y := by
  have h2 := congrArg (fun z => z ^^^ y) h
  simpa [BitVec.xor_assoc] using h2
theorem st_inj {x y : BitVec 16} (h : st x = st y) : x = y := by
  refine xor_zero (st_zero ?_)
  rw [st_xor, h, BitVec.xor_self]
theorem sts_inj (k : Nat) {x y : BitVec 16} (h : sts k x = sts k y) : x = y := by
  induction k with
  | zero => exact h
  | succ k ih => exact ih (st_inj h)
theorem bstep_inj {x y : BitVec 16} {v : Nat} (h : bstep x v = bstep y v) : x = y := by
  have h1 := sts_inj 8 h
  have h2 := congrArg (fun z => z ^^^ (BitVec.ofNat 16 v <<< 8)) h1
  simpa [BitVec.xor_assoc] using h2
theorem bstep_inj2 {x : BitVec 16} {v u : Nat} (hv : v < 256) (hu : u < 256) (h : bstep x v = bstep x u) : v = u := by
  have h1 := sts_inj 8 h
  have h2 := congrArg (fun z => (x ^^^ z).toNat) h1
  simp only [← BitVec.xor_assoc, BitVec.xor_self, BitVec.zero_xor] at h2
  rw [BitVec.toNat_shiftLeft, BitVec.toNat_shiftLeft, BitVec.toNat_ofNat, BitVec.toNat_ofNat, Nat.shiftLeft_eq, Nat.shiftLeft_eq] at h2
  omega
/-- Two texts that part in one byte alone part in their sums. -/
theorem crcB_part (s u : ByteArray) (k n : Nat) (hk : k < n) (h : ∀ i, i < n → i ≠ k → bt s (i : Int) = bt u (i : Int)) (hp : bt s (k : Int) ≠ bt u (k : Int)) : crcB s n ≠ crcB u n := by
  induction n with
  | zero => omega
  | succ n ih =>
    have b1 := bt_range s (n : Int)
    have b2 := bt_range u (n : Int)
    by_cases e : k = n
    · subst e
      have h1 := crcB_congr s u k (fun i hi => h i (by omega) (by omega))
      intro c
      rw [crcB, crcB, h1] at c
      have := bstep_inj2 (by omega) (by omega) c
      omega
    · have h1 := ih (by omega) (fun i hi hne => h i (by omega) hne)
      intro c
      rw [crcB, crcB, h n (by omega) (by omega)] at c
      exact h1 (bstep_inj c)
theorem num_inj {x y : BitVec 16} (h : num x = num y) : x = y := by
  apply BitVec.eq_of_toNat_eq
  unfold num at h
  omega
end Go.Proofs.Ytgioeghaopoabaa.CrcMath
