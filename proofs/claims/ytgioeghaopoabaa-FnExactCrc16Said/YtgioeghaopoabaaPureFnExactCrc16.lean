/- FnExactCrc16: the program's Crc16 (by a table) and the reference's (bit by bit) answer alike. No conditions but that the text is one that a machine holds. -/
import Derived.Test.YtgioeghaopoabaaPFnExactCrc16x1
import Derived.Test.YtgioeghaopoabaaCrcMath
namespace Go.Proofs.Ytgioeghaopoabaa.Pure
open Go Go.RowKit Go.Proofs.Ytgioeghaopoabaa.PFnExactCrc16 Go.Proofs.YtgioeghaopoabaaW.PrintWords Go.Proofs.YtgioeghaopoabaaW.PrintLast Go.Proofs.YtgioeghaopoabaaW.PrintMore Go.Proofs.Ytgioeghaopoabaa.Aux Go.Proofs.Ytgioeghaopoabaa.CrcMath

namespace FnExactCrc16L
theorem spec_l1 (d : Nat) : ∀ (k j : Nat) (t : ByteArray) (x : BitVec 16) (i : Int), d < k → j + d = 8 →
    spec_Crc16.l1 k t (num (sts j x)) i (j : Int) = spec_Crc16.l0 (k - d - 1) t (num (sts 8 x)) (wrap64 (i + 1)) := by
  induction d with
  | zero =>
    intro k j t x i hk hj
    obtain ⟨k, rfl⟩ : ∃ m, k = m + 1 := ⟨k - 1, by omega⟩
    obtain rfl : j = 8 := by omega
    simp only [spec_Crc16.l1]
    rw [if_neg (by omega)]
    rfl
  | succ d ih =>
    intro k j t x i hk hj
    obtain ⟨k, rfl⟩ : ∃ m, k = m + 1 := ⟨k - 1, by omega⟩
    have hr := num_rng (sts j x)
    have h := spec_num (sts j x)
    have e2 : wrap64 (num (sts j x) * 2) = num (sts j x) * 2 := w64 (by omega) (by omega)
    have e3 : wrap64 (num (sts j x) * 2 - 65536) = num (sts j x) * 2 - 65536 := w64 (by omega) (by omega)
    have e4 : wrap64 ((j : Int) + 1) = ((j + 1 : Nat) : Int) := by rw [w64 (by omega) (by omega)]; omega
    have e5 : k + 1 - (d + 1) - 1 = k - d - 1 := by omega
    have p8 : (j : Int) < 8 := by omega
    have ih' := ih k (j + 1) t x i (by omega) (by omega)
    clear hr
    simp only [spec_Crc16.l1]
    rw [if_pos p8, e2, e3, e4, e5, ← ih']
    by_cases c : num (sts j x) * 2 ≥ 65536
    · rw [if_pos c] at h
      rw [if_pos c, h]
      rfl
    · rw [if_neg c] at h
      rw [if_neg c, h]
      rfl
theorem spec_l0 (d : Nat) : ∀ (k n : Nat) (t : ByteArray), 10 * d < k → t.size ≤ 140737488351232 → n + d = t.size →
    spec_Crc16.l0 k t (num (crcB t n)) (n : Int) = some (num (crcB t t.size)) := by
  induction d with
  | zero =>
    intro k n t hk ht hn
    obtain ⟨k, rfl⟩ : ∃ m, k = m + 1 := ⟨k - 1, by omega⟩
    obtain rfl : n = t.size := by omega
    simp only [spec_Crc16.l0]
    rw [if_neg (by omega)]
  | succ d ih =>
    intro k n t hk ht hn
    obtain ⟨k, rfl⟩ : ∃ m, k = m + 1 := ⟨k - 1, by omega⟩
    have hb := bt_range t (n : Int)
    have hw : wrap64 (wrap64 (bt t (n : Int)) * 256) = num (BitVec.ofNat 16 (bt t (n : Int)).toNat <<< 8) := by
      rw [w64 (x := bt t (n : Int)) (by omega) (by omega), w64 (by omega) (by omega)]
      unfold num
      rw [BitVec.toNat_shiftLeft, Nat.shiftLeft_eq, BitVec.toNat_ofNat]
      omega
    have h0 := spec_l1 8 k 0 t (crcB t n ^^^ (BitVec.ofNat 16 (bt t (n : Int)).toNat <<< 8)) (n : Int) (by omega) (by omega)
    have e : wrap64 ((n : Int) + 1) = ((n + 1 : Nat) : Int) := by rw [w64 (by omega) (by omega)]; omega
    have ih' := ih (k - 8 - 1) (n + 1) t (by omega) ht (by omega)
    have p1 : (n : Int) < (t.size : Int) := by omega
    have p2 : 0 ≤ (n : Int) := by omega
    clear hb
    simp only [spec_Crc16.l0]
    rw [if_pos p1, if_pos p2, hw, xor64]
    rw [e] at h0
    exact h0.trans ih'
theorem specCrc_at (k : Nat) (t : ByteArray) (hk : 10 * t.size < k) (ht : t.size ≤ 140737488351232) : spec_Crc16.f k t = some (num (crcB t t.size)) := by
  unfold spec_Crc16.f
  exact spec_l0 t.size k 0 t hk ht (by omega)
theorem implCrc_at (t : ByteArray) (ht : t.size ≤ 140737488351232) : impl_Crc16.f t = some (num (crcB t t.size)) := by
  unfold impl_Crc16.f
  rw [if_pos (by omega), fold_num]
end FnExactCrc16L
open FnExactCrc16L

theorem FnExactCrc16 : laws_FnExactCrc16.Pure := by
  intro t ht
  refine ⟨10 * t.size + 1, ?_⟩
  unfold laws_FnExactCrc16.f
  rw [specCrc_at _ t (by omega) ht, implCrc_at t ht]
  simp

end Go.Proofs.Ytgioeghaopoabaa.Pure
