/- FnCltuSpoil: what was spoilt a little is not read. No conditions but that what comes is such as a machine holds. -/
import Derived.Test.YtiknnbjfpdeieaaPFnCltuSpoilx3
import Derived.Test.YtiknnbjfpdeieaaHGet2
import Derived.Test.YtiknnbjfpdeieaaHCltu
import Derived.Test.YtiknnbjfpdeieaaHSpoil
import Derived.Test.YtiknnbjfpdeieaaBt
import Derived.Test.YtiknnbjfpdeieaaNum
import Derived.Test.YtiknnbjfpdeieaaBchMath
namespace Go.Proofs.Ytiknnbjfpdeieaa.Pure
open Go Go.RowKit Go.Proofs.Ytiknnbjfpdeieaa.PFnCltuSpoil Go.Proofs.YtiknnbjfpdeieaaW.PrintWords Go.Proofs.YtiknnbjfpdeieaaW.PrintLast Go.Proofs.YtiknnbjfpdeieaaW.PrintMore Go.Proofs.Ytiknnbjfpdeieaa.Aux Go.Proofs.Ytiknnbjfpdeieaa.Bt Go.Proofs.Ytiknnbjfpdeieaa.BchMath

namespace FnCltuSpoilL
theorem next_fin : ∀ (s : Fin 128) (b : Fin 2), impl_parity_next.f (s.1 : Int) (b.1 : Int) = some ((bstep s.1 b.1 : Nat) : Int) := by decide +kernel
theorem spec_fin : ∀ (s : Fin 128) (b : Fin 2), (if bits .xor .i64 ((s.1 : Int) / 64) (b.1 : Int) = 1 then bits .xor .i64 (bits .and .i64 (wrap64 ((s.1 : Int) * 2)) 127) 69 else bits .and .i64 (wrap64 ((s.1 : Int) * 2)) 127) = ((bstep s.1 b.1 : Nat) : Int) := by decide +kernel
theorem bit_fin : ∀ (v : Fin 256) (b : Fin 8), bits .and .u8 (shr .u8 (v.1 : Int) (b.1 : Int)) 1 = ((v.1 / 2 ^ b.1 % 2 : Nat) : Int) ∧ bits .and .i64 (shr .i64 (v.1 : Int) (b.1 : Int)) 1 = ((v.1 / 2 ^ b.1 % 2 : Nat) : Int) := by decide +kernel
theorem bit_at (s : ByteArray) (t : Nat) : bits .and .u8 (shr .u8 (bt s ((t / 8 : Nat) : Int)) ((7 - t % 8 : Nat) : Int)) 1 = ((bitAt s t : Nat) : Int) ∧ bits .and .i64 (shr .i64 (bt s ((t / 8 : Nat) : Int)) ((7 - t % 8 : Nat) : Int)) 1 = ((bitAt s t : Nat) : Int) := by
  have hb := bt_range s ((t / 8 : Nat) : Int)
  have h := bit_fin ⟨(bt s ((t / 8 : Nat) : Int)).toNat, by omega⟩ ⟨7 - t % 8, by omega⟩
  have e : (((bt s ((t / 8 : Nat) : Int)).toNat : Nat) : Int) = bt s ((t / 8 : Nat) : Int) := by omega
  simp only [e] at h
  exact h
theorem next_at (s : ByteArray) (t : Nat) : impl_parity_next.f ((bst s t : Nat) : Int) ((bitAt s t : Nat) : Int) = some ((bst s (t + 1) : Nat) : Int) := next_fin ⟨_, bst_lt s t⟩ ⟨_, bitAt_lt s t⟩
theorem over_step (k t : Nat) (s : ByteArray) (hs : s.size = 7) (ht : t < 56) :
    impl_parity_over.l1 (k + 1) ((bst s t : Nat) : Int) s ((t / 8 : Nat) : Int) ((7 - t % 8 : Nat) : Int) = impl_parity_over.l1 k ((bst s (t + 1) : Nat) : Int) s ((t / 8 : Nat) : Int) (((7 - t % 8 : Nat) : Int) - 1) := by
  simp only [impl_parity_over.l1]
  rw [if_pos (by omega), if_pos (by omega), if_pos (by omega), if_pos (by omega), (bit_at s t).1, next_at]
  simp only [Option.bind_some]
  rw [w64 (by omega) (by omega)]
/-- The program's two loops. -/
theorem over_l1 (n : Nat) (hn : n = 56) (d : Nat) : ∀ (k t : Nat) (s : ByteArray), 3 * d + 3 ≤ k → s.size = 7 → t + (d + 1) = n →
    impl_parity_over.l1 k ((bst s t : Nat) : Int) s ((t / 8 : Nat) : Int) ((7 - t % 8 : Nat) : Int) = some ((bst s n : Nat) : Int) := by
  induction d with
  | zero =>
    intro k t s hk hs ht
    obtain ⟨k, rfl⟩ : ∃ m, k = m + 3 := ⟨k - 3, by omega⟩
    obtain rfl : n = t + 1 := by omega
    rw [over_step (k + 2) t s hs (by omega)]
    simp only [impl_parity_over.l1]
    rw [if_neg (by omega), w64 (by omega) (by omega)]
    simp only [impl_parity_over.l0]
    rw [if_neg (by omega)]
  | succ d ih =>
    intro k t s hk hs ht
    obtain ⟨k, rfl⟩ : ∃ m, k = m + 3 := ⟨k - 3, by omega⟩
    rw [over_step (k + 2) t s hs (by omega)]
    by_cases h : t % 8 = 7
    · simp only [impl_parity_over.l1]
      rw [if_neg (by omega), w64 (by omega) (by omega)]
      simp only [impl_parity_over.l0]
      rw [if_pos (by omega)]
      have e1 : ((t / 8 : Nat) : Int) + 1 = (((t + 1) / 8 : Nat) : Int) := by omega
      have e2 : (7 : Int) = ((7 - (t + 1) % 8 : Nat) : Int) := by omega
      rw [e1, e2]
      exact ih k (t + 1) s (by omega) hs (by omega)
    · have e1 : ((t / 8 : Nat) : Int) = (((t + 1) / 8 : Nat) : Int) := by omega
      have e2 : ((7 - t % 8 : Nat) : Int) - 1 = ((7 - (t + 1) % 8 : Nat) : Int) := by omega
      rw [e1, e2]
      exact ih (k + 2) (t + 1) s (by omega) hs (by omega)
theorem over_at (k : Nat) (hk : 200 ≤ k) (s : ByteArray) (hs : s.size = 7) : impl_parity_over.f k 0 s = some ((bst s 56 : Nat) : Int) := by
  obtain ⟨k, rfl⟩ : ∃ m, k = m + 1 := ⟨k - 1, by omega⟩
  unfold impl_parity_over.f
  simp only [impl_parity_over.l0]
  rw [if_pos (by omega)]
  exact over_l1 56 rfl 55 k 0 s (by omega) hs (by omega)
theorem idx1 {t : Nat} (ht : t < 56) : wrap64 (Int.tdiv (t : Int) 8) = ((t / 8 : Nat) : Int) := by
  rw [tdivp (by omega), w64 (by omega) (by omega)]
  omega
theorem idx2 {t : Nat} (ht : t < 56) : wrap64 (7 - Int.tmod (t : Int) 8) = ((7 - t % 8 : Nat) : Int) := by
  rw [tmodp (by omega), w64 (by omega) (by omega)]
  omega
theorem idx3 {t : Nat} (ht : t < 56) : wrap64 ((t : Int) + 1) = ((t + 1 : Nat) : Int) := by
  rw [w64 (by omega) (by omega)]
  omega
theorem idx4 (s : ByteArray) (p : Int) : wrap64 (bt s p) = bt s p := by
  have hb := bt_range s p
  exact w64 (by omega) (by omega)
theorem bch_step (k t : Nat) (s : ByteArray) (hs : s.size = 7) (ht : t < 56) :
    spec_Bch.l0 (k + 1) s ((bst s t : Nat) : Int) (t : Int) = spec_Bch.l0 k s ((bst s (t + 1) : Nat) : Int) ((t + 1 : Nat) : Int) := by
  have p1 : (t : Int) < 56 := by omega
  have p2 : 0 ≤ ((t / 8 : Nat) : Int) := by omega
  have p3 : ((t / 8 : Nat) : Int) < (s.size : Int) := by omega
  have p4 : 0 ≤ ((7 - t % 8 : Nat) : Int) := by omega
  simp only [spec_Bch.l0]
  rw [if_pos p1, idx1 ht, idx2 ht, if_pos p2, if_pos p3, if_pos p4, idx4, (bit_at s t).2, idx3 ht]
  have h := spec_fin ⟨bst s t, bst_lt s t⟩ ⟨bitAt s t, bitAt_lt s t⟩
  dsimp only at h
  rw [show bstep (bst s t) (bitAt s t) = bst s (t + 1) from rfl] at h
  by_cases c : bits .xor .i64 (((bst s t : Nat) : Int) / 64) ((bitAt s t : Nat) : Int) = 1
  · rw [if_pos c] at h
    rw [if_pos c, h]
  · rw [if_neg c] at h
    rw [if_neg c, h]
/-- The reference's loop. -/
theorem bch_l0 (n : Nat) (hn : n = 56) (d : Nat) : ∀ (k t : Nat) (s : ByteArray), d < k → s.size = 7 → t + d = n →
    spec_Bch.l0 k s ((bst s t : Nat) : Int) (t : Int) = some (wrap64 ((bits .xor .i64 ((bst s n : Nat) : Int) 127) * 2)) := by
  induction d with
  | zero =>
    intro k t s hk hs ht
    obtain ⟨k, rfl⟩ : ∃ m, k = m + 1 := ⟨k - 1, by omega⟩
    obtain rfl : n = t := by omega
    simp only [spec_Bch.l0]
    rw [if_neg (by omega)]
  | succ d ih =>
    intro k t s hk hs ht
    obtain ⟨k, rfl⟩ : ∃ m, k = m + 1 := ⟨k - 1, by omega⟩
    rw [bch_step k t s hs (by omega)]
    exact ih k (t + 1) s (by omega) hs (by omega)
theorem last_fin : ∀ (s : Fin 128), wrap64 ((bits .xor .i64 (s.1 : Int) 127) * 2) = (((s.1 ^^^ 127) * 2 : Nat) : Int) ∧ wrap64 ((wrap64 (bits .xor .u8 (s.1 : Int) 127)) * 2) = (((s.1 ^^^ 127) * 2 : Nat) : Int) := by decide +kernel
/-- Bch's answer. -/
def bch (s : ByteArray) : Int := if s.size = 7 then (((bst s 56 ^^^ 127) * 2 : Nat) : Int) else -1
theorem implBch_at (k : Nat) (hk : 200 ≤ k) (s : ByteArray) : impl_Bch.f k s = some (bch s) := by
  unfold impl_Bch.f bch
  by_cases hs : s.size = 7
  · rw [if_pos (by omega), if_pos hs, over_at k hk s hs]
    simp only [Option.bind_some]
    rw [(last_fin ⟨bst s 56, bst_lt s 56⟩).2]
  · rw [if_neg (by omega), if_neg hs]
theorem specBch_at (k : Nat) (hk : 60 ≤ k) (s : ByteArray) : spec_Bch.f k s = some (bch s) := by
  unfold spec_Bch.f bch
  by_cases hs : s.size = 7
  · rw [if_pos (by omega), if_pos hs]
    have h := bch_l0 56 rfl 56 k 0 s (by omega) hs (by omega)
    rw [(last_fin ⟨bst s 56, bst_lt s 56⟩).1] at h
    exact h
  · rw [if_neg (by omega), if_neg hs]
theorem l1Put_l0 (d : Nat) : ∀ (k : Nat) (n size i : Int) (out : ByteArray), d < k → 0 ≤ n → n ≤ 9223372036854775807 → 0 ≤ i → size ≤ 4 → size - i = d → out.size ≤ 4 - d →
    spec_l1Put.l0 k n size out i = some (strOfNums (be d n) ++ out) := by
  induction d with
  | zero =>
    intro k n size i out hk h0 h1 hi hs hd ho
    obtain ⟨k, rfl⟩ : ∃ m, k = m + 1 := ⟨k - 1, by omega⟩
    simp only [spec_l1Put.l0]
    rw [if_neg (by omega)]
    show some out = some ((⟨#[]⟩ : ByteArray) ++ out)
    rw [str_nil_append]
  | succ d ih =>
    intro k n size i out hk h0 h1 hi hs hd ho
    obtain ⟨k, rfl⟩ : ∃ m, k = m + 1 := ⟨k - 1, by omega⟩
    have hsz : (strOfNums [(Int.tmod n 256) % 256]).size = 1 := by rw [strOfNums_size]; rfl
    simp only [spec_l1Put.l0]
    rw [if_pos (by omega)]
    simp only [Option.bind_some]
    rw [if_pos (by omega), w64 (x := i + 1) (by omega) (by omega), tdivp h0, w64 (x := n / 256) (by omega) (by omega)]
    rw [ih _ _ _ _ _ (by omega) (by omega) (by omega) (by omega) hs (by omega) (by rw [ByteArray.size_append]; omega)]
    have e : (Int.tmod n 256) % 256 = n % 256 := by rw [tmodp h0]; omega
    rw [e, be, strOfNums_append, ByteArray.append_assoc]
theorem l1Put_at (k : Nat) (hk : 5 ≤ k) (n size : Int) (h0 : 0 ≤ n) (h1 : n ≤ 9223372036854775807) (hs0 : 0 ≤ size) (hs : size ≤ 4) :
    spec_l1Put.f k n size = some (strOfNums (be size.toNat n)) := by
  unfold spec_l1Put.f
  rw [l1Put_l0 size.toNat k n size 0 _ (by omega) h0 h1 (by omega) hs (by omega) (by show 0 ≤ _; omega), str_append_nil]
theorem bch_range (s : ByteArray) : 0 ≤ bch s + 1 ∧ bch s ≤ 255 := by
  unfold bch
  split
  · have h := bst_lt s 56
    have : bst s 56 ^^^ 127 < 128 := Nat.xor_lt_two_pow (n := 7) h (by decide)
    omega
  · omega
theorem bch7 (s : ByteArray) (h : s.size = 7) : 0 ≤ bch s ∧ bch s ≤ 255 := by
  refine ⟨?_, (bch_range s).2⟩
  unfold bch
  rw [if_pos h]
  omega
theorem fill_zero : HCltu.fill 0 = (⟨#[]⟩ : ByteArray) := rfl
theorem fill_succ (q : Nat) : HCltu.fill (q + 1) = (⟨#[85]⟩ : ByteArray) ++ HCltu.fill q := by
  apply ByteArray.ext
  simp [HCltu.fill, Lib.repeatL]
theorem one_put (s : ByteArray) (h : s.size = 7) (k : Nat) (hk : 5 ≤ k) : spec_l1Put.f k (bch s) 1 = some (HCltu.one (bch s)) := by
  obtain ⟨h0, h1⟩ := bch7 s h
  rw [l1Put_at k hk (bch s) 1 h0 (by omega) (by decide) (by decide)]
  rfl
/-- A block of the reference. -/
def blockOf (p : ByteArray) : ByteArray := (p ++ HCltu.fill (7 - p.size)) ++ HCltu.one (bch (p ++ HCltu.fill (7 - p.size)))
theorem block_l0 (d : Nat) : ∀ (k : Nat) (p : ByteArray), 80 + d ≤ k → p.size + d = 7 → spec_l2Block.l0 k p = some (blockOf p) := by
  induction d with
  | zero =>
    intro k p hk hp
    obtain ⟨k, rfl⟩ : ∃ m, k = m + 1 := ⟨k - 1, by omega⟩
    simp only [spec_l2Block.l0]
    rw [if_neg (by omega), specBch_at k (by omega) p]
    simp only [Option.bind_some]
    rw [one_put p (by omega) k (by omega)]
    simp only [Option.bind_some]
    rw [if_pos (by rw [HCltu.one_size]; omega)]
    unfold blockOf
    rw [show 7 - p.size = 0 by omega, fill_zero, str_append_nil]
  | succ d ih =>
    intro k p hk hp
    obtain ⟨k, rfl⟩ : ∃ m, k = m + 1 := ⟨k - 1, by omega⟩
    have hs : (p ++ (⟨#[85]⟩ : ByteArray)).size = p.size + 1 := ByteArray.size_append
    simp only [spec_l2Block.l0]
    rw [if_pos (by omega), if_pos (by omega), ih k _ (by omega) (by omega)]
    have e : (p ++ (⟨#[85]⟩ : ByteArray)) ++ HCltu.fill (7 - (p ++ (⟨#[85]⟩ : ByteArray)).size) = p ++ HCltu.fill (7 - p.size) := by
      rw [hs, show 7 - p.size = (7 - (p.size + 1)) + 1 by omega, fill_succ, ByteArray.append_assoc]
    unfold blockOf
    rw [e]
theorem block_at (k : Nat) (hk : 90 ≤ k) (p : ByteArray) (hp : p.size ≤ 7) : spec_l2Block.f k p = some (blockOf p) := block_l0 (7 - p.size) k p (by omega) (by omega)
theorem block_size (p : ByteArray) (hp : p.size ≤ 7) : (blockOf p).size = 8 := by
  unfold blockOf
  rw [ByteArray.size_append, ByteArray.size_append, HCltu.one_size, HCltu.fill_size]
  omega
theorem pad_size (t : ByteArray) : (HCltu.pad t).size = 7 * ((t.size + 6) / 7) := by
  unfold HCltu.pad
  split
  · omega
  · rw [ByteArray.size_append, HCltu.fill_size]
    omega
theorem pad_full (t : ByteArray) (j : Nat) (h : 7 * j + 7 ≤ t.size) : (HCltu.pad t).extract (7 * j) (7 * j + 7) = t.extract (7 * j) (7 * j + 7) := by
  unfold HCltu.pad
  split
  · rfl
  · rw [ByteArray.extract_append, show 7 * j - t.size = 0 by omega, show 7 * j + 7 - t.size = 0 by omega]
    have e : (HCltu.fill (7 - t.size % 7)).extract 0 0 = (⟨#[]⟩ : ByteArray) := by
      apply ByteArray.ext
      simp
    rw [e, str_append_nil]
theorem pad_last (t : ByteArray) (j : Nat) (h : 7 * j < t.size) (h2 : t.size < 7 * j + 7) : (HCltu.pad t).extract (7 * j) (7 * j + 7) = t.extract (7 * j) t.size ++ HCltu.fill (7 - (t.extract (7 * j) t.size).size) := by
  have hs : (t.extract (7 * j) t.size).size = t.size - 7 * j := by rw [ByteArray.size_extract]; omega
  unfold HCltu.pad
  rw [if_neg (by omega), ByteArray.extract_append, hs, show 7 - t.size % 7 = 7 - (t.size - 7 * j) by omega, show 7 * j - t.size = 0 by omega, show 7 * j + 7 - t.size = 7 - (t.size - 7 * j) by omega]
  have e1 : t.extract (7 * j) (7 * j + 7) = t.extract (7 * j) t.size := by
    apply ByteArray.ext
    simp only [ByteArray.data_extract]
    have : t.data.size = t.size := rfl
    apply Array.ext
    · rw [Array.size_extract, Array.size_extract]; omega
    · intro i h1 h2
      simp
  have e2 : (HCltu.fill (7 - (t.size - 7 * j))).extract 0 (7 - (t.size - 7 * j)) = HCltu.fill (7 - (t.size - 7 * j)) := by
    conv => lhs; arg 3; rw [← HCltu.fill_size (7 - (t.size - 7 * j))]
    exact ByteArray.extract_zero_size
  rw [e1, e2]
/-- What one block of the reference stands for. -/
theorem runs_next (t : ByteArray) (v : ByteArray → Int) (hv : ∀ s : ByteArray, s.size = 7 → v s = bch s) (j m : Nat) (hm : (t.size + 6) / 7 = j + (m + 1)) (p : ByteArray) (hp : p ++ HCltu.fill (7 - p.size) = (HCltu.pad t).extract (7 * j) (7 * j + 7)) :
    HCltu.runs v (m + 1) ((HCltu.pad t).extract (7 * j) (HCltu.pad t).size) = blockOf p ++ HCltu.runs v m ((HCltu.pad t).extract (7 * (j + 1)) (HCltu.pad t).size) := by
  have hz := pad_size t
  have e1 : ((HCltu.pad t).extract (7 * j) (HCltu.pad t).size).extract 0 7 = (HCltu.pad t).extract (7 * j) (7 * j + 7) := by
    rw [ByteArray.extract_extract, show 7 * j + 0 = 7 * j by omega, show min (7 * j + 7) (HCltu.pad t).size = 7 * j + 7 by omega]
  have e2 : ((HCltu.pad t).extract (7 * j) (HCltu.pad t).size).extract 7 ((HCltu.pad t).extract (7 * j) (HCltu.pad t).size).size = (HCltu.pad t).extract (7 * (j + 1)) (HCltu.pad t).size := by
    rw [ByteArray.extract_extract, ByteArray.size_extract, show 7 * j + 7 = 7 * (j + 1) by omega, show min (7 * j + (min (HCltu.pad t).size (HCltu.pad t).size - 7 * j)) (HCltu.pad t).size = (HCltu.pad t).size by omega]
  have hs : ((HCltu.pad t).extract (7 * j) (7 * j + 7)).size = 7 := by rw [ByteArray.size_extract]; omega
  have er : ∀ r : ByteArray, HCltu.runs v (m + 1) r = ((r.extract 0 7) ++ HCltu.one (v (r.extract 0 7))) ++ HCltu.runs v m (r.extract 7 r.size) := fun _ => rfl
  rw [er, e1, e2, hv _ hs]
  unfold blockOf
  rw [hp]
theorem blocks_l0 (t : ByteArray) (_ : t.size ≤ 100) (v : ByteArray → Int) (hv : ∀ s : ByteArray, s.size = 7 → v s = bch s) (m : Nat) : ∀ (k j : Nat) (acc : ByteArray), 100 + m ≤ k → (t.size + 6) / 7 = j + m → acc.size + 8 * m ≤ 200 →
    spec_l2Blocks.l0 k t acc ((7 * j : Nat) : Int) = some (acc ++ HCltu.runs v m ((HCltu.pad t).extract (7 * j) (HCltu.pad t).size)) := by
  induction m with
  | zero =>
    intro k j acc hk hj ha
    obtain ⟨k, rfl⟩ : ∃ m, k = m + 1 := ⟨k - 1, by omega⟩
    simp only [spec_l2Blocks.l0]
    rw [if_neg (by omega)]
    show some acc = some (acc ++ (⟨#[]⟩ : ByteArray))
    rw [str_append_nil]
  | succ m ih =>
    intro k j acc hk hj ha
    obtain ⟨k, rfl⟩ : ∃ m, k = m + 1 := ⟨k - 1, by omega⟩
    have ew : wrap64 (((7 * j : Nat) : Int) + 7) = ((7 * (j + 1) : Nat) : Int) := by rw [w64 (by omega) (by omega)]; omega
    have g1 : ((7 * j : Nat) : Int) < (t.size : Int) := by omega
    have g2 : 0 ≤ ((7 * j : Nat) : Int) := by omega
    have g3 : ((7 * j : Nat) : Int) ≤ (t.size : Int) := by omega
    have g4 : ((7 * j : Nat) : Int) ≤ ((7 * (j + 1) : Nat) : Int) := by omega
    simp only [spec_l2Blocks.l0]
    rw [if_pos g1, ew]
    by_cases c : ((7 * (j + 1) : Nat) : Int) > (t.size : Int)
    · have c2 : t.size < 7 * j + 7 := by omega
      rw [if_pos c, if_pos g2, if_pos g3, if_pos (Int.le_refl _), Int.toNat_natCast, Int.toNat_natCast]
      have hp : (t.extract (7 * j) t.size).size ≤ 7 := by rw [ByteArray.size_extract]; omega
      have hb := block_size _ hp
      rw [block_at k (by omega) _ hp]
      simp only [Option.bind_some]
      rw [if_pos (by omega), ih k (j + 1) _ (by omega) (by omega) (by rw [ByteArray.size_append]; omega), runs_next t v hv j m hj _ (pad_last t j (by omega) c2).symm, ByteArray.append_assoc]
    · have c2 : 7 * j + 7 ≤ t.size := by omega
      have g5 : ((7 * (j + 1) : Nat) : Int) ≤ (t.size : Int) := by omega
      have e7 : 7 * (j + 1) = 7 * j + 7 := by omega
      have hp7 : (t.extract (7 * j) (7 * (j + 1))).size = 7 := by rw [ByteArray.size_extract]; omega
      have hp : (t.extract (7 * j) (7 * (j + 1))).size ≤ 7 := by omega
      have hb := block_size _ hp
      have hf : t.extract (7 * j) (7 * (j + 1)) ++ HCltu.fill (7 - (t.extract (7 * j) (7 * (j + 1))).size) = (HCltu.pad t).extract (7 * j) (7 * j + 7) := by
        rw [hp7, show 7 - 7 = 0 from rfl, fill_zero, str_append_nil, pad_full t j c2, e7]
      rw [if_neg c, if_pos g2, if_pos g4, if_pos g5, Int.toNat_natCast, Int.toNat_natCast, block_at k (by omega) _ hp]
      simp only [Option.bind_some]
      rw [if_pos (by omega), ih k (j + 1) _ (by omega) (by omega) (by rw [ByteArray.size_append]; omega), runs_next t v hv j m hj _ hf, ByteArray.append_assoc]
theorem runs_size (v : ByteArray → Int) (m : Nat) : ∀ r : ByteArray, r.size = 7 * m → (HCltu.runs v m r).size = 8 * m := by
  induction m with
  | zero => intro r _; rfl
  | succ m ih =>
    intro r hr
    obtain ⟨h1, h2⟩ := HCltu.head7 hr
    unfold HCltu.runs
    rw [ByteArray.size_append, ByteArray.size_append, HCltu.one_size, h1, ih _ h2]
    omega
theorem cltuPut_at (k : Nat) (hk : 200 ≤ k) (v : ByteArray → Int) (hv : ∀ s : ByteArray, s.size = 7 → v s = bch s) (t : ByteArray) : spec_CltuPut.f k t = some (HCltu.put v t) := by
  unfold spec_CltuPut.f HCltu.put spec_l1In.f
  by_cases h : 1 ≤ t.size ∧ t.size ≤ 63
  · have hb := blocks_l0 t (by omega) v hv ((t.size + 6) / 7) k 0 (⟨#[]⟩ : ByteArray) (by omega) (by omega) (by show 0 + _ ≤ _; omega)
    have hz := pad_size t
    rw [if_pos h, if_pos (by omega)]
    simp only [Option.bind_some]
    rw [if_pos (by apply decide_eq_true; omega)]
    unfold spec_l2Blocks.f spec_l2Start.f spec_l2Tail.f
    rw [show ((0 : Int)) = ((7 * 0 : Nat) : Int) from rfl, hb, str_nil_append, show 7 * 0 = 0 from rfl, ByteArray.extract_zero_size]
    simp only [Option.bind_some]
    have hr := runs_size v ((t.size + 6) / 7) (HCltu.pad t) (by omega)
    have hr2 : (⟨#[235, 144]⟩ : ByteArray).size = 2 := rfl
    have hr3 : (⟨#[197, 197, 197, 197, 197, 197, 197, 121]⟩ : ByteArray).size = 8 := rfl
    rw [hr, hr2, hr3, if_pos (by omega), if_pos (by omega), show (HCltu.pad t).size / 7 = (t.size + 6) / 7 by omega]
    rfl
  · rw [if_neg h]
    by_cases h1 : (t.size : Int) ≥ 1
    · rw [if_pos h1]
      simp only [Option.bind_some]
      rw [if_neg (by simp; omega)]
    · rw [if_neg h1]
      simp
theorem cat_fold (xs : List HGet.B7) : ∀ s : ByteArray, xs.foldl (fun s (x : HGet.B7) => s ++ x.1) s = s ++ HGet.cat xs := by
  induction xs with
  | nil => intro s; exact (str_append_nil s).symm
  | cons x xs ih =>
    intro s
    have h1 : HGet.cat (x :: xs) = ((⟨#[]⟩ : ByteArray) ++ x.1) ++ HGet.cat xs := by
      rw [← ih]
      rfl
    rw [List.foldl_cons, ih, h1, str_nil_append, ByteArray.append_assoc]
theorem cat_cons (x : HGet.B7) (xs : List HGet.B7) : HGet.cat (x :: xs) = x.1 ++ HGet.cat xs := by
  have h := cat_fold xs ((⟨#[]⟩ : ByteArray) ++ x.1)
  rw [str_nil_append] at h
  rw [← h]
  show xs.foldl _ ((⟨#[]⟩ : ByteArray) ++ x.1) = _
  rw [str_nil_append]
open Classical in
/-- What CltuRead answers. -/
noncomputable def readOf (v : ByteArray → Int) (t : ByteArray) : ByteArray := if 2 ≤ t.size ∧ t.extract 0 2 = (⟨#[235, 144]⟩ : ByteArray) then HGet.cat (HGet.taken v (t.extract 2 t.size)) else ⟨#[]⟩
theorem readOf_yes (v : ByteArray → Int) (t : ByteArray) (h2 : 2 ≤ t.size) (c : t.extract 0 2 = (⟨#[235, 144]⟩ : ByteArray)) : readOf v t = HGet.cat (HGet.taken v (t.extract 2 t.size)) := by
  unfold readOf
  rw [if_pos ⟨h2, c⟩]
theorem readOf_no (v : ByteArray → Int) (t : ByteArray) (h : ¬ (2 ≤ t.size ∧ t.extract 0 2 = (⟨#[235, 144]⟩ : ByteArray))) : readOf v t = ⟨#[]⟩ := by
  unfold readOf
  rw [if_neg h]
theorem toList_eq (a b : ByteArray) : (a.toList == b.toList) = decide (a = b) := by
  by_cases h : a = b
  · rw [h]
    simp
  · rw [decide_eq_false h, beq_eq_false_iff_ne]
    intro e
    apply h
    rw [Lib.toList_data, Lib.toList_data] at e
    apply ByteArray.ext
    exact Array.toList_inj.1 e
theorem implRead_at (k : Nat) (hk : 200 ≤ k) (t : ByteArray) : impl_CltuRead.f k t = some (readOf (impl_CltuGet.v k) t) := by
  unfold impl_CltuRead.f strings_CutPrefix.f stringslite_CutPrefix.f stringslite_HasPrefix.f
  have e2 : (((⟨#[235, 144]⟩ : ByteArray).size : Nat) : Int) = 2 := rfl
  rw [e2]
  have hg : ∀ s, impl_CltuGet.f k s = some (HGet.cat (HGet.taken (impl_CltuGet.v k) s), ((8 * (HGet.taken (impl_CltuGet.v k) s).length : Nat) : Int)) := fun s => by
    unfold impl_CltuGet.f
    rw [if_pos (fun s _ => ⟨_, implBch_at k hk s⟩)]
  by_cases h2 : (t.size : Int) ≥ 2
  · have h2' : 2 ≤ t.size := by omega
    have h3 : (2 : Int) ≤ (t.size : Int) := h2
    rw [if_pos h2, if_pos (by decide), if_pos h3]
    simp only [Option.bind_some]
    rw [show (2 : Int).toNat = 2 from rfl, toList_eq]
    by_cases c : t.extract 0 2 = (⟨#[235, 144]⟩ : ByteArray)
    · rw [if_pos (decide_eq_true c), if_pos (by decide), if_pos h3, readOf_yes _ t h2' c]
      simp only [Option.bind_some]
      rw [if_pos True.intro, hg]
      rfl
    · rw [if_neg (by simpa using c), readOf_no _ t (fun h => c h.2)]
      simp
  · rw [if_neg h2, readOf_no _ t (fun h => h2 (by have := h.1; omega))]
    simp
/-- What is read from: at most 2000 bytes. -/
def Bytes (xs : List Int) : Prop := xs.length ≤ 2000 ∧ ∀ x ∈ xs, 0 ≤ x ∧ x ≤ 255
theorem rd_rng {xs : List Int} (h : Bytes xs) (i : Int) : 0 ≤ rd xs i ∧ rd xs i ≤ 255 := by
  unfold rd
  rw [List.getD_eq_getElem?_getD]
  cases hx : xs[i.toNat]? with
  | none => simp
  | some x => exact h.2 x (List.mem_of_getElem? hx)
theorem u8_rng {x : Int} (h : (Lit.int .u8 x).wf = true) : 0 ≤ x ∧ x ≤ 255 := by
  simpa [Lit.wf, IntKind.min, IntKind.max, IntKind.bits, IntKind.signed] using h
/-- Opening what came: its first 2000 bytes. -/
theorem open_at (l : List Int) (hl : l.length ≤ 140737488351232) (h : ∀ x ∈ l, (Lit.int .u8 x).wf = true) : spec_l1Open.f l = some (l.take 2000, 0) ∧ Bytes (l.take 2000) := by
  refine ⟨?_, by rw [List.length_take]; omega, fun x hx => u8_rng (h x (List.mem_of_mem_take hx))⟩
  unfold spec_l1Open.f
  by_cases h2 : (l.length : Int) > 2000
  · rw [if_pos h2, if_pos (by omega)]
  · rw [if_neg h2, List.take_of_length_le (by omega)]
theorem xor_rng {x y : Int} (hx0 : 0 ≤ x) (hx1 : x < 4611686018427387904) (hy0 : 0 ≤ y) (hy1 : y < 4611686018427387904) : 0 ≤ bits .xor .i64 x y ∧ bits .xor .i64 x y < 4611686018427387904 := by
  obtain ⟨a, rfl⟩ := Int.eq_ofNat_of_zero_le hx0
  obtain ⟨b, rfl⟩ := Int.eq_ofNat_of_zero_le hy0
  have h : a ^^^ b < 2 ^ 62 := Nat.xor_lt_two_pow (by omega) (by omega)
  have e : bits .xor .i64 (a : Int) (b : Int) = ((a ^^^ b : Nat) : Int) := by
    show IntKind.i64.wrap ((BitVec.ofInt 64 (a : Int) ^^^ BitVec.ofInt 64 (b : Int)).toNat : Int) = _
    rw [BitVec.toNat_xor, BitVec.ofInt_natCast, BitVec.ofInt_natCast, BitVec.toNat_ofNat, BitVec.toNat_ofNat, Nat.mod_eq_of_lt (by omega), Nat.mod_eq_of_lt (by omega)]
    exact wraps_i64 _ (by omega) (by omega)
  rw [e]
  omega
/-- The number that is reckoned where what came is at its end. -/
theorem mix_rng {a b p q : Int} (ha0 : 0 ≤ a) (ha1 : a ≤ 255) (hb0 : 0 ≤ b) (hb1 : b ≤ 255) (hp0 : 0 ≤ p) (hp1 : p ≤ 1099511627776) (hq0 : 0 ≤ q) (hq1 : q ≤ 1099511627776) :
    ∃ v, wrap64 (wrap64 (wrap64 (wrap64 (wrap64 a * 131) + wrap64 (wrap64 b * 1117)) + wrap64 (p * 29)) + wrap64 (wrap64 q * 53)) = v ∧ 0 ≤ v ∧ v < 4611686018427387904 := by
  refine ⟨a * 131 + b * 1117 + p * 29 + q * 53, ?_, by omega, by omega⟩
  rw [w64 (x := a) (by omega) (by omega), w64 (x := b) (by omega) (by omega), w64 (x := q) (by omega) (by omega), w64 (x := a * 131) (by omega) (by omega), w64 (x := b * 1117) (by omega) (by omega), w64 (x := p * 29) (by omega) (by omega), w64 (x := q * 53) (by omega) (by omega),
    w64 (x := a * 131 + b * 1117) (by omega) (by omega), w64 (x := a * 131 + b * 1117 + p * 29) (by omega) (by omega), w64 (by omega) (by omega)]
theorem tmod_rng {x m : Int} (h0 : 0 ≤ x) (hm : 1 ≤ m) : 0 ≤ Int.tmod x m ∧ Int.tmod x m < m := by
  rw [tmodp h0]
  exact ⟨Int.emod_nonneg _ (by omega), Int.emod_lt_of_pos _ (by omega)⟩
/-- One pick: a number below m. -/
theorem pick_at {xs : List Int} (h : Bytes xs) (p m : Int) (hp0 : 0 ≤ p) (hp1 : p ≤ 1000000) (hm : 1 ≤ m) :
    ∃ r, 0 ≤ r ∧ r < m ∧ ∀ k, 2 ≤ k → spec_l1Rd_pick.f k xs p m = some (r, p + 1) := by
  have hlen := h.1
  have e1 : wrap64 (p + 1) = p + 1 := w64 (by omega) (by omega)
  have e2 : wrap64 (p + 1 - 1) = p := by rw [w64 (by omega) (by omega)]; omega
  have n1 : ¬ m < 1 := by omega
  have n2 : ¬ m = 0 := by omega
  by_cases hz : xs.length = 0
  · refine ⟨0, by omega, by omega, fun k hk => ?_⟩
    obtain ⟨k, rfl⟩ : ∃ q, k = q + 1 := ⟨k - 1, by omega⟩
    have hb : ((xs.length : Int) == 0) = true := by rw [hz]; rfl
    unfold spec_l1Rd_pick.f
    rw [if_neg n1, hb, e1]
    simp only [spec_l1Rd_pick.j0, if_true]
  have hb : ((xs.length : Int) == 0) = false := beq_eq_false_iff_ne.mpr (by omega)
  by_cases hlt : p < (xs.length : Int)
  · have hr := rd_rng h p
    have e3 : wrap64 (rd xs p) = rd xs p := w64 (by omega) (by omega)
    obtain ⟨t0, t1⟩ := tmod_rng (x := rd xs p) (m := m) hr.1 hm
    refine ⟨Int.tmod (rd xs p) m, t0, t1, fun k hk => ?_⟩
    obtain ⟨k, rfl⟩ : ∃ q, k = q + 1 := ⟨k - 1, by omega⟩
    unfold spec_l1Rd_pick.f
    rw [if_neg n1, hb, e1]
    simp only [spec_l1Rd_pick.j0, Bool.false_eq_true, if_false, e2]
    rw [if_pos hlt, if_pos hp0, if_neg n2, e3]
  · have hl1 : 1 ≤ (xs.length : Int) := by omega
    have m1 := tmod_rng (x := p) (m := (xs.length : Int)) hp0 hl1
    have e4 : wrap64 (wrap64 (p * 7) + 3) = p * 7 + 3 := by rw [w64 (x := p * 7) (by omega) (by omega), w64 (by omega) (by omega)]
    have m2 := tmod_rng (x := p * 7 + 3) (m := (xs.length : Int)) (by omega) hl1
    have r1 := rd_rng h (Int.tmod p (xs.length : Int))
    have r2 := rd_rng h (Int.tmod (p * 7 + 3) (xs.length : Int))
    have q0 : 0 ≤ Int.tdiv p (xs.length : Int) := by rw [tdivp hp0]; exact Int.ediv_nonneg hp0 (by omega)
    have q1 : Int.tdiv p (xs.length : Int) ≤ 1000000 := by rw [tdivp hp0]; exact Int.le_trans (Int.ediv_le_self _ hp0) hp1
    obtain ⟨v, hv, v0, v1⟩ := mix_rng (p := p) (q := Int.tdiv p (xs.length : Int)) r1.1 r1.2 r2.1 r2.2 hp0 (by omega) q0 (by omega)
    have d1 : wrap64 (Int.tdiv v 64) = v / 64 := by rw [tdivp v0, w64 (by omega) (by omega)]
    obtain ⟨x0, x1⟩ := xor_rng (x := v) (y := v / 64) v0 v1 (by omega) (by omega)
    obtain ⟨t0, t1⟩ := tmod_rng (x := bits .xor .i64 v (v / 64)) (m := m) x0 hm
    refine ⟨Int.tmod (bits .xor .i64 v (v / 64)) m, t0, t1, fun k hk => ?_⟩
    obtain ⟨k, rfl⟩ : ∃ q, k = q + 1 := ⟨k - 1, by omega⟩
    unfold spec_l1Rd_pick.f
    rw [if_neg n1, hb, e1]
    simp only [spec_l1Rd_pick.j0, Bool.false_eq_true, if_false, e2, e4]
    rw [if_neg hlt, if_neg (show ¬ (xs.length : Int) = 0 by omega), if_pos m1.1, if_pos m1.2, if_pos m2.1, if_pos m2.2, if_neg n2, hv, d1]
theorem text_l0 {xs : List Int} (h : Bytes xs) (d : Nat) : ∀ (acc : List Int) (p : Int), acc.length + d ≤ 1000 → 0 ≤ p → p + 3 * d ≤ 500000 →
    ∃ t q, t.size = acc.length + d ∧ p ≤ q ∧ q ≤ p + 3 * d ∧ ∀ k, d + 2 < k → spec_l15Text.l0 k acc (d : Int) xs p = some (t, q) := by
  induction d with
  | zero =>
    intro acc p ha hp0 hp1
    refine ⟨strOfNums acc, p, strOfNums_size acc, by omega, by omega, fun k hk => ?_⟩
    obtain ⟨k, rfl⟩ : ∃ m, k = m + 1 := ⟨k - 1, by omega⟩
    simp only [spec_l15Text.l0]
    rw [if_neg (by omega)]
  | succ d ih =>
    intro acc p ha hp0 hp1
    obtain ⟨r1, a1, b1, c1⟩ := pick_at h p 256 hp0 (by omega) (by omega)
    obtain ⟨r2, a2, b2, c2⟩ := pick_at h (p + 1) 4 (by omega) (by omega) (by omega)
    obtain ⟨r3, a3, b3, c3⟩ := pick_at h (p + 1 + 1) 5 (by omega) (by omega) (by omega)
    obtain ⟨t, q, ht, hq0, hq1, hk⟩ := ih (acc ++ [(rd [r1, r2, 85, 235, 144] r3) % 256]) (p + 1 + 1 + 1) (by rw [List.length_append, List.length_singleton]; omega) (by omega) (by omega)
    refine ⟨t, q, by rw [ht, List.length_append, List.length_singleton]; omega, by omega, by omega, fun k hkk => ?_⟩
    obtain ⟨k, rfl⟩ : ∃ m, k = m + 1 := ⟨k - 1, by omega⟩
    have e : wrap64 (((d + 1 : Nat) : Int) - 1) = (d : Int) := by rw [w64 (by omega) (by omega)]; omega
    simp only [spec_l15Text.l0]
    rw [if_pos (by omega), c1 k (by omega)]
    simp only [Option.bind_some]
    rw [c2 k (by omega)]
    simp only [Option.bind_some]
    rw [c3 k (by omega)]
    simp only [Option.bind_some]
    rw [if_pos a3, if_pos (by show r3 < 5; omega), if_pos (by omega), e]
    exact hk k (by omega)
/-- A text that is drawn: at most n bytes. -/
theorem text_at {xs : List Int} (h : Bytes xs) (p : Int) (n : Nat) (hp0 : 0 ≤ p) (hp1 : p ≤ 100000) (hn : n ≤ 900) :
    ∃ t q, t.size ≤ n ∧ p ≤ q ∧ q ≤ p + 1 + 3 * n ∧ ∀ k, n + 10 < k → spec_l15Text.f k xs p (n : Int) = some (t, q) := by
  obtain ⟨r, a, b, c⟩ := pick_at h p ((n : Int) + 1) hp0 (by omega) (by omega)
  obtain ⟨d, rfl⟩ := Int.eq_ofNat_of_zero_le a
  obtain ⟨t, q, ht, hq0, hq1, hk⟩ := text_l0 h d [] (p + 1) (by rw [List.length_nil]; omega) (by omega) (by omega)
  refine ⟨t, q, by rw [ht, List.length_nil]; omega, by omega, by omega, fun k hkk => ?_⟩
  unfold spec_l15Text.f
  rw [w64 (x := (n : Int) + 1) (by omega) (by omega), c k (by omega)]
  simp only [Option.bind_some]
  exact hk k (by omega)
theorem many_half {n : Int} (h0 : 0 ≤ n) (h1 : n ≤ 1000000) : wrap64 (Int.tdiv n 2) = n / 2 := by rw [tdivp h0, w64 (by omega) (by omega)]
theorem many_l0 (d : Nat) : ∀ (x acc : ByteArray) (n : Int), 0 ≤ n → n < 2 ^ d → n ≤ 1000000 → acc.size + x.size * 2 ^ (d + 1) ≤ 1000000000 + x.size → ∃ r, r.size = acc.size + n.toNat * x.size ∧ ∀ k, d < k → spec_l1Many.l0 k x n acc = some r := by
  induction d with
  | zero =>
    intro x acc n h0 h1 _ hB
    obtain rfl : n = 0 := by rw [Int.pow_zero] at h1; omega
    refine ⟨acc, by simp, fun k hk => ?_⟩
    obtain ⟨k, rfl⟩ : ∃ m, k = m + 1 := ⟨k - 1, by omega⟩
    simp only [spec_l1Many.l0]
    rw [if_neg (by decide)]
  | succ d ih =>
    intro x acc n h0 h1 hm hB
    have hp : (2 : Int) ^ (d + 1) = 2 ^ d * 2 := Int.pow_succ _ _
    have hx : x.size ≤ x.size * 2 ^ (d + 1) := Nat.le_mul_of_pos_right _ (Nat.pow_pos (by decide))
    have hq : x.size * 2 ^ (d + 1 + 1) = x.size * 2 ^ (d + 1) + x.size * 2 ^ (d + 1) := by rw [Nat.pow_succ 2 (d + 1), ← Nat.mul_assoc]; omega
    have hs2 : (x ++ x).size = x.size + x.size := ByteArray.size_append
    have hxx : (x ++ x).size * 2 ^ (d + 1) = x.size * 2 ^ (d + 1) + x.size * 2 ^ (d + 1) := by rw [hs2, Nat.add_mul]
    have hsa : (acc ++ x).size = acc.size + x.size := ByteArray.size_append
    have g1 : x.size + x.size ≤ 9223372036854775807 := by omega
    have g2 : acc.size + x.size ≤ 9223372036854775807 := by omega
    have m1 : 0 ≤ n / 2 := by omega
    have m2 : n / 2 < 2 ^ d := by omega
    have m3 : n / 2 ≤ 1000000 := by omega
    by_cases ho : n % 2 = 1
    · have hn : n > 0 := by omega
      obtain ⟨r, hr, hk2⟩ := ih (x ++ x) (acc ++ x) (n / 2) m1 m2 m3 (by rw [hxx, hsa]; omega)
      refine ⟨r, ?_, fun k hk => ?_⟩
      · have e : n.toNat = 2 * (n / 2).toNat + 1 := by omega
        have e2 : (2 * (n / 2).toNat + 1) * x.size = (n / 2).toNat * (x.size + x.size) + x.size := by rw [Nat.add_mul, Nat.mul_add, Nat.mul_assoc, Nat.one_mul, Nat.two_mul]
        rw [hr, hs2, hsa, e, e2]
        omega
      · obtain ⟨k, rfl⟩ : ∃ m, k = m + 1 := ⟨k - 1, by omega⟩
        have gk : d < k := by omega
        simp only [spec_l1Many.l0]
        rw [if_pos hn, tmodp h0, if_pos ho, if_pos g2, if_pos g1, many_half h0 hm]
        exact hk2 k gk
    · by_cases hn : n > 0
      · obtain ⟨r, hr, hk2⟩ := ih (x ++ x) acc (n / 2) m1 m2 m3 (by rw [hxx]; omega)
        refine ⟨r, ?_, fun k hk => ?_⟩
        · have e : n.toNat = 2 * (n / 2).toNat := by omega
          have e2 : (2 * (n / 2).toNat) * x.size = (n / 2).toNat * (x.size + x.size) := by rw [Nat.mul_add, Nat.mul_assoc, Nat.two_mul]
          rw [hr, hs2, e, e2]
        · obtain ⟨k, rfl⟩ : ∃ m, k = m + 1 := ⟨k - 1, by omega⟩
          have gk : d < k := by omega
          simp only [spec_l1Many.l0]
          rw [if_pos hn, tmodp h0, if_neg ho, if_pos g1, many_half h0 hm]
          exact hk2 k gk
      · obtain rfl : n = 0 := by omega
        refine ⟨acc, by simp, fun k hk => ?_⟩
        obtain ⟨k, rfl⟩ : ∃ m, k = m + 1 := ⟨k - 1, by omega⟩
        simp only [spec_l1Many.l0]
        rw [if_neg hn]
/-- One byte, so many times. -/
theorem many_at (x : ByteArray) (hx : x.size = 1) (n : Int) (h0 : 0 ≤ n) (h1 : n ≤ 1000) : ∃ r, r.size = n.toNat ∧ ∀ k, 10 < k → spec_l1Many.f k x n = some r := by
  have e : (2 : Int) ^ 10 = 1024 := by decide
  obtain ⟨r, hr, hk⟩ := many_l0 10 x (⟨#[]⟩ : ByteArray) n h0 (by omega) (by omega) (by rw [hx]; decide)
  refine ⟨r, ?_, fun k hkk => hk k hkk⟩
  rw [hr, hx, Nat.mul_one]
  show 0 + _ = _
  omega
theorem rdS_le {B : Nat} (l : List ByteArray) (h : ∀ a ∈ l, a.size ≤ B) (i : Int) : (rdOf ByteArray.empty l i).size ≤ B := by
  unfold rdOf
  rw [List.getD_eq_getElem?_getD]
  cases hx : l[i.toNat]? with
  | none => exact Nat.zero_le _
  | some x => exact h x (List.mem_of_getElem? hx)
theorem bt_pre (a b : ByteArray) (i : Nat) (h : i < a.size) : bt (a ++ b) (i : Int) = bt a (i : Int) := bt_left a b i h
theorem one_bt (x : Int) (h0 : 0 ≤ x) (h1 : x ≤ 255) : bt (HCltu.one x) ((0 : Nat) : Int) = x := by
  unfold HCltu.one
  rw [bt_str (fun y hy => by
    rw [List.mem_singleton] at hy
    rw [hy]
    omega)]
  show x % 256 = x
  omega
theorem bch_fin : bch (HCltu.fin.extract 0 7) ≠ bt HCltu.fin 7 := by decide +kernel
theorem fin_not (v : ByteArray → Int) (hv : ∀ s : ByteArray, s.size = 7 → v s = bch s) : ¬ HGet.okAt v HCltu.fin := fun h => bch_fin (by
  rw [← hv _ (HGet.seven h.1)]
  exact h.2)
theorem cut_left (a b : ByteArray) (n : Nat) (h : a.size = n) : (a ++ b).extract 0 n = a := ByteArray.extract_append_eq_left h.symm
theorem cut_right (a b : ByteArray) (n : Nat) (h : a.size = n) : (a ++ b).extract n (a ++ b).size = b := ByteArray.extract_append_eq_right h.symm ByteArray.size_append
/-- What was written is read: the blocks, and nothing of the end. -/
theorem blocks_runs (v : ByteArray → Int) (hv : ∀ s : ByteArray, s.size = 7 → v s = bch s) (m : Nat) : ∀ (K : Nat) (r : ByteArray), r.size = 7 * m → 8 * m + 8 ≤ K →
    HGet.cat (HGet.blocks v K (HCltu.runs v m r ++ HCltu.fin)) = r ∧ (HGet.blocks v K (HCltu.runs v m r ++ HCltu.fin)).length = m := by
  induction m with
  | zero =>
    intro K r hr hK
    have e0 : HCltu.runs v 0 r = (⟨#[]⟩ : ByteArray) := rfl
    rw [e0, str_nil_append, HGet.blocks_nil v (fin_not v hv)]
    refine ⟨?_, rfl⟩
    apply ByteArray.ext
    exact (Array.eq_empty_of_size_eq_zero hr).symm
  | succ m ih =>
    intro K r hr hK
    obtain ⟨h7, htl⟩ := HCltu.head7 hr
    obtain ⟨p, hp⟩ : ∃ p, r.extract 0 7 = p := ⟨_, rfl⟩
    obtain ⟨r', hr'⟩ : ∃ r', r.extract 7 r.size = r' := ⟨_, rfl⟩
    rw [hp] at h7
    rw [hr'] at htl
    have er : HCltu.runs v (m + 1) r = (p ++ HCltu.one (v p)) ++ HCltu.runs v m r' := by rw [← hp, ← hr']; rfl
    have hsz : (HCltu.runs v m r').size = 8 * m := runs_size v m r' htl
    have hf8 : HCltu.fin.size = 8 := rfl
    have hpo : (p ++ HCltu.one (v p)).size = 8 := by rw [ByteArray.size_append, HCltu.one_size, h7]
    obtain ⟨w, hw⟩ : ∃ w, HCltu.runs v m r' ++ HCltu.fin = w := ⟨_, rfl⟩
    have hws : w.size = 8 * m + 8 := by rw [← hw, ByteArray.size_append, hsz, hf8]
    have e1 : HCltu.runs v (m + 1) r ++ HCltu.fin = (p ++ HCltu.one (v p)) ++ w := by rw [er, ByteArray.append_assoc, hw]
    have e2 : HCltu.runs v (m + 1) r ++ HCltu.fin = p ++ (HCltu.one (v p) ++ w) := by rw [e1, ByteArray.append_assoc]
    obtain ⟨q, hq⟩ : ∃ q, HCltu.runs v (m + 1) r ++ HCltu.fin = q := ⟨_, rfl⟩
    rw [hq] at e1 e2 ⊢
    have hqs : q.size = 8 * m + 16 := by rw [e1, ByteArray.size_append, hpo, hws]; omega
    have c1 : q.extract 0 7 = p := by rw [e2]; exact cut_left _ _ _ h7
    have c2 : q.extract 8 q.size = w := by rw [e1]; exact cut_right _ _ _ hpo
    have hb := bch7 p h7
    have c3 : bt q 7 = bch p := by
      have hr := bt_right p (HCltu.one (v p) ++ w) 0
      rw [h7, Nat.add_zero, ← e2, bt_pre _ _ 0 (by rw [HCltu.one_size]; omega), hv p h7, one_bt _ hb.1 hb.2] at hr
      exact hr
    have hc := HGet.blocks_cons v (r := q) (k := K) (by omega) (by rw [c1, hv p h7, c3]) (by omega)
    obtain ⟨i1, i2⟩ := ih (K - 1) r' htl (by omega)
    rw [hw] at i1 i2
    rw [hc, cat_cons, c2, i1, List.length_cons, i2]
    refine ⟨?_, rfl⟩
    show q.extract 0 7 ++ r' = r
    rw [c1, ← hp, ← hr', ← ByteArray.extract_eq_extract_append_extract 7 (by omega) (by omega)]
    exact ByteArray.extract_zero_size
theorem back_at (v : ByteArray → Int) (hv : ∀ s : ByteArray, s.size = 7 → v s = bch s) (s : ByteArray) (h1 : 1 ≤ s.size) (h63 : s.size ≤ 63) : readOf v (HCltu.put v s) = HCltu.pad s ∧ (HCltu.put v s).size = 10 + 8 * ((s.size + 6) / 7) := by
  have hz := pad_size s
  have hm : (HCltu.pad s).size / 7 = (s.size + 6) / 7 := by omega
  have hM : (s.size + 6) / 7 ≤ 9 := by omega
  have e0 : HCltu.put v s = HCltu.start ++ (HCltu.runs v ((s.size + 6) / 7) (HCltu.pad s) ++ HCltu.fin) := by
    unfold HCltu.put
    rw [if_pos ⟨h1, h63⟩, hm, ByteArray.append_assoc]
  have hs2 : HCltu.start.size = 2 := rfl
  have hf8 : HCltu.fin.size = 8 := rfl
  have hrs := runs_size v ((s.size + 6) / 7) (HCltu.pad s) hz
  have hps : (HCltu.put v s).size = 10 + 8 * ((s.size + 6) / 7) := by rw [e0, ByteArray.size_append, ByteArray.size_append, hs2, hf8, hrs]; omega
  have c0 : (HCltu.put v s).extract 0 2 = HCltu.start := by rw [e0]; exact cut_left _ _ _ hs2
  have c1 : (HCltu.put v s).extract 2 (HCltu.put v s).size = HCltu.runs v ((s.size + 6) / 7) (HCltu.pad s) ++ HCltu.fin := by rw [e0]; exact cut_right _ _ _ hs2
  refine ⟨?_, hps⟩
  rw [readOf_yes v _ (by omega) c0, c1]
  have hb := blocks_runs v hv ((s.size + 6) / 7) (HCltu.runs v ((s.size + 6) / 7) (HCltu.pad s) ++ HCltu.fin).size (HCltu.pad s) hz (by rw [ByteArray.size_append, hrs, hf8]; omega)
  unfold HGet.taken
  rw [List.take_of_length_le (by rw [hb.2]; exact hM)]
  exact hb.1
theorem pad_left (s : ByteArray) : (HCltu.pad s).extract 0 s.size = s := by
  unfold HCltu.pad
  split
  · exact ByteArray.extract_zero_size
  · exact cut_left _ _ _ rfl
theorem pad_ge (s : ByteArray) : s.size ≤ (HCltu.pad s).size := by
  rw [pad_size]
  omega
theorem fill_bt (q i : Nat) (h : i < q) : bt (HCltu.fill q) (i : Int) = 85 := by
  induction q generalizing i with
  | zero => omega
  | succ q ih =>
    rw [fill_succ]
    cases i with
    | zero =>
      rw [bt_pre _ _ 0 (by decide)]
      decide
    | succ i =>
      have hr := bt_right (⟨#[85]⟩ : ByteArray) (HCltu.fill q) i
      rw [show (⟨#[85]⟩ : ByteArray).size = 1 from rfl, show 1 + i = i + 1 by omega, ih i (by omega)] at hr
      exact hr
theorem pad_bt (s : ByteArray) (i : Nat) (h : s.size ≤ i) (h2 : i < (HCltu.pad s).size) : bt (HCltu.pad s) (i : Int) = 85 := by
  unfold HCltu.pad at h2 ⊢
  split
  · rename_i hc
    rw [if_pos hc] at h2
    omega
  · rename_i hc
    rw [if_neg hc, ByteArray.size_append, HCltu.fill_size] at h2
    obtain ⟨j, rfl⟩ : ∃ j, i = s.size + j := ⟨i - s.size, by omega⟩
    rw [bt_right, fill_bt _ _ (by omega)]
theorem drawCltuPut (l : List Int) (hl : l.length ≤ 140737488351232) (hw : ∀ x ∈ l, (Lit.int .u8 x).wf = true) : ∃ s, ∀ k, 100 ≤ k → spec_DrawCltuPut.f k l = some s := by
  obtain ⟨ho, hB⟩ := open_at l hl hw
  obtain ⟨t, q, _, q0, q1, hk⟩ := text_at hB 0 63 (by omega) (by omega) (by omega)
  obtain ⟨a, a0, a1, ha⟩ := pick_at hB q 2 (by omega) (by omega) (by omega)
  have ew : wrap64 (63 + a) = 63 + a := w64 (by omega) (by omega)
  obtain ⟨z, _, hz⟩ := many_at (⟨#[122]⟩ : ByteArray) rfl (63 + a) (by omega) (by omega)
  obtain ⟨b, b0, b1, hb⟩ := pick_at hB (q + 1) 12 (by omega) (by omega) (by omega)
  have eb : wrap64 (Int.tdiv (wrap64 (b * 3)) 12) = b * 3 / 12 := by rw [w64 (x := b * 3) (by omega) (by omega), tdivp (by omega), w64 (by omega) (by omega)]
  refine ⟨rdOf ByteArray.empty [t, z, (⟨#[]⟩ : ByteArray)] (b * 3 / 12), fun k hkk => ?_⟩
  unfold spec_DrawCltuPut.f
  have h63 := hk k (by omega)
  have e63 : ((63 : Nat) : Int) = 63 := rfl
  have g1 : 0 ≤ b * 3 / 12 := by omega
  have g2 : b * 3 / 12 < (([t, z, (⟨#[]⟩ : ByteArray)] : List ByteArray).length : Int) := by show b * 3 / 12 < 3; omega
  rw [e63] at h63
  rw [ho]
  simp only [Option.bind_some]
  rw [h63]
  simp only [Option.bind_some]
  rw [ha k (by omega)]
  simp only [Option.bind_some]
  rw [ew, hz k (by omega)]
  simp only [Option.bind_some]
  rw [hb k (by omega)]
  simp only [Option.bind_some]
  rw [eb, if_pos g1, if_pos g2]
theorem run_head (v : ByteArray → Int) (hv : ∀ s : ByteArray, s.size = 7 → v s = bch s) (m : Nat) (r q : ByteArray) (hr : r.size = 7 * (m + 1)) (hq : HCltu.runs v (m + 1) r ++ HCltu.fin = q) :
    q.size = 8 * m + 16 ∧ (r.extract 0 7).size = 7 ∧ (r.extract 7 r.size).size = 7 * m ∧ q.extract 0 7 = r.extract 0 7 ∧ q.extract 8 q.size = HCltu.runs v m (r.extract 7 r.size) ++ HCltu.fin ∧ bt q ((7 : Nat) : Int) = bch (r.extract 0 7) := by
  obtain ⟨h7, htl⟩ := HCltu.head7 hr
  refine ⟨?_, h7, htl, ?_⟩
  · rw [← hq, ByteArray.size_append, runs_size v (m + 1) r hr]
    show 8 * (m + 1) + 8 = _
    omega
  obtain ⟨p, hp⟩ : ∃ p, r.extract 0 7 = p := ⟨_, rfl⟩
  obtain ⟨r', hr'⟩ : ∃ r', r.extract 7 r.size = r' := ⟨_, rfl⟩
  rw [hp] at h7 ⊢
  rw [hr'] at htl ⊢
  have er : HCltu.runs v (m + 1) r = (p ++ HCltu.one (v p)) ++ HCltu.runs v m r' := by rw [← hp, ← hr']; rfl
  have hpo : (p ++ HCltu.one (v p)).size = 8 := by rw [ByteArray.size_append, HCltu.one_size, h7]
  obtain ⟨w, hw⟩ : ∃ w, HCltu.runs v m r' ++ HCltu.fin = w := ⟨_, rfl⟩
  have e1 : q = (p ++ HCltu.one (v p)) ++ w := by rw [← hq, er, ByteArray.append_assoc, hw]
  have e2 : q = p ++ (HCltu.one (v p) ++ w) := by rw [e1, ByteArray.append_assoc]
  have hb := bch7 p h7
  refine ⟨by rw [e2]; exact cut_left _ _ _ h7, by rw [hw, e1]; exact cut_right _ _ _ hpo, ?_⟩
  have hr := bt_right p (HCltu.one (v p) ++ w) 0
  rw [h7, Nat.add_zero, ← e2, bt_pre _ _ 0 (by rw [HCltu.one_size]; omega), hv p h7, one_bt _ hb.1 hb.2] at hr
  exact hr
theorem bt_cut8 (a : Nat) (r : ByteArray) (n : Nat) : bt (r.extract a r.size) (n : Int) = bt r ((a + n : Nat) : Int) := by
  by_cases h : a + n < r.size
  · exact Num.bt_extract r a r.size n (by omega) (Nat.le_refl _)
  · rw [bt_of_le _ _ (by rw [ByteArray.size_extract]; omega), bt_of_le _ _ (by omega)]
theorem bt_head (b : Nat) (r : ByteArray) (hb : b ≤ r.size) (n : Nat) (hn : n < b) : bt (r.extract 0 b) (n : Int) = bt r (n : Int) := by
  have h := Num.bt_extract r 0 b n (by omega) hb
  rw [Nat.zero_add] at h
  exact h
theorem xor_ne (a x : Nat) (hx : 1 ≤ x) : a ^^^ x ≠ a := by
  intro h
  have h2 : a ^^^ (a ^^^ x) = a ^^^ a := by rw [h]
  rw [← Nat.xor_assoc, Nat.xor_self, Nat.zero_xor] at h2
  omega
theorem bch_inj : ∀ a b : Fin 128, (a.1 ^^^ 127) * 2 = (b.1 ^^^ 127) * 2 → a = b := by decide +kernel
theorem bch_ne {s u : ByteArray} (hs : s.size = 7) (hu : u.size = 7) (h : bst s 56 ≠ bst u 56) : bch u ≠ bch s := by
  intro e
  unfold bch at e
  rw [if_pos hs, if_pos hu] at e
  exact h (congrArg Fin.val (bch_inj ⟨bst u 56, bst_lt u 56⟩ ⟨bst s 56, bst_lt s 56⟩ (by dsimp only; omega))).symm
/-- One byte of one of the blocks is turned: what stood ahead of that block is read. -/
theorem spoiled (v : ByteArray → Int) (hv : ∀ s : ByteArray, s.size = 7 → v s = bch s) (x i : Nat) (hx1 : 1 ≤ x) (hx : x < 128) (hi : i < 8) (j : Nat) : ∀ (m K : Nat) (p q q' : ByteArray), j < m → p.size = 7 * m → HCltu.runs v m p ++ HCltu.fin = q → q'.size = q.size →
    (bt q' ((8 * j + i : Nat) : Int)).toNat = (bt q ((8 * j + i : Nat) : Int)).toNat ^^^ x → (∀ n : Nat, n ≠ 8 * j + i → bt q' (n : Int) = bt q (n : Int)) → q.size ≤ K →
    HGet.cat (HGet.blocks v K q') = p.extract 0 (7 * j) ∧ (HGet.blocks v K q').length = j := by
  induction j with
  | zero =>
    intro m K p q q' hj hp hq hs hb ho hK
    obtain ⟨m, rfl⟩ : ∃ n, m = n + 1 := ⟨m - 1, by omega⟩
    obtain ⟨z1, z2, z3, z4, z5, z6⟩ := run_head v hv m p q hp hq
    rw [show 8 * 0 + i = i by omega] at hb ho
    have hno : ¬ HGet.okAt v q' := by
      intro h
      obtain ⟨h8, h2⟩ := h
      have h7 : (q'.extract 0 7).size = 7 := HGet.seven h8
      have hq7 : (q.extract 0 7).size = 7 := by rw [z4]; exact z2
      rw [hv _ h7] at h2
      by_cases e : i = 7
      · subst e
        have es : q'.extract 0 7 = q.extract 0 7 := str_ext (by rw [h7, hq7]) fun n hn => by
          rw [h7] at hn
          rw [bt_head 7 q' (by omega) n hn, bt_head 7 q (by omega) n hn]
          exact ho n (by omega)
        have h3 : bt q' ((7 : Nat) : Int) = bt q ((7 : Nat) : Int) := by
          rw [z6, ← z4, ← es]
          exact h2.symm
        rw [h3] at hb
        exact xor_ne _ x hx1 hb.symm
      · have h3 : bt q' ((7 : Nat) : Int) = bt q ((7 : Nat) : Int) := ho 7 (by omega)
        rw [z6] at h3
        have hne := bst_turned (q.extract 0 7) (q'.extract 0 7) i x hx1 hx (by omega) (by rw [bt_head 7 q' (by omega) i (by omega), bt_head 7 q (by omega) i (by omega)]; exact hb) (fun n hn hne => by rw [bt_head 7 q' (by omega) n hn, bt_head 7 q (by omega) n hn]; exact ho n hne)
        refine bch_ne hq7 h7 hne ?_
        rw [z4, ← h3]
        exact h2
    rw [HGet.blocks_nil v hno]
    refine ⟨?_, rfl⟩
    apply ByteArray.ext
    symm
    apply Array.eq_empty_of_size_eq_zero
    show (p.extract 0 (7 * 0)).size = 0
    rw [ByteArray.size_extract]
    omega
  | succ j ih =>
    intro m K p q q' hj hp hq hs hb ho hK
    obtain ⟨m, rfl⟩ : ∃ n, m = n + 1 := ⟨m - 1, by omega⟩
    obtain ⟨z1, z2, z3, z4, z5, z6⟩ := run_head v hv m p q hp hq
    have h8 : 8 ≤ q'.size := by omega
    have h7 : (q'.extract 0 7).size = 7 := HGet.seven h8
    have hq7 : (q.extract 0 7).size = 7 := by rw [z4]; exact z2
    have es : q'.extract 0 7 = q.extract 0 7 := str_ext (by rw [h7, hq7]) fun n hn => by
      rw [h7] at hn
      rw [bt_head 7 q' (by omega) n hn, bt_head 7 q (by omega) n hn]
      exact ho n (by omega)
    have h3 : bt q' ((7 : Nat) : Int) = bt q ((7 : Nat) : Int) := ho 7 (by omega)
    have hok : v (q'.extract 0 7) = bt q' 7 := by
      rw [es, z4, hv _ z2]
      exact (h3.trans z6).symm
    have hc := HGet.blocks_cons v (r := q') (k := K) h8 hok (by omega)
    obtain ⟨i1, i2⟩ := ih m (K - 1) (p.extract 7 p.size) (q.extract 8 q.size) (q'.extract 8 q'.size) (by omega) z3 z5.symm (by rw [ByteArray.size_extract, ByteArray.size_extract, hs]) (by
        rw [bt_cut8, bt_cut8, show 8 + (8 * j + i) = 8 * (j + 1) + i by omega]
        exact hb) (fun n hn => by
        rw [bt_cut8, bt_cut8]
        exact ho _ (by omega)) (by rw [ByteArray.size_extract]; omega)
    rw [hc, cat_cons, i1, List.length_cons, i2]
    refine ⟨?_, rfl⟩
    show q'.extract 0 7 ++ (p.extract 7 p.size).extract 0 (7 * j) = p.extract 0 (7 * (j + 1))
    rw [es, z4, ByteArray.extract_extract, show 7 + 0 = 7 from rfl, show min (7 + 7 * j) p.size = 7 * (j + 1) by omega]
    exact (ByteArray.extract_eq_extract_append_extract 7 (by omega) (by omega)).symm
theorem xor_fin : ∀ (a : Fin 256) (m : Fin 128), bits .xor .u8 (a.1 : Int) (m.1 : Int) = ((a.1 ^^^ m.1 : Nat) : Int) := by decide +kernel
theorem turned_at (s : ByteArray) (k m : Nat) (hk : k < s.size) (hm : m < 128) : (HSpoil.turned s k (m : Int)).size = s.size ∧ (bt (HSpoil.turned s k (m : Int)) (k : Int)).toNat = (bt s (k : Int)).toNat ^^^ m ∧ ∀ i, i ≠ k → bt (HSpoil.turned s k (m : Int)) (i : Int) = bt s (i : Int) := by
  have hl := bytesOf_length s
  have hg : (bytesOf s).getD k 0 = bt s (k : Int) := by rw [bt_eq, List.getD_eq_getElem?_getD]
  have hb := bt_range s (k : Int)
  have hx := xor_fin ⟨(bt s (k : Int)).toNat, by omega⟩ ⟨m, hm⟩
  have e : (((bt s (k : Int)).toNat : Nat) : Int) = bt s (k : Int) := by omega
  simp only [e] at hx
  have hy : (bt s (k : Int)).toNat ^^^ m < 256 := Nat.xor_lt_two_pow (n := 8) (by omega) (by omega)
  have hA : AllBytes ((bytesOf s).set k (bits .xor .u8 ((bytesOf s).getD k 0) (m : Int))) := by
    intro x hx2
    rcases List.mem_or_eq_of_mem_set hx2 with h | h
    · exact allBytes_of s x h
    · rw [h, hg, hx]
      omega
  refine ⟨by rw [HSpoil.turned, strOfNums_size, List.length_set, hl], ?_, fun i hi => ?_⟩
  · rw [HSpoil.turned, bt_str hA, List.getElem?_set_self (by omega), hg, hx]
    rfl
  · rw [HSpoil.turned, bt_str hA, List.getElem?_set_ne (fun h => hi h.symm), bt_eq]
/-- What was spoilt a little is not read: less, and a beginning. -/
theorem spoil_read (v : ByteArray → Int) (hv : ∀ s : ByteArray, s.size = 7 → v s = bch s) (s : ByteArray) (h1 : 1 ≤ s.size) (h63 : s.size ≤ 63) (k x : Nat) (hx1 : 1 ≤ x) (hx : x < 128) (hk : k < (HCltu.put v s).size - 8) :
    (readOf v (HSpoil.turned (HCltu.put v s) k (x : Int))).size < (HCltu.pad s).size ∧ (HCltu.pad s).extract 0 (readOf v (HSpoil.turned (HCltu.put v s) k (x : Int))).size = readOf v (HSpoil.turned (HCltu.put v s) k (x : Int)) := by
  have hz := pad_size s
  obtain ⟨_, hps⟩ := back_at v hv s h1 h63
  have hm : (HCltu.pad s).size / 7 = (s.size + 6) / 7 := by omega
  obtain ⟨M, hM⟩ : ∃ M, (s.size + 6) / 7 = M := ⟨_, rfl⟩
  rw [hM] at hz hps hm
  have e0 : HCltu.put v s = HCltu.start ++ (HCltu.runs v M (HCltu.pad s) ++ HCltu.fin) := by
    unfold HCltu.put
    rw [if_pos ⟨h1, h63⟩, hm, ByteArray.append_assoc]
  have hs2 : HCltu.start.size = 2 := rfl
  obtain ⟨X, hX⟩ : ∃ X, HCltu.put v s = X := ⟨_, rfl⟩
  rw [hX] at e0 hps hk ⊢
  have c0 : X.extract 0 2 = HCltu.start := by rw [e0]; exact cut_left _ _ _ hs2
  have c1 : X.extract 2 X.size = HCltu.runs v M (HCltu.pad s) ++ HCltu.fin := by rw [e0]; exact cut_right _ _ _ hs2
  obtain ⟨t1, t2, t3⟩ := turned_at X k x (by omega) hx
  generalize HSpoil.turned X k (x : Int) = T at t1 t2 t3 ⊢
  by_cases c : k < 2
  · have hne : ¬ (2 ≤ T.size ∧ T.extract 0 2 = (⟨#[235, 144]⟩ : ByteArray)) := by
      intro h
      have h2 : T.extract 0 2 = X.extract 0 2 := h.2.trans c0.symm
      have h3 : bt (T.extract 0 2) (k : Int) = bt (X.extract 0 2) (k : Int) := by rw [h2]
      rw [bt_head 2 T (by omega) k c, bt_head 2 X (by omega) k c] at h3
      rw [h3] at t2
      exact xor_ne _ x hx1 t2.symm
    rw [readOf_no v T hne]
    refine ⟨by show 0 < _; omega, ?_⟩
    apply ByteArray.ext
    apply Array.eq_empty_of_size_eq_zero
    show ((HCltu.pad s).extract 0 0).size = 0
    rw [ByteArray.size_extract]
    omega
  · have h2 : T.extract 0 2 = (⟨#[235, 144]⟩ : ByteArray) := by
      refine Eq.trans ?_ c0
      refine str_ext (by rw [ByteArray.size_extract, ByteArray.size_extract, t1]) fun n hn => ?_
      rw [ByteArray.size_extract] at hn
      rw [bt_head 2 T (by omega) n (by omega), bt_head 2 X (by omega) n (by omega)]
      exact t3 n (by omega)
    rw [readOf_yes v T (by omega) h2]
    obtain ⟨d, hd⟩ : ∃ d, k = 2 + d := ⟨k - 2, by omega⟩
    have hq : (X.extract 2 X.size).size = X.size - 2 := by rw [ByteArray.size_extract]; omega
    have hq' : (T.extract 2 T.size).size = X.size - 2 := by rw [ByteArray.size_extract]; omega
    have hdd : 8 * (d / 8) + d % 8 = d := by omega
    obtain ⟨r1, r2⟩ := spoiled v hv x (d % 8) hx1 hx (by omega) (d / 8) M (T.extract 2 T.size).size (HCltu.pad s) (X.extract 2 X.size) (T.extract 2 T.size) (by omega) hz c1.symm (by rw [hq, hq']) (by
      rw [hdd, bt_cut8, bt_cut8, ← hd]
      exact t2) (fun n hn => by
      rw [bt_cut8, bt_cut8]
      exact t3 _ (by omega)) (by omega)
    have hlen : d / 8 < M := by omega
    unfold HGet.taken
    rw [List.take_of_length_le (by omega), r1]
    have hzz : ((HCltu.pad s).extract 0 (7 * (d / 8))).size = 7 * (d / 8) := by rw [ByteArray.size_extract]; omega
    rw [hzz]
    exact ⟨by omega, rfl⟩
theorem bnd {α β : Type} {o : Option α} {f : α → Option β} {b : β} (a : α) (h : o = some a) (h2 : f a = some b) : o.bind f = some b := Option.bind_eq_some_iff.2 ⟨a, h, h2⟩
end FnCltuSpoilL
open FnCltuSpoilL

theorem FnCltuSpoil : laws_FnCltuSpoil.Pure := by
  intro l0 l1 hl0 hm0 hw0 hl1 hm1 hw1
  refine ⟨500, ?_⟩
  unfold laws_FnCltuSpoil.f
  by_cases hlen : l0.length > 1048576 ∨ l1.length > 1048576
  · rw [if_pos hlen]
  rw [if_neg hlen]
  obtain ⟨s, hd⟩ := drawCltuPut l0 (by omega) hw0
  have hb : ∀ k, 200 ≤ k → ∀ s : ByteArray, s.size = 7 → impl_CltuPut.v k s = bch s := fun k hk s hs => by
    unfold impl_CltuPut.v
    rw [if_pos hs, implBch_at k hk s]
    rfl
  have hg : ∀ k, 200 ≤ k → ∀ s : ByteArray, s.size = 7 → impl_CltuGet.v k s = bch s := fun k hk s hs => by
    unfold impl_CltuGet.v
    rw [if_pos hs, implBch_at k hk s]
    rfl
  have hvv : ∀ k, 200 ≤ k → impl_CltuGet.v k = impl_CltuPut.v 500 := fun k hk => by
    funext s
    by_cases hs : s.size = 7
    · rw [hg k hk s hs, hb 500 (by decide) s hs]
    · unfold impl_CltuGet.v impl_CltuPut.v
      rw [if_neg hs, if_neg hs]
  obtain ⟨v, hv0⟩ : ∃ v, impl_CltuPut.v 500 = v := ⟨_, rfl⟩
  have hv : ∀ s : ByteArray, s.size = 7 → v s = bch s := by rw [← hv0]; exact hb 500 (by decide)
  have hput : impl_CltuPut.f 500 s = some (HCltu.put v s) := by
    unfold impl_CltuPut.f
    rw [if_pos (fun s _ => ⟨_, implBch_at 500 (by decide) s⟩), hv0]
  have hread : ∀ k, 200 ≤ k → ∀ t, impl_CltuRead.f k t = some (readOf v t) := fun k hk t => by rw [implRead_at k hk t, hvv k hk, hv0]
  refine bnd _ (hd 500 (by decide)) (bnd _ hput (bnd _ (cltuPut_at 500 (by decide) v hv s) ((if_pos rfl).trans ?_)))
  by_cases h : 1 ≤ s.size ∧ s.size ≤ 63
  · obtain ⟨hr, hz⟩ := back_at v hv s h.1 h.2
    obtain ⟨x, hx⟩ : ∃ x : Nat, (x : Int) = 1 + (l1.length : Int) % 127 := ⟨1 + l1.length % 127, by omega⟩
    have hx0 : 1 ≤ x ∧ x < 128 := by omega
    have hk : (l1.length * 7 + l0.length) % ((HCltu.put v s).size - 8) < (HCltu.put v s).size - 8 := Nat.mod_lt _ (by omega)
    obtain ⟨a1, a2⟩ := spoil_read v hv s h.1 h.2 _ x hx0.1 hx0.2 hk
    rw [if_neg (by omega), if_pos (by omega), ← hx]
    refine bnd _ (hread 500 (by decide) _) (bnd _ (hread 500 (by decide) _) (if_pos ?_))
    rw [hr]
    exact ⟨a1, a2⟩
  · have he : HCltu.put v s = (⟨#[]⟩ : ByteArray) := by
      unfold HCltu.put
      rw [if_neg h]
    rw [he]
    exact if_pos rfl

end Go.Proofs.Ytiknnbjfpdeieaa.Pure
