/- FnCltuGet: only code blocks that are right are read. No conditions but that what comes is such as a machine holds. -/
import Derived.Test.YtiknnbjfpdeieaaPFnCltuGetx3
import Derived.Test.YtiknnbjfpdeieaaHGet2
import Derived.Test.YtiknnbjfpdeieaaHCltu
import Derived.Test.YtiknnbjfpdeieaaHSpoil
import Derived.Test.YtiknnbjfpdeieaaBt
namespace Go.Proofs.Ytiknnbjfpdeieaa.Pure
open Go Go.RowKit Go.Proofs.Ytiknnbjfpdeieaa.PFnCltuGet Go.Proofs.YtiknnbjfpdeieaaW.PrintWords Go.Proofs.YtiknnbjfpdeieaaW.PrintLast Go.Proofs.YtiknnbjfpdeieaaW.PrintMore Go.Proofs.Ytiknnbjfpdeieaa.Aux Go.Proofs.Ytiknnbjfpdeieaa.Bt

namespace FnCltuGetL
/-- The parity's seven bits behind one more bit. -/
def bstep (s b : Nat) : Nat := if s / 64 = b then s * 2 % 128 else (s * 2 % 128) ^^^ 69
theorem bstep_lt : ∀ (s : Fin 128) (b : Fin 2), bstep s.1 b.1 < 128 := by decide +kernel
theorem next_fin : ∀ (s : Fin 128) (b : Fin 2), impl_parity_next.f (s.1 : Int) (b.1 : Int) = some ((bstep s.1 b.1 : Nat) : Int) := by decide +kernel
theorem spec_fin : ∀ (s : Fin 128) (b : Fin 2), (if bits .xor .i64 ((s.1 : Int) / 64) (b.1 : Int) = 1 then bits .xor .i64 (bits .and .i64 (wrap64 ((s.1 : Int) * 2)) 127) 69 else bits .and .i64 (wrap64 ((s.1 : Int) * 2)) 127) = ((bstep s.1 b.1 : Nat) : Int) := by decide +kernel
theorem bit_fin : ∀ (v : Fin 256) (b : Fin 8), bits .and .u8 (shr .u8 (v.1 : Int) (b.1 : Int)) 1 = ((v.1 / 2 ^ b.1 % 2 : Nat) : Int) ∧ bits .and .i64 (shr .i64 (v.1 : Int) (b.1 : Int)) 1 = ((v.1 / 2 ^ b.1 % 2 : Nat) : Int) := by decide +kernel
/-- Bit t of a text, the highest bit of each byte first. -/
def bitAt (s : ByteArray) (t : Nat) : Nat := (bt s ((t / 8 : Nat) : Int)).toNat / 2 ^ (7 - t % 8) % 2
/-- The parity behind t bits of a text. -/
def bst (s : ByteArray) : Nat → Nat
  | 0 => 0
  | t + 1 => bstep (bst s t) (bitAt s t)
theorem bitAt_lt (s : ByteArray) (t : Nat) : bitAt s t < 2 := Nat.mod_lt _ (by decide)
theorem bst_lt (s : ByteArray) (t : Nat) : bst s t < 128 := by
  induction t with
  | zero => exact Nat.zero_lt_of_lt (Nat.lt_succ_self 127)
  | succ t ih => exact bstep_lt ⟨_, ih⟩ ⟨_, bitAt_lt s t⟩
theorem bit_at (s : ByteArray) (t : Nat) : bits .and .u8 (shr .u8 (bt s ((t / 8 : Nat) : Int)) ((7 - t % 8 : Nat) : Int)) 1 = ((bitAt s t : Nat) : Int) ∧ bits .and .i64 (shr .i64 (bt s ((t / 8 : Nat) : Int)) ((7 - t % 8 : Nat) : Int)) 1 = ((bitAt s t : Nat) : Int) := by
  have hb := bt_range s ((t / 8 : Nat) : Int)
  have h := bit_fin ⟨(bt s ((t / 8 : Nat) : Int)).toNat, by omega⟩ ⟨7 - t % 8, by omega⟩
  have e : (((bt s ((t / 8 : Nat) : Int)).toNat : Nat) : Int) = bt s ((t / 8 : Nat) : Int) := by omega
  simp only [e] at h
  exact h
theorem next_at (s : ByteArray) (t : Nat) : impl_parity_next.f ((bst s t : Nat) : Int) ((bitAt s t : Nat) : Int) = some ((bst s (t + 1) : Nat) : Int) := next_fin ⟨_, bst_lt s t⟩ ⟨_, bitAt_lt s t⟩
theorem over_step (k t : Nat) (s : ByteArray) (hs : s.size = 7) (ht : t < 56) :
    impl_parity_over.l1 (k + 1) ((bst s t : Nat) : Int) s ((t / 8 : Nat) : Int) ((7 - t % 8 : Nat) : Int) = impl_parity_over.l1 k ((bst s (t + 1) : Nat) : Int) s ((t / 8 : Nat) : Int) (((7 - t % 8 : Nat) : Int) - 1) := by
  simp only [impl_parity_over.l1]
  rw [if_pos (by omega), if_pos (by omega), if_pos (by omega), if_pos (by omega), (bit_at s t).1, next_at]
  simp only [Option.bind_some]
  rw [w64 (by omega) (by omega)]
/-- The program's two loops. -/
theorem over_l1 (n : Nat) (hn : n = 56) (d : Nat) : ∀ (k t : Nat) (s : ByteArray), 3 * d + 3 ≤ k → s.size = 7 → t + (d + 1) = n →
    impl_parity_over.l1 k ((bst s t : Nat) : Int) s ((t / 8 : Nat) : Int) ((7 - t % 8 : Nat) : Int) = some ((bst s n : Nat) : Int) := by
  induction d with
  | zero =>
    intro k t s hk hs ht
    obtain ⟨k, rfl⟩ : ∃ m, k = m + 3 := ⟨k - 3, by omega⟩
    obtain rfl : n = t + 1 := by omega
    rw [over_step (k + 2) t s hs (by omega)]
    simp only [impl_parity_over.l1]
    rw [if_neg (by omega), w64 (by omega) (by omega)]
    simp only [impl_parity_over.l0]
    rw [if_neg (by omega)]
  | succ d ih =>
    intro k t s hk hs ht
    obtain ⟨k, rfl⟩ : ∃ m, k = m + 3 := ⟨k - 3, by omega⟩
    rw [over_step (k + 2) t s hs (by omega)]
    by_cases h : t % 8 = 7
    · simp only [impl_parity_over.l1]
      rw [if_neg (by omega), w64 (by omega) (by omega)]
      simp only [impl_parity_over.l0]
      rw [if_pos (by omega)]
      have e1 : ((t / 8 : Nat) : Int) + 1 = (((t + 1) / 8 : Nat) : Int) := by omega
      have e2 : (7 : Int) = ((7 - (t + 1) % 8 : Nat) : Int) := by omega
      rw [e1, e2]
      exact ih k (t + 1) s (by omega) hs (by omega)
    · have e1 : ((t / 8 : Nat) : Int) = (((t + 1) / 8 : Nat) : Int) := by omega
      have e2 : ((7 - t % 8 : Nat) : Int) - 1 = ((7 - (t + 1) % 8 : Nat) : Int) := by omega
      rw [e1, e2]
      exact ih (k + 2) (t + 1) s (by omega) hs (by omega)
theorem over_at (k : Nat) (hk : 200 ≤ k) (s : ByteArray) (hs : s.size = 7) : impl_parity_over.f k 0 s = some ((bst s 56 : Nat) : Int) := by
  obtain ⟨k, rfl⟩ : ∃ m, k = m + 1 := ⟨k - 1, by omega⟩
  unfold impl_parity_over.f
  simp only [impl_parity_over.l0]
  rw [if_pos (by omega)]
  exact over_l1 56 rfl 55 k 0 s (by omega) hs (by omega)
theorem idx1 {t : Nat} (ht : t < 56) : wrap64 (Int.tdiv (t : Int) 8) = ((t / 8 : Nat) : Int) := by
  rw [tdivp (by omega), w64 (by omega) (by omega)]
  omega
theorem idx2 {t : Nat} (ht : t < 56) : wrap64 (7 - Int.tmod (t : Int) 8) = ((7 - t % 8 : Nat) : Int) := by
  rw [tmodp (by omega), w64 (by omega) (by omega)]
  omega
theorem idx3 {t : Nat} (ht : t < 56) : wrap64 ((t : Int) + 1) = ((t + 1 : Nat) : Int) := by
  rw [w64 (by omega) (by omega)]
  omega
theorem idx4 (s : ByteArray) (p : Int) : wrap64 (bt s p) = bt s p := by
  have hb := bt_range s p
  exact w64 (by omega) (by omega)
theorem bch_step (k t : Nat) (s : ByteArray) (hs : s.size = 7) (ht : t < 56) :
    spec_Bch.l0 (k + 1) s ((bst s t : Nat) : Int) (t : Int) = spec_Bch.l0 k s ((bst s (t + 1) : Nat) : Int) ((t + 1 : Nat) : Int) := by
  have p1 : (t : Int) < 56 := by omega
  have p2 : 0 ≤ ((t / 8 : Nat) : Int) := by omega
  have p3 : ((t / 8 : Nat) : Int) < (s.size : Int) := by omega
  have p4 : 0 ≤ ((7 - t % 8 : Nat) : Int) := by omega
  simp only [spec_Bch.l0]
  rw [if_pos p1, idx1 ht, idx2 ht, if_pos p2, if_pos p3, if_pos p4, idx4, (bit_at s t).2, idx3 ht]
  have h := spec_fin ⟨bst s t, bst_lt s t⟩ ⟨bitAt s t, bitAt_lt s t⟩
  dsimp only at h
  rw [show bstep (bst s t) (bitAt s t) = bst s (t + 1) from rfl] at h
  by_cases c : bits .xor .i64 (((bst s t : Nat) : Int) / 64) ((bitAt s t : Nat) : Int) = 1
  · rw [if_pos c] at h
    rw [if_pos c, h]
  · rw [if_neg c] at h
    rw [if_neg c, h]
/-- The reference's loop. -/
theorem bch_l0 (n : Nat) (hn : n = 56) (d : Nat) : ∀ (k t : Nat) (s : ByteArray), d < k → s.size = 7 → t + d = n →
    spec_Bch.l0 k s ((bst s t : Nat) : Int) (t : Int) = some (wrap64 ((bits .xor .i64 ((bst s n : Nat) : Int) 127) * 2)) := by
  induction d with
  | zero =>
    intro k t s hk hs ht
    obtain ⟨k, rfl⟩ : ∃ m, k = m + 1 := ⟨k - 1, by omega⟩
    obtain rfl : n = t := by omega
    simp only [spec_Bch.l0]
    rw [if_neg (by omega)]
  | succ d ih =>
    intro k t s hk hs ht
    obtain ⟨k, rfl⟩ : ∃ m, k = m + 1 := ⟨k - 1, by omega⟩
    rw [bch_step k t s hs (by omega)]
    exact ih k (t + 1) s (by omega) hs (by omega)
theorem last_fin : ∀ (s : Fin 128), wrap64 ((bits .xor .i64 (s.1 : Int) 127) * 2) = (((s.1 ^^^ 127) * 2 : Nat) : Int) ∧ wrap64 ((wrap64 (bits .xor .u8 (s.1 : Int) 127)) * 2) = (((s.1 ^^^ 127) * 2 : Nat) : Int) := by decide +kernel
/-- Bch's answer. -/
def bch (s : ByteArray) : Int := if s.size = 7 then (((bst s 56 ^^^ 127) * 2 : Nat) : Int) else -1
theorem implBch_at (k : Nat) (hk : 200 ≤ k) (s : ByteArray) : impl_Bch.f k s = some (bch s) := by
  unfold impl_Bch.f bch
  by_cases hs : s.size = 7
  · rw [if_pos (by omega), if_pos hs, over_at k hk s hs]
    simp only [Option.bind_some]
    rw [(last_fin ⟨bst s 56, bst_lt s 56⟩).2]
  · rw [if_neg (by omega), if_neg hs]
theorem specBch_at (k : Nat) (hk : 60 ≤ k) (s : ByteArray) : spec_Bch.f k s = some (bch s) := by
  unfold spec_Bch.f bch
  by_cases hs : s.size = 7
  · rw [if_pos (by omega), if_pos hs]
    have h := bch_l0 56 rfl 56 k 0 s (by omega) hs (by omega)
    rw [(last_fin ⟨bst s 56, bst_lt s 56⟩).1] at h
    exact h
  · rw [if_neg (by omega), if_neg hs]
theorem l1Put_l0 (d : Nat) : ∀ (k : Nat) (n size i : Int) (out : ByteArray), d < k → 0 ≤ n → n ≤ 9223372036854775807 → 0 ≤ i → size ≤ 4 → size - i = d → out.size ≤ 4 - d →
    spec_l1Put.l0 k n size out i = some (strOfNums (be d n) ++ out) := by
  induction d with
  | zero =>
    intro k n size i out hk h0 h1 hi hs hd ho
    obtain ⟨k, rfl⟩ : ∃ m, k = m + 1 := ⟨k - 1, by omega⟩
    simp only [spec_l1Put.l0]
    rw [if_neg (by omega)]
    show some out = some ((⟨#[]⟩ : ByteArray) ++ out)
    rw [str_nil_append]
  | succ d ih =>
    intro k n size i out hk h0 h1 hi hs hd ho
    obtain ⟨k, rfl⟩ : ∃ m, k = m + 1 := ⟨k - 1, by omega⟩
    have hsz : (strOfNums [(Int.tmod n 256) % 256]).size = 1 := by rw [strOfNums_size]; rfl
    simp only [spec_l1Put.l0]
    rw [if_pos (by omega)]
    simp only [Option.bind_some]
    rw [if_pos (by omega), w64 (x := i + 1) (by omega) (by omega), tdivp h0, w64 (x := n / 256) (by omega) (by omega)]
    rw [ih _ _ _ _ _ (by omega) (by omega) (by omega) (by omega) hs (by omega) (by rw [ByteArray.size_append]; omega)]
    have e : (Int.tmod n 256) % 256 = n % 256 := by rw [tmodp h0]; omega
    rw [e, be, strOfNums_append, ByteArray.append_assoc]
theorem l1Put_at (k : Nat) (hk : 5 ≤ k) (n size : Int) (h0 : 0 ≤ n) (h1 : n ≤ 9223372036854775807) (hs0 : 0 ≤ size) (hs : size ≤ 4) :
    spec_l1Put.f k n size = some (strOfNums (be size.toNat n)) := by
  unfold spec_l1Put.f
  rw [l1Put_l0 size.toNat k n size 0 _ (by omega) h0 h1 (by omega) hs (by omega) (by show 0 ≤ _; omega), str_append_nil]
theorem bch_range (s : ByteArray) : 0 ≤ bch s + 1 ∧ bch s ≤ 255 := by
  unfold bch
  split
  · have h := bst_lt s 56
    have : bst s 56 ^^^ 127 < 128 := Nat.xor_lt_two_pow (n := 7) h (by decide)
    omega
  · omega
theorem bch7 (s : ByteArray) (h : s.size = 7) : 0 ≤ bch s ∧ bch s ≤ 255 := by
  refine ⟨?_, (bch_range s).2⟩
  unfold bch
  rw [if_pos h]
  omega
theorem fill_zero : HCltu.fill 0 = (⟨#[]⟩ : ByteArray) := rfl
theorem fill_succ (q : Nat) : HCltu.fill (q + 1) = (⟨#[85]⟩ : ByteArray) ++ HCltu.fill q := by
  apply ByteArray.ext
  simp [HCltu.fill, Lib.repeatL]
theorem one_put (s : ByteArray) (h : s.size = 7) (k : Nat) (hk : 5 ≤ k) : spec_l1Put.f k (bch s) 1 = some (HCltu.one (bch s)) := by
  obtain ⟨h0, h1⟩ := bch7 s h
  rw [l1Put_at k hk (bch s) 1 h0 (by omega) (by decide) (by decide)]
  rfl
/-- A block of the reference. -/
def blockOf (p : ByteArray) : ByteArray := (p ++ HCltu.fill (7 - p.size)) ++ HCltu.one (bch (p ++ HCltu.fill (7 - p.size)))
theorem block_l0 (d : Nat) : ∀ (k : Nat) (p : ByteArray), 80 + d ≤ k → p.size + d = 7 → spec_l2Block.l0 k p = some (blockOf p) := by
  induction d with
  | zero =>
    intro k p hk hp
    obtain ⟨k, rfl⟩ : ∃ m, k = m + 1 := ⟨k - 1, by omega⟩
    simp only [spec_l2Block.l0]
    rw [if_neg (by omega), specBch_at k (by omega) p]
    simp only [Option.bind_some]
    rw [one_put p (by omega) k (by omega)]
    simp only [Option.bind_some]
    rw [if_pos (by rw [HCltu.one_size]; omega)]
    unfold blockOf
    rw [show 7 - p.size = 0 by omega, fill_zero, str_append_nil]
  | succ d ih =>
    intro k p hk hp
    obtain ⟨k, rfl⟩ : ∃ m, k = m + 1 := ⟨k - 1, by omega⟩
    have hs : (p ++ (⟨#[85]⟩ : ByteArray)).size = p.size + 1 := ByteArray.size_append
    simp only [spec_l2Block.l0]
    rw [if_pos (by omega), if_pos (by omega), ih k _ (by omega) (by omega)]
    have e : (p ++ (⟨#[85]⟩ : ByteArray)) ++ HCltu.fill (7 - (p ++ (⟨#[85]⟩ : ByteArray)).size) = p ++ HCltu.fill (7 - p.size) := by
      rw [hs, show 7 - p.size = (7 - (p.size + 1)) + 1 by omega, fill_succ, ByteArray.append_assoc]
    unfold blockOf
    rw [e]
theorem block_at (k : Nat) (hk : 90 ≤ k) (p : ByteArray) (hp : p.size ≤ 7) : spec_l2Block.f k p = some (blockOf p) := block_l0 (7 - p.size) k p (by omega) (by omega)
theorem block_size (p : ByteArray) (hp : p.size ≤ 7) : (blockOf p).size = 8 := by
  unfold blockOf
  rw [ByteArray.size_append, ByteArray.size_append, HCltu.one_size, HCltu.fill_size]
  omega
theorem pad_size (t : ByteArray) : (HCltu.pad t).size = 7 * ((t.size + 6) / 7) := by
  unfold HCltu.pad
  split
  · omega
  · rw [ByteArray.size_append, HCltu.fill_size]
    omega
theorem pad_full (t : ByteArray) (j : Nat) (h : 7 * j + 7 ≤ t.size) : (HCltu.pad t).extract (7 * j) (7 * j + 7) = t.extract (7 * j) (7 * j + 7) := by
  unfold HCltu.pad
  split
  · rfl
  · rw [ByteArray.extract_append, show 7 * j - t.size = 0 by omega, show 7 * j + 7 - t.size = 0 by omega]
    have e : (HCltu.fill (7 - t.size % 7)).extract 0 0 = (⟨#[]⟩ : ByteArray) := by
      apply ByteArray.ext
      simp
    rw [e, str_append_nil]
theorem pad_last (t : ByteArray) (j : Nat) (h : 7 * j < t.size) (h2 : t.size < 7 * j + 7) : (HCltu.pad t).extract (7 * j) (7 * j + 7) = t.extract (7 * j) t.size ++ HCltu.fill (7 - (t.extract (7 * j) t.size).size) := by
  have hs : (t.extract (7 * j) t.size).size = t.size - 7 * j := by rw [ByteArray.size_extract]; omega
  unfold HCltu.pad
  rw [if_neg (by omega), ByteArray.extract_append, hs, show 7 - t.size % 7 = 7 - (t.size - 7 * j) by omega, show 7 * j - t.size = 0 by omega, show 7 * j + 7 - t.size = 7 - (t.size - 7 * j) by omega]
  have e1 : t.extract (7 * j) (7 * j + 7) = t.extract (7 * j) t.size := by
    apply ByteArray.ext
    simp only [ByteArray.data_extract]
    have : t.data.size = t.size := rfl
    apply Array.ext
    · rw [Array.size_extract, Array.size_extract]; omega
    · intro i h1 h2
      simp
  have e2 : (HCltu.fill (7 - (t.size - 7 * j))).extract 0 (7 - (t.size - 7 * j)) = HCltu.fill (7 - (t.size - 7 * j)) := by
    conv => lhs; arg 3; rw [← HCltu.fill_size (7 - (t.size - 7 * j))]
    exact ByteArray.extract_zero_size
  rw [e1, e2]
/-- What one block of the reference stands for. -/
theorem runs_next (t : ByteArray) (v : ByteArray → Int) (hv : ∀ s : ByteArray, s.size = 7 → v s = bch s) (j m : Nat) (hm : (t.size + 6) / 7 = j + (m + 1)) (p : ByteArray) (hp : p ++ HCltu.fill (7 - p.size) = (HCltu.pad t).extract (7 * j) (7 * j + 7)) :
    HCltu.runs v (m + 1) ((HCltu.pad t).extract (7 * j) (HCltu.pad t).size) = blockOf p ++ HCltu.runs v m ((HCltu.pad t).extract (7 * (j + 1)) (HCltu.pad t).size) := by
  have hz := pad_size t
  have e1 : ((HCltu.pad t).extract (7 * j) (HCltu.pad t).size).extract 0 7 = (HCltu.pad t).extract (7 * j) (7 * j + 7) := by
    rw [ByteArray.extract_extract, show 7 * j + 0 = 7 * j by omega, show min (7 * j + 7) (HCltu.pad t).size = 7 * j + 7 by omega]
  have e2 : ((HCltu.pad t).extract (7 * j) (HCltu.pad t).size).extract 7 ((HCltu.pad t).extract (7 * j) (HCltu.pad t).size).size = (HCltu.pad t).extract (7 * (j + 1)) (HCltu.pad t).size := by
    rw [ByteArray.extract_extract, ByteArray.size_extract, show 7 * j + 7 = 7 * (j + 1) by omega, show min (7 * j + (min (HCltu.pad t).size (HCltu.pad t).size - 7 * j)) (HCltu.pad t).size = (HCltu.pad t).size by omega]
  have hs : ((HCltu.pad t).extract (7 * j) (7 * j + 7)).size = 7 := by rw [ByteArray.size_extract]; omega
  have er : ∀ r : ByteArray, HCltu.runs v (m + 1) r = ((r.extract 0 7) ++ HCltu.one (v (r.extract 0 7))) ++ HCltu.runs v m (r.extract 7 r.size) := fun _ => rfl
  rw [er, e1, e2, hv _ hs]
  unfold blockOf
  rw [hp]
theorem blocks_l0 (t : ByteArray) (_ : t.size ≤ 100) (v : ByteArray → Int) (hv : ∀ s : ByteArray, s.size = 7 → v s = bch s) (m : Nat) : ∀ (k j : Nat) (acc : ByteArray), 100 + m ≤ k → (t.size + 6) / 7 = j + m → acc.size + 8 * m ≤ 200 →
    spec_l2Blocks.l0 k t acc ((7 * j : Nat) : Int) = some (acc ++ HCltu.runs v m ((HCltu.pad t).extract (7 * j) (HCltu.pad t).size)) := by
  induction m with
  | zero =>
    intro k j acc hk hj ha
    obtain ⟨k, rfl⟩ : ∃ m, k = m + 1 := ⟨k - 1, by omega⟩
    simp only [spec_l2Blocks.l0]
    rw [if_neg (by omega)]
    show some acc = some (acc ++ (⟨#[]⟩ : ByteArray))
    rw [str_append_nil]
  | succ m ih =>
    intro k j acc hk hj ha
    obtain ⟨k, rfl⟩ : ∃ m, k = m + 1 := ⟨k - 1, by omega⟩
    have ew : wrap64 (((7 * j : Nat) : Int) + 7) = ((7 * (j + 1) : Nat) : Int) := by rw [w64 (by omega) (by omega)]; omega
    have g1 : ((7 * j : Nat) : Int) < (t.size : Int) := by omega
    have g2 : 0 ≤ ((7 * j : Nat) : Int) := by omega
    have g3 : ((7 * j : Nat) : Int) ≤ (t.size : Int) := by omega
    have g4 : ((7 * j : Nat) : Int) ≤ ((7 * (j + 1) : Nat) : Int) := by omega
    simp only [spec_l2Blocks.l0]
    rw [if_pos g1, ew]
    by_cases c : ((7 * (j + 1) : Nat) : Int) > (t.size : Int)
    · have c2 : t.size < 7 * j + 7 := by omega
      rw [if_pos c, if_pos g2, if_pos g3, if_pos (Int.le_refl _), Int.toNat_natCast, Int.toNat_natCast]
      have hp : (t.extract (7 * j) t.size).size ≤ 7 := by rw [ByteArray.size_extract]; omega
      have hb := block_size _ hp
      rw [block_at k (by omega) _ hp]
      simp only [Option.bind_some]
      rw [if_pos (by omega), ih k (j + 1) _ (by omega) (by omega) (by rw [ByteArray.size_append]; omega), runs_next t v hv j m hj _ (pad_last t j (by omega) c2).symm, ByteArray.append_assoc]
    · have c2 : 7 * j + 7 ≤ t.size := by omega
      have g5 : ((7 * (j + 1) : Nat) : Int) ≤ (t.size : Int) := by omega
      have e7 : 7 * (j + 1) = 7 * j + 7 := by omega
      have hp7 : (t.extract (7 * j) (7 * (j + 1))).size = 7 := by rw [ByteArray.size_extract]; omega
      have hp : (t.extract (7 * j) (7 * (j + 1))).size ≤ 7 := by omega
      have hb := block_size _ hp
      have hf : t.extract (7 * j) (7 * (j + 1)) ++ HCltu.fill (7 - (t.extract (7 * j) (7 * (j + 1))).size) = (HCltu.pad t).extract (7 * j) (7 * j + 7) := by
        rw [hp7, show 7 - 7 = 0 from rfl, fill_zero, str_append_nil, pad_full t j c2, e7]
      rw [if_neg c, if_pos g2, if_pos g4, if_pos g5, Int.toNat_natCast, Int.toNat_natCast, block_at k (by omega) _ hp]
      simp only [Option.bind_some]
      rw [if_pos (by omega), ih k (j + 1) _ (by omega) (by omega) (by rw [ByteArray.size_append]; omega), runs_next t v hv j m hj _ hf, ByteArray.append_assoc]
theorem runs_size (v : ByteArray → Int) (m : Nat) : ∀ r : ByteArray, r.size = 7 * m → (HCltu.runs v m r).size = 8 * m := by
  induction m with
  | zero => intro r _; rfl
  | succ m ih =>
    intro r hr
    obtain ⟨h1, h2⟩ := HCltu.head7 hr
    unfold HCltu.runs
    rw [ByteArray.size_append, ByteArray.size_append, HCltu.one_size, h1, ih _ h2]
    omega
theorem cat_fold (xs : List HGet.B7) : ∀ s : ByteArray, xs.foldl (fun s (x : HGet.B7) => s ++ x.1) s = s ++ HGet.cat xs := by
  induction xs with
  | nil => intro s; exact (str_append_nil s).symm
  | cons x xs ih =>
    intro s
    have h1 : HGet.cat (x :: xs) = ((⟨#[]⟩ : ByteArray) ++ x.1) ++ HGet.cat xs := by
      rw [← ih]
      rfl
    rw [List.foldl_cons, ih, h1, str_nil_append, ByteArray.append_assoc]
theorem cat_cons (x : HGet.B7) (xs : List HGet.B7) : HGet.cat (x :: xs) = x.1 ++ HGet.cat xs := by
  have h := cat_fold xs ((⟨#[]⟩ : ByteArray) ++ x.1)
  rw [str_nil_append] at h
  rw [← h]
  show xs.foldl _ ((⟨#[]⟩ : ByteArray) ++ x.1) = _
  rw [str_nil_append]
theorem bt_cut (t : ByteArray) (a : Nat) (h : a + 8 ≤ t.size) : bt (t.extract a t.size) 7 = bt t ((a + 7 : Nat) : Int) := by
  have h1 : (7 : Int).toNat < (t.extract a t.size).size := by
    rw [ByteArray.size_extract]
    show 7 < _
    omega
  have h2 : (((a + 7 : Nat) : Int)).toNat < t.size := by rw [Int.toNat_natCast]; omega
  rw [← bt_at _ _ h1, ← bt_at _ _ h2]
  have e : (t.extract a t.size)[(7 : Int).toNat]'h1 = t[(((a + 7 : Nat) : Int)).toNat]'h2 := ByteArray.getElem_extract h1
  rw [e]
theorem blocks_more (v : ByteArray → Int) : ∀ (k : Nat) (r : ByteArray), r.size ≤ k → HGet.blocks v (k + 1) r = HGet.blocks v k r := by
  intro k
  induction k with
  | zero =>
    intro r h
    rw [HGet.blocks_nil v (fun h8 => absurd h8.1 (by omega)), HGet.blocks_nil v (fun h8 => absurd h8.1 (by omega))]
  | succ k ih =>
    intro r h
    by_cases hok : HGet.okAt v r
    · rw [HGet.blocks_cons v hok.1 hok.2 (by omega), HGet.blocks_cons v hok.1 hok.2 h]
      exact congrArg _ (ih _ (by rw [ByteArray.size_extract]; omega))
    · rw [HGet.blocks_nil v hok, HGet.blocks_nil v hok]
theorem sum_eq (j n : Nat) : ((8 * (j + 1) + 8 * n : Nat) : Int) = ((8 * j + 8 * (n + 1) : Nat) : Int) := by omega
theorem get_l0 (t : ByteArray) (_ : t.size ≤ 1048576) (v : ByteArray → Int) (hv : ∀ s : ByteArray, s.size = 7 → v s = bch s) (m : Nat) : ∀ (k K j : Nat) (acc : ByteArray), 100 + m ≤ k → j + m = 9 → acc.size = 7 * j → t.size ≤ 8 * j + K →
    spec_CltuGet.l0 k t acc ((8 * j : Nat) : Int) = some (acc ++ HGet.cat ((HGet.blocks v K (t.extract (8 * j) t.size)).take m), ((8 * j + 8 * ((HGet.blocks v K (t.extract (8 * j) t.size)).take m).length : Nat) : Int)) := by
  induction m with
  | zero =>
    intro k K j acc hk hj ha hK
    obtain ⟨k, rfl⟩ : ∃ m, k = m + 1 := ⟨k - 1, by omega⟩
    have e2 : wrap64 ((acc.size : Int) + 7) = 70 := by rw [w64 (by omega) (by omega)]; omega
    have e3 : HGet.cat [] = (⟨#[]⟩ : ByteArray) := rfl
    simp only [spec_CltuGet.l0, List.take_zero, List.length_nil, Nat.mul_zero, Nat.add_zero, e3, str_append_nil]
    rw [e2, if_neg (show ¬ ((70 : Int) ≤ 63) by omega), ite_self]
  | succ m ih =>
    intro k K j acc hk hj ha hK
    obtain ⟨k, rfl⟩ : ∃ m, k = m + 1 := ⟨k - 1, by omega⟩
    have e1 : wrap64 (((8 * j : Nat) : Int) + 8) = ((8 * (j + 1) : Nat) : Int) := by rw [w64 (by omega) (by omega)]; omega
    have e2 : wrap64 (((8 * j : Nat) : Int) + 7) = ((8 * j + 7 : Nat) : Int) := by rw [w64 (by omega) (by omega)]; omega
    have e3 : wrap64 ((acc.size : Int) + 7) = ((7 * j + 7 : Nat) : Int) := by rw [w64 (by omega) (by omega)]; omega
    have hrs : (t.extract (8 * j) t.size).size = t.size - 8 * j := by rw [ByteArray.size_extract]; omega
    have k2 : (t.extract (8 * j) t.size).size ≤ K := by omega
    have k3 : 100 + m ≤ k := by omega
    have k4 : j + 1 + m = 9 := by omega
    have k5 : t.size ≤ 8 * (j + 1) + (K - 1) := by omega
    simp only [spec_CltuGet.l0]
    rw [e1, e2, e3]
    by_cases c1 : ((8 * (j + 1) : Nat) : Int) ≤ (t.size : Int)
    · have c1' : 8 * j + 8 ≤ t.size := by omega
      have k1 : 8 ≤ (t.extract (8 * j) t.size).size := by omega
      have g2 : ((7 * j + 7 : Nat) : Int) ≤ 63 := by omega
      have g3 : 0 ≤ ((8 * j : Nat) : Int) := by omega
      have g4 : ((8 * j : Nat) : Int) ≤ ((8 * j + 7 : Nat) : Int) := by omega
      have g5 : ((8 * j + 7 : Nat) : Int) ≤ (t.size : Int) := by omega
      have g6 : 0 ≤ ((8 * j + 7 : Nat) : Int) := by omega
      have g7 : ((8 * j + 7 : Nat) : Int) < (t.size : Int) := by omega
      have hp7 : (t.extract (8 * j) (8 * j + 7)).size = 7 := by rw [ByteArray.size_extract]; omega
      have hpe : (t.extract (8 * j) t.size).extract 0 7 = t.extract (8 * j) (8 * j + 7) := by
        rw [ByteArray.extract_extract, show 8 * j + 0 = 8 * j by omega, show min (8 * j + 7) t.size = 8 * j + 7 by omega]
      have hre : (t.extract (8 * j) t.size).extract 8 (t.extract (8 * j) t.size).size = t.extract (8 * (j + 1)) t.size := by
        rw [ByteArray.extract_extract, hrs, show 8 * j + 8 = 8 * (j + 1) by omega, show min (8 * j + (t.size - 8 * j)) t.size = t.size by omega]
      rw [if_pos c1, if_pos g2, if_pos g3, if_pos g4, if_pos g5, Int.toNat_natCast, Int.toNat_natCast, specBch_at k (by omega)]
      simp only [Option.bind_some]
      rw [if_pos g6, if_pos g7, idx4]
      by_cases c2 : bch (t.extract (8 * j) (8 * j + 7)) = bt t ((8 * j + 7 : Nat) : Int)
      · have g8 : acc.size + (t.extract (8 * j) (8 * j + 7)).size ≤ 9223372036854775807 := by omega
        have hb := HGet.blocks_cons v (r := t.extract (8 * j) t.size) (k := K) k1 (by rw [hpe, hv _ hp7, bt_cut t (8 * j) c1', c2]) k2
        have ha2 : (acc ++ t.extract (8 * j) (8 * j + 7)).size = 7 * (j + 1) := by rw [ByteArray.size_append, ha, hp7, Nat.mul_succ]
        rw [if_pos c2, if_pos g8, ih k (K - 1) (j + 1) _ k3 k4 ha2 k5, hb, hre, List.take_succ_cons, cat_cons, List.length_cons]
        simp only [hpe]
        rw [ByteArray.append_assoc, sum_eq j]
      · have hb := HGet.blocks_nil v (r := t.extract (8 * j) t.size) (k := K) (fun h => c2 (by
          have h2 := h.2
          rw [hpe, hv _ hp7, bt_cut t (8 * j) c1'] at h2
          exact h2))
        have e4 : HGet.cat [] = (⟨#[]⟩ : ByteArray) := rfl
        rw [if_neg c2, hb]
        simp only [List.take_nil, List.length_nil, Nat.mul_zero, Nat.add_zero, e4, str_append_nil]
    · have hb := HGet.blocks_nil v (r := t.extract (8 * j) t.size) (k := K) (fun h => c1 (by
        have h1 := h.1
        omega))
      have e4 : HGet.cat [] = (⟨#[]⟩ : ByteArray) := rfl
      rw [if_neg c1, hb]
      simp only [List.take_nil, List.length_nil, Nat.mul_zero, Nat.add_zero, e4, str_append_nil]
theorem cltuGet_at (k : Nat) (hk : 200 ≤ k) (v : ByteArray → Int) (hv : ∀ s : ByteArray, s.size = 7 → v s = bch s) (t : ByteArray) (ht : t.size ≤ 1048576) : spec_CltuGet.f k t = some (HGet.cat (HGet.taken v t), ((8 * (HGet.taken v t).length : Nat) : Int)) := by
  unfold spec_CltuGet.f HGet.taken
  have h := get_l0 t ht v hv 9 k t.size 0 (⟨#[]⟩ : ByteArray) (by omega) (by omega) rfl (by omega)
  rw [show 8 * 0 = 0 from rfl, ByteArray.extract_zero_size, str_nil_append, Nat.zero_add] at h
  exact h
/-- What is read from: at most 2000 bytes. -/
def Bytes (xs : List Int) : Prop := xs.length ≤ 2000 ∧ ∀ x ∈ xs, 0 ≤ x ∧ x ≤ 255
theorem rd_rng {xs : List Int} (h : Bytes xs) (i : Int) : 0 ≤ rd xs i ∧ rd xs i ≤ 255 := by
  unfold rd
  rw [List.getD_eq_getElem?_getD]
  cases hx : xs[i.toNat]? with
  | none => simp
  | some x => exact h.2 x (List.mem_of_getElem? hx)
theorem u8_rng {x : Int} (h : (Lit.int .u8 x).wf = true) : 0 ≤ x ∧ x ≤ 255 := by
  simpa [Lit.wf, IntKind.min, IntKind.max, IntKind.bits, IntKind.signed] using h
/-- Opening what came: its first 2000 bytes. -/
theorem open_at (l : List Int) (hl : l.length ≤ 140737488351232) (h : ∀ x ∈ l, (Lit.int .u8 x).wf = true) : spec_l1Open.f l = some (l.take 2000, 0) ∧ Bytes (l.take 2000) := by
  refine ⟨?_, by rw [List.length_take]; omega, fun x hx => u8_rng (h x (List.mem_of_mem_take hx))⟩
  unfold spec_l1Open.f
  by_cases h2 : (l.length : Int) > 2000
  · rw [if_pos h2, if_pos (by omega)]
  · rw [if_neg h2, List.take_of_length_le (by omega)]
theorem xor_rng {x y : Int} (hx0 : 0 ≤ x) (hx1 : x < 4611686018427387904) (hy0 : 0 ≤ y) (hy1 : y < 4611686018427387904) : 0 ≤ bits .xor .i64 x y ∧ bits .xor .i64 x y < 4611686018427387904 := by
  obtain ⟨a, rfl⟩ := Int.eq_ofNat_of_zero_le hx0
  obtain ⟨b, rfl⟩ := Int.eq_ofNat_of_zero_le hy0
  have h : a ^^^ b < 2 ^ 62 := Nat.xor_lt_two_pow (by omega) (by omega)
  have e : bits .xor .i64 (a : Int) (b : Int) = ((a ^^^ b : Nat) : Int) := by
    show IntKind.i64.wrap ((BitVec.ofInt 64 (a : Int) ^^^ BitVec.ofInt 64 (b : Int)).toNat : Int) = _
    rw [BitVec.toNat_xor, BitVec.ofInt_natCast, BitVec.ofInt_natCast, BitVec.toNat_ofNat, BitVec.toNat_ofNat, Nat.mod_eq_of_lt (by omega), Nat.mod_eq_of_lt (by omega)]
    exact wraps_i64 _ (by omega) (by omega)
  rw [e]
  omega
/-- The number that is reckoned where what came is at its end. -/
theorem mix_rng {a b p q : Int} (ha0 : 0 ≤ a) (ha1 : a ≤ 255) (hb0 : 0 ≤ b) (hb1 : b ≤ 255) (hp0 : 0 ≤ p) (hp1 : p ≤ 1099511627776) (hq0 : 0 ≤ q) (hq1 : q ≤ 1099511627776) :
    ∃ v, wrap64 (wrap64 (wrap64 (wrap64 (wrap64 a * 131) + wrap64 (wrap64 b * 1117)) + wrap64 (p * 29)) + wrap64 (wrap64 q * 53)) = v ∧ 0 ≤ v ∧ v < 4611686018427387904 := by
  refine ⟨a * 131 + b * 1117 + p * 29 + q * 53, ?_, by omega, by omega⟩
  rw [w64 (x := a) (by omega) (by omega), w64 (x := b) (by omega) (by omega), w64 (x := q) (by omega) (by omega), w64 (x := a * 131) (by omega) (by omega), w64 (x := b * 1117) (by omega) (by omega), w64 (x := p * 29) (by omega) (by omega), w64 (x := q * 53) (by omega) (by omega),
    w64 (x := a * 131 + b * 1117) (by omega) (by omega), w64 (x := a * 131 + b * 1117 + p * 29) (by omega) (by omega), w64 (by omega) (by omega)]
theorem tmod_rng {x m : Int} (h0 : 0 ≤ x) (hm : 1 ≤ m) : 0 ≤ Int.tmod x m ∧ Int.tmod x m < m := by
  rw [tmodp h0]
  exact ⟨Int.emod_nonneg _ (by omega), Int.emod_lt_of_pos _ (by omega)⟩
/-- One pick: a number below m. -/
theorem pick_at {xs : List Int} (h : Bytes xs) (p m : Int) (hp0 : 0 ≤ p) (hp1 : p ≤ 1000000) (hm : 1 ≤ m) :
    ∃ r, 0 ≤ r ∧ r < m ∧ ∀ k, 2 ≤ k → spec_l1Rd_pick.f k xs p m = some (r, p + 1) := by
  have hlen := h.1
  have e1 : wrap64 (p + 1) = p + 1 := w64 (by omega) (by omega)
  have e2 : wrap64 (p + 1 - 1) = p := by rw [w64 (by omega) (by omega)]; omega
  have n1 : ¬ m < 1 := by omega
  have n2 : ¬ m = 0 := by omega
  by_cases hz : xs.length = 0
  · refine ⟨0, by omega, by omega, fun k hk => ?_⟩
    obtain ⟨k, rfl⟩ : ∃ q, k = q + 1 := ⟨k - 1, by omega⟩
    have hb : ((xs.length : Int) == 0) = true := by rw [hz]; rfl
    unfold spec_l1Rd_pick.f
    rw [if_neg n1, hb, e1]
    simp only [spec_l1Rd_pick.j0, if_true]
  have hb : ((xs.length : Int) == 0) = false := beq_eq_false_iff_ne.mpr (by omega)
  by_cases hlt : p < (xs.length : Int)
  · have hr := rd_rng h p
    have e3 : wrap64 (rd xs p) = rd xs p := w64 (by omega) (by omega)
    obtain ⟨t0, t1⟩ := tmod_rng (x := rd xs p) (m := m) hr.1 hm
    refine ⟨Int.tmod (rd xs p) m, t0, t1, fun k hk => ?_⟩
    obtain ⟨k, rfl⟩ : ∃ q, k = q + 1 := ⟨k - 1, by omega⟩
    unfold spec_l1Rd_pick.f
    rw [if_neg n1, hb, e1]
    simp only [spec_l1Rd_pick.j0, Bool.false_eq_true, if_false, e2]
    rw [if_pos hlt, if_pos hp0, if_neg n2, e3]
  · have hl1 : 1 ≤ (xs.length : Int) := by omega
    have m1 := tmod_rng (x := p) (m := (xs.length : Int)) hp0 hl1
    have e4 : wrap64 (wrap64 (p * 7) + 3) = p * 7 + 3 := by rw [w64 (x := p * 7) (by omega) (by omega), w64 (by omega) (by omega)]
    have m2 := tmod_rng (x := p * 7 + 3) (m := (xs.length : Int)) (by omega) hl1
    have r1 := rd_rng h (Int.tmod p (xs.length : Int))
    have r2 := rd_rng h (Int.tmod (p * 7 + 3) (xs.length : Int))
    have q0 : 0 ≤ Int.tdiv p (xs.length : Int) := by rw [tdivp hp0]; exact Int.ediv_nonneg hp0 (by omega)
    have q1 : Int.tdiv p (xs.length : Int) ≤ 1000000 := by rw [tdivp hp0]; exact Int.le_trans (Int.ediv_le_self _ hp0) hp1
    obtain ⟨v, hv, v0, v1⟩ := mix_rng (p := p) (q := Int.tdiv p (xs.length : Int)) r1.1 r1.2 r2.1 r2.2 hp0 (by omega) q0 (by omega)
    have d1 : wrap64 (Int.tdiv v 64) = v / 64 := by rw [tdivp v0, w64 (by omega) (by omega)]
    obtain ⟨x0, x1⟩ := xor_rng (x := v) (y := v / 64) v0 v1 (by omega) (by omega)
    obtain ⟨t0, t1⟩ := tmod_rng (x := bits .xor .i64 v (v / 64)) (m := m) x0 hm
    refine ⟨Int.tmod (bits .xor .i64 v (v / 64)) m, t0, t1, fun k hk => ?_⟩
    obtain ⟨k, rfl⟩ : ∃ q, k = q + 1 := ⟨k - 1, by omega⟩
    unfold spec_l1Rd_pick.f
    rw [if_neg n1, hb, e1]
    simp only [spec_l1Rd_pick.j0, Bool.false_eq_true, if_false, e2, e4]
    rw [if_neg hlt, if_neg (show ¬ (xs.length : Int) = 0 by omega), if_pos m1.1, if_pos m1.2, if_pos m2.1, if_pos m2.2, if_neg n2, hv, d1]
theorem text_l0 {xs : List Int} (h : Bytes xs) (d : Nat) : ∀ (acc : List Int) (p : Int), acc.length + d ≤ 1000 → 0 ≤ p → p + 3 * d ≤ 500000 →
    ∃ t q, t.size = acc.length + d ∧ p ≤ q ∧ q ≤ p + 3 * d ∧ ∀ k, d + 2 < k → spec_l15Text.l0 k acc (d : Int) xs p = some (t, q) := by
  induction d with
  | zero =>
    intro acc p ha hp0 hp1
    refine ⟨strOfNums acc, p, strOfNums_size acc, by omega, by omega, fun k hk => ?_⟩
    obtain ⟨k, rfl⟩ : ∃ m, k = m + 1 := ⟨k - 1, by omega⟩
    simp only [spec_l15Text.l0]
    rw [if_neg (by omega)]
  | succ d ih =>
    intro acc p ha hp0 hp1
    obtain ⟨r1, a1, b1, c1⟩ := pick_at h p 256 hp0 (by omega) (by omega)
    obtain ⟨r2, a2, b2, c2⟩ := pick_at h (p + 1) 4 (by omega) (by omega) (by omega)
    obtain ⟨r3, a3, b3, c3⟩ := pick_at h (p + 1 + 1) 5 (by omega) (by omega) (by omega)
    obtain ⟨t, q, ht, hq0, hq1, hk⟩ := ih (acc ++ [(rd [r1, r2, 85, 235, 144] r3) % 256]) (p + 1 + 1 + 1) (by rw [List.length_append, List.length_singleton]; omega) (by omega) (by omega)
    refine ⟨t, q, by rw [ht, List.length_append, List.length_singleton]; omega, by omega, by omega, fun k hkk => ?_⟩
    obtain ⟨k, rfl⟩ : ∃ m, k = m + 1 := ⟨k - 1, by omega⟩
    have e : wrap64 (((d + 1 : Nat) : Int) - 1) = (d : Int) := by rw [w64 (by omega) (by omega)]; omega
    simp only [spec_l15Text.l0]
    rw [if_pos (by omega), c1 k (by omega)]
    simp only [Option.bind_some]
    rw [c2 k (by omega)]
    simp only [Option.bind_some]
    rw [c3 k (by omega)]
    simp only [Option.bind_some]
    rw [if_pos a3, if_pos (by show r3 < 5; omega), if_pos (by omega), e]
    exact hk k (by omega)
/-- A text that is drawn: at most n bytes. -/
theorem text_at {xs : List Int} (h : Bytes xs) (p : Int) (n : Nat) (hp0 : 0 ≤ p) (hp1 : p ≤ 100000) (hn : n ≤ 900) :
    ∃ t q, t.size ≤ n ∧ p ≤ q ∧ q ≤ p + 1 + 3 * n ∧ ∀ k, n + 10 < k → spec_l15Text.f k xs p (n : Int) = some (t, q) := by
  obtain ⟨r, a, b, c⟩ := pick_at h p ((n : Int) + 1) hp0 (by omega) (by omega)
  obtain ⟨d, rfl⟩ := Int.eq_ofNat_of_zero_le a
  obtain ⟨t, q, ht, hq0, hq1, hk⟩ := text_l0 h d [] (p + 1) (by rw [List.length_nil]; omega) (by omega) (by omega)
  refine ⟨t, q, by rw [ht, List.length_nil]; omega, by omega, by omega, fun k hkk => ?_⟩
  unfold spec_l15Text.f
  rw [w64 (x := (n : Int) + 1) (by omega) (by omega), c k (by omega)]
  simp only [Option.bind_some]
  exact hk k (by omega)
theorem cut_left (a b : ByteArray) (n : Nat) (h : a.size = n) : (a ++ b).extract 0 n = a := ByteArray.extract_append_eq_left h.symm
theorem bt_off (t : ByteArray) (a j : Nat) (h : a + j < t.size) : bt (t.extract a t.size) (j : Int) = bt t ((a + j : Nat) : Int) := by
  have h1 : ((j : Nat) : Int).toNat < (t.extract a t.size).size := by rw [ByteArray.size_extract, Int.toNat_natCast]; omega
  have h2 : (((a + j : Nat) : Int)).toNat < t.size := by rw [Int.toNat_natCast]; omega
  rw [← bt_at _ _ h1, ← bt_at _ _ h2]
  have e : (t.extract a t.size)[((j : Nat) : Int).toNat]'h1 = t[(((a + j : Nat) : Int)).toNat]'h2 := by
    rw [ByteArray.getElem_extract h1]
    congr 1
  rw [e]
theorem blocks_get (v : ByteArray → Int) (i : Nat) : ∀ (K : Nat) (r : ByteArray) (_ : r.size ≤ K) (h : i < (HGet.blocks v K r).length), 8 * i + 8 ≤ r.size ∧ ((HGet.blocks v K r)[i]'h).1 = r.extract (8 * i) (8 * i + 7) ∧ v (r.extract (8 * i) (8 * i + 7)) = bt r ((8 * i + 7 : Nat) : Int) := by
  induction i with
  | zero =>
    intro K r hK h
    by_cases ho : HGet.okAt v r
    · have hc := HGet.blocks_cons v ho.1 ho.2 hK
      refine ⟨by have := ho.1; omega, ?_, ho.2⟩
      simp only [hc, List.getElem_cons_zero]
    · simp only [HGet.blocks_nil v ho, List.length_nil] at h
      omega
  | succ i ih =>
    intro K r hK h
    by_cases ho : HGet.okAt v r
    · have hc := HGet.blocks_cons v ho.1 ho.2 hK
      have h8 := ho.1
      have hrs : (r.extract 8 r.size).size = r.size - 8 := by rw [ByteArray.size_extract]; omega
      have h' : i < (HGet.blocks v (K - 1) (r.extract 8 r.size)).length := by
        rw [hc, List.length_cons] at h
        omega
      obtain ⟨a, b, c⟩ := ih (K - 1) (r.extract 8 r.size) (by omega) h'
      have e1 : (r.extract 8 r.size).extract (8 * i) (8 * i + 7) = r.extract (8 * (i + 1)) (8 * (i + 1) + 7) := by
        rw [ByteArray.extract_extract, show 8 + 8 * i = 8 * (i + 1) by omega, show min (8 + (8 * i + 7)) r.size = 8 * (i + 1) + 7 by omega]
      have e2 := bt_off r 8 (8 * i + 7) (by omega)
      rw [show 8 + (8 * i + 7) = 8 * (i + 1) + 7 by omega] at e2
      rw [e1] at b c
      rw [e2] at c
      refine ⟨by omega, ?_, c⟩
      simp only [hc, List.getElem_cons_succ]
      exact b
    · simp only [HGet.blocks_nil v ho, List.length_nil] at h
      omega
theorem cat_get (xs : List HGet.B7) : ∀ (i : Nat) (h : i < xs.length), (HGet.cat xs).extract (7 * i) (7 * i + 7) = (xs[i]'h).1 := by
  induction xs with
  | nil => intro i h; exact absurd h (by simp)
  | cons x xs ih =>
    intro i h
    have hx := x.2
    rw [cat_cons]
    cases i with
    | zero => exact cut_left _ _ _ hx
    | succ i =>
      have h' : i < xs.length := by rw [List.length_cons] at h; omega
      rw [ByteArray.extract_append, hx, List.getElem_cons_succ, ← ih i h', show 7 * (i + 1) - 7 = 7 * i by omega, show 7 * (i + 1) + 7 - 7 = 7 * i + 7 by omega]
      have e : x.1.extract (7 * (i + 1)) (7 * (i + 1) + 7) = (⟨#[]⟩ : ByteArray) := by
        apply ByteArray.ext
        apply Array.eq_empty_of_size_eq_zero
        show (x.1.extract (7 * (i + 1)) (7 * (i + 1) + 7)).size = 0
        rw [ByteArray.size_extract]
        omega
      rw [e, str_nil_append]
theorem turned_size (s : ByteArray) (k : Nat) (x : Int) : (HSpoil.turned s k x).size = s.size := by
  unfold HSpoil.turned
  rw [strOfNums_size, List.length_set]
  simp [bytesOf]
theorem turn_at {xs : List Int} (h : Bytes xs) (p : Int) (t : ByteArray) (hp0 : 0 ≤ p) (hp1 : p ≤ 100000) (ht : t.size ≤ 1000000) : ∃ s q, s.size ≤ 1000000 ∧ ∀ k, 2 ≤ k → spec_l15Turn.f k xs p t = some (s, q) := by
  unfold spec_l15Turn.f
  by_cases c : t.toList = ([] : List UInt8)
  · exact ⟨t, p, ht, fun k _ => by rw [if_pos c]⟩
  · obtain ⟨a, a0, a1, ha⟩ := pick_at h p 256 hp0 (by omega) (by omega)
    obtain ⟨b, b0, b1, hb⟩ := pick_at h (p + 1) 16 (by omega) (by omega) (by omega)
    obtain ⟨d, d0, d1, hd⟩ := pick_at h (p + 1 + 1) 127 (by omega) (by omega) (by omega)
    have ew : wrap64 ((wrap64 (a + (wrap64 (b * 256)))) + (wrap64 (d * 4096))) = a + b * 256 + d * 4096 := by
      rw [w64 (x := b * 256) (by omega) (by omega), w64 (x := a + b * 256) (by omega) (by omega), w64 (x := d * 4096) (by omega) (by omega), w64 (by omega) (by omega)]
    have hz : 0 < t.size := by
      refine Nat.pos_of_ne_zero fun h0 => c ?_
      have e : t = (⟨#[]⟩ : ByteArray) := by
        apply ByteArray.ext
        exact Array.eq_empty_of_size_eq_zero h0
      rw [e]
      unfold ByteArray.toList ByteArray.toList.loop
      rfl
    have hn0 : 0 ≤ a + b * 256 + d * 4096 := by omega
    have hn1 : a + b * 256 + d * 4096 ≤ 9223372036854775807 := by omega
    refine ⟨HSpoil.turned t ((a + b * 256 + d * 4096) % 4096 % t.size).toNat (1 + (a + b * 256 + d * 4096) / 4096 % 127), p + 1 + 1 + 1, by rw [turned_size]; exact ht, fun k hk => ?_⟩
    rw [if_neg c, ha k hk]
    simp only [Option.bind_some]
    rw [hb k hk]
    simp only [Option.bind_some]
    rw [hd k hk]
    simp only [Option.bind_some]
    unfold spec_l14Spoil.f
    rw [ew, if_pos ⟨hz, ht, hn0, hn1⟩]
    rfl
theorem drawCltuGet (l : List Int) (hl : l.length ≤ 140737488351232) (hw : ∀ x ∈ l, (Lit.int .u8 x).wf = true) : ∃ s, s.size ≤ 1000000 ∧ ∀ k, 200 ≤ k → spec_DrawCltuGet.f k l = some s := by
  obtain ⟨ho, hB⟩ := open_at l hl hw
  obtain ⟨t, q, ht, q0, q1, hk⟩ := text_at hB 0 71 (by omega) (by omega) (by omega)
  have hz := pad_size t
  have hbl : ∀ k, 200 ≤ k → spec_l2Blocks.f k t = some (HCltu.runs bch ((t.size + 6) / 7) (HCltu.pad t)) := fun k hk => by
    unfold spec_l2Blocks.f
    have hb := blocks_l0 t (by omega) bch (fun _ _ => rfl) ((t.size + 6) / 7) k 0 (⟨#[]⟩ : ByteArray) (by omega) (by omega) (by show 0 + _ ≤ _; omega)
    rw [show ((0 : Int)) = ((7 * 0 : Nat) : Int) from rfl, hb, str_nil_append, show 7 * 0 = 0 from rfl, ByteArray.extract_zero_size]
  obtain ⟨B, hB2⟩ : ∃ B, HCltu.runs bch ((t.size + 6) / 7) (HCltu.pad t) = B := ⟨_, rfl⟩
  have hBs : B.size ≤ 100 := by rw [← hB2, runs_size _ _ _ hz]; omega
  obtain ⟨a, a0, a1, ha⟩ := pick_at hB q 3 (by omega) (by omega) (by omega)
  obtain ⟨s1, q1', hs1, h1⟩ := turn_at hB (q + 1) B (by omega) (by omega) (by omega)
  obtain ⟨t2, q2, ht2, _, _, h2⟩ := text_at hB (q + 1) 20 (by omega) (by omega) (by omega)
  obtain ⟨c, c0, c1, hc⟩ := pick_at hB (q + 1) ((B.size : Int) + 1) (by omega) (by omega) (by omega)
  have f1 : (B ++ t2).size ≤ 1000000 := by rw [ByteArray.size_append]; omega
  have f2 : (B.extract 0 c.toNat).size ≤ 1000000 := by rw [ByteArray.size_extract]; omega
  have f3 : c ≤ (B.size : Int) := by omega
  have f4 : B.size + t2.size ≤ 9223372036854775807 := by omega
  have f5 : ∀ k : Nat, 200 ≤ k → 2 ≤ k := fun k h => by omega
  have f6 : ∀ k : Nat, 200 ≤ k → 20 + 10 < k := fun k h => by omega
  have f7 : ∀ k : Nat, 200 ≤ k → 71 + 10 < k := fun k h => by omega
  have ew : wrap64 ((B.size : Int) + 1) = (B.size : Int) + 1 := w64 (by omega) (by omega)
  have e71 : ((71 : Nat) : Int) = 71 := rfl
  have e20 : ((20 : Nat) : Int) = 20 := rfl
  have key : ∀ k, 200 ≤ k → ∀ s, (if a = 0 then ((spec_l15Turn.f k (l.take 2000) (q + 1) B).bind fun bt151 => (some bt151.1)) else (if a = 1 then ((spec_l15Text.f k (l.take 2000) (q + 1) 20).bind fun bt153 => (if B.size + bt153.1.size ≤ 9223372036854775807 then (some (B ++ bt153.1)) else (none))) else ((spec_l1Rd_pick.f k (l.take 2000) (q + 1) (wrap64 ((B.size : Int) + 1))).bind fun bt155 => (if 0 ≤ bt155.1 then (if bt155.1 ≤ (B.size : Int) then (some (B.extract 0 (bt155.1 : Int).toNat)) else (none)) else (none))))) = some s → spec_DrawCltuGet.f k l = some s := fun k hkk s h => by
    unfold spec_DrawCltuGet.f
    have h71 := hk k (f7 k hkk)
    rw [e71] at h71
    rw [ho]
    simp only [Option.bind_some]
    rw [h71]
    simp only [Option.bind_some]
    rw [hbl k hkk, hB2]
    simp only [Option.bind_some]
    rw [ha k (f5 k hkk)]
    simp only [Option.bind_some]
    exact h
  by_cases c0' : a = 0
  · refine ⟨s1, hs1, fun k hkk => key k hkk s1 ?_⟩
    rw [if_pos c0', h1 k (f5 k hkk)]
    rfl
  · by_cases c1' : a = 1
    · refine ⟨B ++ t2, f1, fun k hkk => key k hkk _ ?_⟩
      have h20 := h2 k (f6 k hkk)
      rw [e20] at h20
      rw [if_neg c0', if_pos c1', h20]
      simp only [Option.bind_some]
      rw [if_pos f4]
    · refine ⟨B.extract 0 c.toNat, f2, fun k hkk => key k hkk _ ?_⟩
      rw [if_neg c0', if_neg c1', ew, hc k (f5 k hkk)]
      simp only [Option.bind_some]
      rw [if_pos c0, if_pos f3]
theorem w8 {i : Nat} (h : i ≤ 9) : wrap64 ((i : Int) * 8) = ((8 * i : Nat) : Int) := by rw [w64 (by omega) (by omega)]; omega
theorem w87 {i : Nat} (h : i ≤ 9) : wrap64 (((8 * i : Nat) : Int) + 7) = ((8 * i + 7 : Nat) : Int) := by rw [w64 (by omega) (by omega)]; omega
theorem w7 {i : Nat} (h : i ≤ 9) : wrap64 ((i : Int) * 7) = ((7 * i : Nat) : Int) := by rw [w64 (by omega) (by omega)]; omega
theorem w77 {i : Nat} (h : i ≤ 9) : wrap64 (((7 * i : Nat) : Int) + 7) = ((7 * i + 7 : Nat) : Int) := by rw [w64 (by omega) (by omega)]; omega
theorem w1 {i : Nat} (h : i ≤ 9) : wrap64 ((i : Int) + 1) = ((i + 1 : Nat) : Int) := by rw [w64 (by omega) (by omega)]; omega
theorem wd {z n : Nat} (h : z = 7 * n) (h9 : n ≤ 9) : wrap64 ((z : Int) / 7) = (n : Int) := by rw [w64 (by omega) (by omega)]; omega
theorem loop_at (s : ByteArray) (hs : s.size ≤ 1048576) (v : ByteArray → Int) (hv : ∀ s : ByteArray, s.size = 7 → v s = bch s) (d : Nat) : ∀ (k i : Nat), 300 + d < k → i + d = (HGet.taken v s).length → (HGet.taken v s).length ≤ 9 →
    laws_FnCltuGet.l0 k s (HGet.cat (HGet.taken v s)) (i : Int) = some true := by
  have hcs := HGet.cat_size (HGet.taken v s)
  induction d with
  | zero =>
    intro k i hk hi h9
    obtain ⟨k, rfl⟩ : ∃ m, k = m + 1 := ⟨k - 1, by omega⟩
    have g : ¬ ((i : Int) < ((HGet.taken v s).length : Int)) := by omega
    rw [laws_FnCltuGet.l0, wd hcs h9, if_neg g]
  | succ d ih =>
    intro k i hk hi h9
    obtain ⟨k, rfl⟩ : ∃ m, k = m + 1 := ⟨k - 1, by omega⟩
    have g : (i : Int) < ((HGet.taken v s).length : Int) := by omega
    have hlt : i < (HGet.taken v s).length := by omega
    have hlb : i < (HGet.blocks v s.size s).length := by
      have := List.length_take_le 9 (HGet.blocks v s.size s)
      have h2 : (HGet.taken v s).length = min 9 (HGet.blocks v s.size s).length := List.length_take
      omega
    obtain ⟨b1, b2, b3⟩ := blocks_get v i s.size s (Nat.le_refl _) hlb
    have hte : ((HGet.taken v s)[i]'hlt).1 = s.extract (8 * i) (8 * i + 7) := by
      rw [← b2]
      exact congrArg Subtype.val (List.getElem_take (h := hlt))
    have hcg := cat_get (HGet.taken v s) i hlt
    rw [hte] at hcg
    have hp7 : (s.extract (8 * i) (8 * i + 7)).size = 7 := by rw [ByteArray.size_extract]; omega
    have i9 : i ≤ 9 := by omega
    have g1 : 0 ≤ ((8 * i : Nat) : Int) := by omega
    have g2 : ((8 * i : Nat) : Int) ≤ ((8 * i + 7 : Nat) : Int) := by omega
    have g3 : ((8 * i + 7 : Nat) : Int) ≤ (s.size : Int) := by omega
    have g4 : 0 ≤ ((7 * i : Nat) : Int) := by omega
    have g5 : ((7 * i : Nat) : Int) ≤ ((7 * i + 7 : Nat) : Int) := by omega
    have g6 : ((7 * i + 7 : Nat) : Int) ≤ ((HGet.cat (HGet.taken v s)).size : Int) := by omega
    have g7 : 0 ≤ ((8 * i + 7 : Nat) : Int) := by omega
    have g8 : ((8 * i + 7 : Nat) : Int) < (s.size : Int) := by omega
    have k1 : 200 ≤ k := by omega
    have k2 : 300 + d < k := by omega
    have k3 : i + 1 + d = (HGet.taken v s).length := by omega
    have e1 := w8 i9
    have e2 := w87 i9
    have e3 := w7 i9
    have e4 := w77 i9
    have e5 := w1 i9
    rw [hv _ hp7] at b3
    rw [laws_FnCltuGet.l0, wd hcs h9, if_pos g, e1, e2, e3, e4, if_pos g1, if_pos g2, if_pos g3, if_pos g4, if_pos g5, if_pos g6]
    simp only [Int.toNat_natCast]
    rw [hcg, if_pos rfl, implBch_at k k1]
    simp only [Option.bind_some]
    rw [if_pos g7, if_pos g8, idx4, if_pos b3, e5]
    exact ih k (i + 1) k2 k3 h9
end FnCltuGetL
open FnCltuGetL

theorem FnCltuGet : laws_FnCltuGet.Pure := by
  intro l h0 h1 hw
  obtain ⟨s, hs, hd⟩ := drawCltuGet l (by omega) hw
  refine ⟨500, ?_⟩
  have hb : ∀ s : ByteArray, s.size = 7 → impl_CltuGet.v 500 s = bch s := fun s hs => by
    unfold impl_CltuGet.v
    rw [if_pos hs, implBch_at 500 (by decide) s]
    rfl
  obtain ⟨v, hv0⟩ : ∃ v, impl_CltuGet.v 500 = v := ⟨_, rfl⟩
  have hv : ∀ s : ByteArray, s.size = 7 → v s = bch s := by rw [← hv0]; exact hb
  have hget : impl_CltuGet.f 500 s = some (HGet.cat (HGet.taken v s), ((8 * (HGet.taken v s).length : Nat) : Int)) := by
    unfold impl_CltuGet.f
    rw [if_pos (fun s _ => ⟨_, implBch_at 500 (by decide) s⟩), hv0]
  have h9 : (HGet.taken v s).length ≤ 9 := List.length_take_le 9 _
  have hcs := HGet.cat_size (HGet.taken v s)
  have e1 : wrap64 (((HGet.cat (HGet.taken v s)).size : Int) / 7) = ((HGet.taken v s).length : Int) := by rw [w64 (by omega) (by omega)]; omega
  have e2 : wrap64 (((HGet.taken v s).length : Int) * 8) = ((8 * (HGet.taken v s).length : Nat) : Int) := by rw [w64 (by omega) (by omega)]; omega
  have g1 : ((HGet.cat (HGet.taken v s)).size : Int) % 7 = 0 := by omega
  have g2 : decide (((HGet.cat (HGet.taken v s)).size : Int) > 63) = false := decide_eq_false (by omega)
  unfold laws_FnCltuGet.f
  by_cases c : (l.length : Int) > 1048576
  · rw [if_pos c]
  rw [if_neg c, hd 500 (by decide)]
  simp only [Option.bind_some]
  rw [hget, cltuGet_at 500 (by decide) v hv s (by omega)]
  simp only [Option.bind_some, if_true]
  rw [e1, e2, if_pos rfl, if_pos g1, g2]
  show laws_FnCltuGet.j0 (499 + 1) s _ false = some true
  rw [laws_FnCltuGet.j0, if_neg (by decide)]
  exact loop_at s (by omega) v hv (HGet.taken v s).length 499 0 (by omega) (by omega) h9

end Go.Proofs.Ytiknnbjfpdeieaa.Pure
