/- FnExactCltuPut: the program's CltuPut and the reference's answer alike. No conditions but that the text is one that a machine holds. -/
import Derived.Test.YtiknnbjfpdeieaaPFnExactCltuPutx2
import Derived.Test.YtiknnbjfpdeieaaHCltu
import Derived.Test.YtiknnbjfpdeieaaBt
namespace Go.Proofs.Ytiknnbjfpdeieaa.Pure
open Go Go.RowKit Go.Proofs.Ytiknnbjfpdeieaa.PFnExactCltuPut Go.Proofs.YtiknnbjfpdeieaaW.PrintWords Go.Proofs.YtiknnbjfpdeieaaW.PrintLast Go.Proofs.YtiknnbjfpdeieaaW.PrintMore Go.Proofs.Ytiknnbjfpdeieaa.Aux Go.Proofs.Ytiknnbjfpdeieaa.Bt

namespace FnExactCltuPutL
/-- The parity's seven bits behind one more bit. -/
def bstep (s b : Nat) : Nat := if s / 64 = b then s * 2 % 128 else (s * 2 % 128) ^^^ 69
theorem bstep_lt : ∀ (s : Fin 128) (b : Fin 2), bstep s.1 b.1 < 128 := by decide +kernel
theorem next_fin : ∀ (s : Fin 128) (b : Fin 2), impl_parity_next.f (s.1 : Int) (b.1 : Int) = some ((bstep s.1 b.1 : Nat) : Int) := by decide +kernel
theorem spec_fin : ∀ (s : Fin 128) (b : Fin 2), (if bits .xor .i64 ((s.1 : Int) / 64) (b.1 : Int) = 1 then bits .xor .i64 (bits .and .i64 (wrap64 ((s.1 : Int) * 2)) 127) 69 else bits .and .i64 (wrap64 ((s.1 : Int) * 2)) 127) = ((bstep s.1 b.1 : Nat) : Int) := by decide +kernel
theorem bit_fin : ∀ (v : Fin 256) (b : Fin 8), bits .and .u8 (shr .u8 (v.1 : Int) (b.1 : Int)) 1 = ((v.1 / 2 ^ b.1 % 2 : Nat) : Int) ∧ bits .and .i64 (shr .i64 (v.1 : Int) (b.1 : Int)) 1 = ((v.1 / 2 ^ b.1 % 2 : Nat) : Int) := by decide +kernel
/-- Bit t of a text, the highest bit of each byte first. -/
def bitAt (s : ByteArray) (t : Nat) : Nat := (bt s ((t / 8 : Nat) : Int)).toNat / 2 ^ (7 - t % 8) % 2
/-- The parity behind t bits of a text. -/
def bst (s : ByteArray) : Nat → Nat
  | 0 => 0
  | t + 1 => bstep (bst s t) (bitAt s t)
theorem bitAt_lt (s : ByteArray) (t : Nat) : bitAt s t < 2 := Nat.mod_lt _ (by decide)
theorem bst_lt (s : ByteArray) (t : Nat) : bst s t < 128 := by
  induction t with
  | zero => exact Nat.zero_lt_of_lt (Nat.lt_succ_self 127)
  | succ t ih => exact bstep_lt ⟨_, ih⟩ ⟨_, bitAt_lt s t⟩
theorem bit_at (s : ByteArray) (t : Nat) : bits .and .u8 (shr .u8 (bt s ((t / 8 : Nat) : Int)) ((7 - t % 8 : Nat) : Int)) 1 = ((bitAt s t : Nat) : Int) ∧ bits .and .i64 (shr .i64 (bt s ((t / 8 : Nat) : Int)) ((7 - t % 8 : Nat) : Int)) 1 = ((bitAt s t : Nat) : Int) := by
  have hb := bt_range s ((t / 8 : Nat) : Int)
  have h := bit_fin ⟨(bt s ((t / 8 : Nat) : Int)).toNat, by omega⟩ ⟨7 - t % 8, by omega⟩
  have e : (((bt s ((t / 8 : Nat) : Int)).toNat : Nat) : Int) = bt s ((t / 8 : Nat) : Int) := by omega
  simp only [e] at h
  exact h
theorem next_at (s : ByteArray) (t : Nat) : impl_parity_next.f ((bst s t : Nat) : Int) ((bitAt s t : Nat) : Int) = some ((bst s (t + 1) : Nat) : Int) := next_fin ⟨_, bst_lt s t⟩ ⟨_, bitAt_lt s t⟩
theorem over_step (k t : Nat) (s : ByteArray) (hs : s.size = 7) (ht : t < 56) :
    impl_parity_over.l1 (k + 1) ((bst s t : Nat) : Int) s ((t / 8 : Nat) : Int) ((7 - t % 8 : Nat) : Int) = impl_parity_over.l1 k ((bst s (t + 1) : Nat) : Int) s ((t / 8 : Nat) : Int) (((7 - t % 8 : Nat) : Int) - 1) := by
  simp only [impl_parity_over.l1]
  rw [if_pos (by omega), if_pos (by omega), if_pos (by omega), if_pos (by omega), (bit_at s t).1, next_at]
  simp only [Option.bind_some]
  rw [w64 (by omega) (by omega)]
/-- The program's two loops. -/
theorem over_l1 (n : Nat) (hn : n = 56) (d : Nat) : ∀ (k t : Nat) (s : ByteArray), 3 * d + 3 ≤ k → s.size = 7 → t + (d + 1) = n →
    impl_parity_over.l1 k ((bst s t : Nat) : Int) s ((t / 8 : Nat) : Int) ((7 - t % 8 : Nat) : Int) = some ((bst s n : Nat) : Int) := by
  induction d with
  | zero =>
    intro k t s hk hs ht
    obtain ⟨k, rfl⟩ : ∃ m, k = m + 3 := ⟨k - 3, by omega⟩
    obtain rfl : n = t + 1 := by omega
    rw [over_step (k + 2) t s hs (by omega)]
    simp only [impl_parity_over.l1]
    rw [if_neg (by omega), w64 (by omega) (by omega)]
    simp only [impl_parity_over.l0]
    rw [if_neg (by omega)]
  | succ d ih =>
    intro k t s hk hs ht
    obtain ⟨k, rfl⟩ : ∃ m, k = m + 3 := ⟨k - 3, by omega⟩
    rw [over_step (k + 2) t s hs (by omega)]
    by_cases h : t % 8 = 7
    · simp only [impl_parity_over.l1]
      rw [if_neg (by omega), w64 (by omega) (by omega)]
      simp only [impl_parity_over.l0]
      rw [if_pos (by omega)]
      have e1 : ((t / 8 : Nat) : Int) + 1 = (((t + 1) / 8 : Nat) : Int) := by omega
      have e2 : (7 : Int) = ((7 - (t + 1) % 8 : Nat) : Int) := by omega
      rw [e1, e2]
      exact ih k (t + 1) s (by omega) hs (by omega)
    · have e1 : ((t / 8 : Nat) : Int) = (((t + 1) / 8 : Nat) : Int) := by omega
      have e2 : ((7 - t % 8 : Nat) : Int) - 1 = ((7 - (t + 1) % 8 : Nat) : Int) := by omega
      rw [e1, e2]
      exact ih (k + 2) (t + 1) s (by omega) hs (by omega)
theorem over_at (k : Nat) (hk : 200 ≤ k) (s : ByteArray) (hs : s.size = 7) : impl_parity_over.f k 0 s = some ((bst s 56 : Nat) : Int) := by
  obtain ⟨k, rfl⟩ : ∃ m, k = m + 1 := ⟨k - 1, by omega⟩
  unfold impl_parity_over.f
  simp only [impl_parity_over.l0]
  rw [if_pos (by omega)]
  exact over_l1 56 rfl 55 k 0 s (by omega) hs (by omega)
theorem idx1 {t : Nat} (ht : t < 56) : wrap64 (Int.tdiv (t : Int) 8) = ((t / 8 : Nat) : Int) := by
  rw [tdivp (by omega), w64 (by omega) (by omega)]
  omega
theorem idx2 {t : Nat} (ht : t < 56) : wrap64 (7 - Int.tmod (t : Int) 8) = ((7 - t % 8 : Nat) : Int) := by
  rw [tmodp (by omega), w64 (by omega) (by omega)]
  omega
theorem idx3 {t : Nat} (ht : t < 56) : wrap64 ((t : Int) + 1) = ((t + 1 : Nat) : Int) := by
  rw [w64 (by omega) (by omega)]
  omega
theorem idx4 (s : ByteArray) (p : Int) : wrap64 (bt s p) = bt s p := by
  have hb := bt_range s p
  exact w64 (by omega) (by omega)
theorem bch_step (k t : Nat) (s : ByteArray) (hs : s.size = 7) (ht : t < 56) :
    spec_Bch.l0 (k + 1) s ((bst s t : Nat) : Int) (t : Int) = spec_Bch.l0 k s ((bst s (t + 1) : Nat) : Int) ((t + 1 : Nat) : Int) := by
  have p1 : (t : Int) < 56 := by omega
  have p2 : 0 ≤ ((t / 8 : Nat) : Int) := by omega
  have p3 : ((t / 8 : Nat) : Int) < (s.size : Int) := by omega
  have p4 : 0 ≤ ((7 - t % 8 : Nat) : Int) := by omega
  simp only [spec_Bch.l0]
  rw [if_pos p1, idx1 ht, idx2 ht, if_pos p2, if_pos p3, if_pos p4, idx4, (bit_at s t).2, idx3 ht]
  have h := spec_fin ⟨bst s t, bst_lt s t⟩ ⟨bitAt s t, bitAt_lt s t⟩
  dsimp only at h
  rw [show bstep (bst s t) (bitAt s t) = bst s (t + 1) from rfl] at h
  by_cases c : bits .xor .i64 (((bst s t : Nat) : Int) / 64) ((bitAt s t : Nat) : Int) = 1
  · rw [if_pos c] at h
    rw [if_pos c, h]
  · rw [if_neg c] at h
    rw [if_neg c, h]
/-- The reference's loop. -/
theorem bch_l0 (n : Nat) (hn : n = 56) (d : Nat) : ∀ (k t : Nat) (s : ByteArray), d < k → s.size = 7 → t + d = n →
    spec_Bch.l0 k s ((bst s t : Nat) : Int) (t : Int) = some (wrap64 ((bits .xor .i64 ((bst s n : Nat) : Int) 127) * 2)) := by
  induction d with
  | zero =>
    intro k t s hk hs ht
    obtain ⟨k, rfl⟩ : ∃ m, k = m + 1 := ⟨k - 1, by omega⟩
    obtain rfl : n = t := by omega
    simp only [spec_Bch.l0]
    rw [if_neg (by omega)]
  | succ d ih =>
    intro k t s hk hs ht
    obtain ⟨k, rfl⟩ : ∃ m, k = m + 1 := ⟨k - 1, by omega⟩
    rw [bch_step k t s hs (by omega)]
    exact ih k (t + 1) s (by omega) hs (by omega)
theorem last_fin : ∀ (s : Fin 128), wrap64 ((bits .xor .i64 (s.1 : Int) 127) * 2) = (((s.1 ^^^ 127) * 2 : Nat) : Int) ∧ wrap64 ((wrap64 (bits .xor .u8 (s.1 : Int) 127)) * 2) = (((s.1 ^^^ 127) * 2 : Nat) : Int) := by decide +kernel
/-- Bch's answer. -/
def bch (s : ByteArray) : Int := if s.size = 7 then (((bst s 56 ^^^ 127) * 2 : Nat) : Int) else -1
theorem implBch_at (k : Nat) (hk : 200 ≤ k) (s : ByteArray) : impl_Bch.f k s = some (bch s) := by
  unfold impl_Bch.f bch
  by_cases hs : s.size = 7
  · rw [if_pos (by omega), if_pos hs, over_at k hk s hs]
    simp only [Option.bind_some]
    rw [(last_fin ⟨bst s 56, bst_lt s 56⟩).2]
  · rw [if_neg (by omega), if_neg hs]
theorem specBch_at (k : Nat) (hk : 60 ≤ k) (s : ByteArray) : spec_Bch.f k s = some (bch s) := by
  unfold spec_Bch.f bch
  by_cases hs : s.size = 7
  · rw [if_pos (by omega), if_pos hs]
    have h := bch_l0 56 rfl 56 k 0 s (by omega) hs (by omega)
    rw [(last_fin ⟨bst s 56, bst_lt s 56⟩).1] at h
    exact h
  · rw [if_neg (by omega), if_neg hs]
theorem l1Put_l0 (d : Nat) : ∀ (k : Nat) (n size i : Int) (out : ByteArray), d < k → 0 ≤ n → n ≤ 9223372036854775807 → 0 ≤ i → size ≤ 4 → size - i = d → out.size ≤ 4 - d →
    spec_l1Put.l0 k n size out i = some (strOfNums (be d n) ++ out) := by
  induction d with
  | zero =>
    intro k n size i out hk h0 h1 hi hs hd ho
    obtain ⟨k, rfl⟩ : ∃ m, k = m + 1 := ⟨k - 1, by omega⟩
    simp only [spec_l1Put.l0]
    rw [if_neg (by omega)]
    show some out = some ((⟨#[]⟩ : ByteArray) ++ out)
    rw [str_nil_append]
  | succ d ih =>
    intro k n size i out hk h0 h1 hi hs hd ho
    obtain ⟨k, rfl⟩ : ∃ m, k = m + 1 := ⟨k - 1, by omega⟩
    have hsz : (strOfNums [(Int.tmod n 256) % 256]).size = 1 := by rw [strOfNums_size]; rfl
    simp only [spec_l1Put.l0]
    rw [if_pos (by omega)]
    simp only [Option.bind_some]
    rw [if_pos (by omega), w64 (x := i + 1) (by omega) (by omega), tdivp h0, w64 (x := n / 256) (by omega) (by omega)]
    rw [ih _ _ _ _ _ (by omega) (by omega) (by omega) (by omega) hs (by omega) (by rw [ByteArray.size_append]; omega)]
    have e : (Int.tmod n 256) % 256 = n % 256 := by rw [tmodp h0]; omega
    rw [e, be, strOfNums_append, ByteArray.append_assoc]
theorem l1Put_at (k : Nat) (hk : 5 ≤ k) (n size : Int) (h0 : 0 ≤ n) (h1 : n ≤ 9223372036854775807) (hs0 : 0 ≤ size) (hs : size ≤ 4) :
    spec_l1Put.f k n size = some (strOfNums (be size.toNat n)) := by
  unfold spec_l1Put.f
  rw [l1Put_l0 size.toNat k n size 0 _ (by omega) h0 h1 (by omega) hs (by omega) (by show 0 ≤ _; omega), str_append_nil]
theorem bch_range (s : ByteArray) : 0 ≤ bch s + 1 ∧ bch s ≤ 255 := by
  unfold bch
  split
  · have h := bst_lt s 56
    have : bst s 56 ^^^ 127 < 128 := Nat.xor_lt_two_pow (n := 7) h (by decide)
    omega
  · omega
theorem bch7 (s : ByteArray) (h : s.size = 7) : 0 ≤ bch s ∧ bch s ≤ 255 := by
  refine ⟨?_, (bch_range s).2⟩
  unfold bch
  rw [if_pos h]
  omega
theorem fill_zero : HCltu.fill 0 = (⟨#[]⟩ : ByteArray) := rfl
theorem fill_succ (q : Nat) : HCltu.fill (q + 1) = (⟨#[85]⟩ : ByteArray) ++ HCltu.fill q := by
  apply ByteArray.ext
  simp [HCltu.fill, Lib.repeatL]
theorem one_put (s : ByteArray) (h : s.size = 7) (k : Nat) (hk : 5 ≤ k) : spec_l1Put.f k (bch s) 1 = some (HCltu.one (bch s)) := by
  obtain ⟨h0, h1⟩ := bch7 s h
  rw [l1Put_at k hk (bch s) 1 h0 (by omega) (by decide) (by decide)]
  rfl
/-- A block of the reference. -/
def blockOf (p : ByteArray) : ByteArray := (p ++ HCltu.fill (7 - p.size)) ++ HCltu.one (bch (p ++ HCltu.fill (7 - p.size)))
theorem block_l0 (d : Nat) : ∀ (k : Nat) (p : ByteArray), 80 + d ≤ k → p.size + d = 7 → spec_l2Block.l0 k p = some (blockOf p) := by
  induction d with
  | zero =>
    intro k p hk hp
    obtain ⟨k, rfl⟩ : ∃ m, k = m + 1 := ⟨k - 1, by omega⟩
    simp only [spec_l2Block.l0]
    rw [if_neg (by omega), specBch_at k (by omega) p]
    simp only [Option.bind_some]
    rw [one_put p (by omega) k (by omega)]
    simp only [Option.bind_some]
    rw [if_pos (by rw [HCltu.one_size]; omega)]
    unfold blockOf
    rw [show 7 - p.size = 0 by omega, fill_zero, str_append_nil]
  | succ d ih =>
    intro k p hk hp
    obtain ⟨k, rfl⟩ : ∃ m, k = m + 1 := ⟨k - 1, by omega⟩
    have hs : (p ++ (⟨#[85]⟩ : ByteArray)).size = p.size + 1 := ByteArray.size_append
    simp only [spec_l2Block.l0]
    rw [if_pos (by omega), if_pos (by omega), ih k _ (by omega) (by omega)]
    have e : (p ++ (⟨#[85]⟩ : ByteArray)) ++ HCltu.fill (7 - (p ++ (⟨#[85]⟩ : ByteArray)).size) = p ++ HCltu.fill (7 - p.size) := by
      rw [hs, show 7 - p.size = (7 - (p.size + 1)) + 1 by omega, fill_succ, ByteArray.append_assoc]
    unfold blockOf
    rw [e]
theorem block_at (k : Nat) (hk : 90 ≤ k) (p : ByteArray) (hp : p.size ≤ 7) : spec_l2Block.f k p = some (blockOf p) := block_l0 (7 - p.size) k p (by omega) (by omega)
theorem block_size (p : ByteArray) (hp : p.size ≤ 7) : (blockOf p).size = 8 := by
  unfold blockOf
  rw [ByteArray.size_append, ByteArray.size_append, HCltu.one_size, HCltu.fill_size]
  omega
theorem pad_size (t : ByteArray) : (HCltu.pad t).size = 7 * ((t.size + 6) / 7) := by
  unfold HCltu.pad
  split
  · omega
  · rw [ByteArray.size_append, HCltu.fill_size]
    omega
theorem pad_full (t : ByteArray) (j : Nat) (h : 7 * j + 7 ≤ t.size) : (HCltu.pad t).extract (7 * j) (7 * j + 7) = t.extract (7 * j) (7 * j + 7) := by
  unfold HCltu.pad
  split
  · rfl
  · rw [ByteArray.extract_append, show 7 * j - t.size = 0 by omega, show 7 * j + 7 - t.size = 0 by omega]
    have e : (HCltu.fill (7 - t.size % 7)).extract 0 0 = (⟨#[]⟩ : ByteArray) := by
      apply ByteArray.ext
      simp
    rw [e, str_append_nil]
theorem pad_last (t : ByteArray) (j : Nat) (h : 7 * j < t.size) (h2 : t.size < 7 * j + 7) : (HCltu.pad t).extract (7 * j) (7 * j + 7) = t.extract (7 * j) t.size ++ HCltu.fill (7 - (t.extract (7 * j) t.size).size) := by
  have hs : (t.extract (7 * j) t.size).size = t.size - 7 * j := by rw [ByteArray.size_extract]; omega
  unfold HCltu.pad
  rw [if_neg (by omega), ByteArray.extract_append, hs, show 7 - t.size % 7 = 7 - (t.size - 7 * j) by omega, show 7 * j - t.size = 0 by omega, show 7 * j + 7 - t.size = 7 - (t.size - 7 * j) by omega]
  have e1 : t.extract (7 * j) (7 * j + 7) = t.extract (7 * j) t.size := by
    apply ByteArray.ext
    simp only [ByteArray.data_extract]
    have : t.data.size = t.size := rfl
    apply Array.ext
    · rw [Array.size_extract, Array.size_extract]; omega
    · intro i h1 h2
      simp
  have e2 : (HCltu.fill (7 - (t.size - 7 * j))).extract 0 (7 - (t.size - 7 * j)) = HCltu.fill (7 - (t.size - 7 * j)) := by
    conv => lhs; arg 3; rw [← HCltu.fill_size (7 - (t.size - 7 * j))]
    exact ByteArray.extract_zero_size
  rw [e1, e2]
/-- What one block of the reference stands for. -/
theorem runs_next (t : ByteArray) (v : ByteArray → Int) (hv : ∀ s : ByteArray, s.size = 7 → v s = bch s) (j m : Nat) (hm : (t.size + 6) / 7 = j + (m + 1)) (p : ByteArray) (hp : p ++ HCltu.fill (7 - p.size) = (HCltu.pad t).extract (7 * j) (7 * j + 7)) :
    HCltu.runs v (m + 1) ((HCltu.pad t).extract (7 * j) (HCltu.pad t).size) = blockOf p ++ HCltu.runs v m ((HCltu.pad t).extract (7 * (j + 1)) (HCltu.pad t).size) := by
  have hz := pad_size t
  have e1 : ((HCltu.pad t).extract (7 * j) (HCltu.pad t).size).extract 0 7 = (HCltu.pad t).extract (7 * j) (7 * j + 7) := by
    rw [ByteArray.extract_extract, show 7 * j + 0 = 7 * j by omega, show min (7 * j + 7) (HCltu.pad t).size = 7 * j + 7 by omega]
  have e2 : ((HCltu.pad t).extract (7 * j) (HCltu.pad t).size).extract 7 ((HCltu.pad t).extract (7 * j) (HCltu.pad t).size).size = (HCltu.pad t).extract (7 * (j + 1)) (HCltu.pad t).size := by
    rw [ByteArray.extract_extract, ByteArray.size_extract, show 7 * j + 7 = 7 * (j + 1) by omega, show min (7 * j + (min (HCltu.pad t).size (HCltu.pad t).size - 7 * j)) (HCltu.pad t).size = (HCltu.pad t).size by omega]
  have hs : ((HCltu.pad t).extract (7 * j) (7 * j + 7)).size = 7 := by rw [ByteArray.size_extract]; omega
  have er : ∀ r : ByteArray, HCltu.runs v (m + 1) r = ((r.extract 0 7) ++ HCltu.one (v (r.extract 0 7))) ++ HCltu.runs v m (r.extract 7 r.size) := fun _ => rfl
  rw [er, e1, e2, hv _ hs]
  unfold blockOf
  rw [hp]
theorem blocks_l0 (t : ByteArray) (h63 : t.size ≤ 63) (v : ByteArray → Int) (hv : ∀ s : ByteArray, s.size = 7 → v s = bch s) (m : Nat) : ∀ (k j : Nat) (acc : ByteArray), 100 + m ≤ k → (t.size + 6) / 7 = j + m → acc.size + 8 * m ≤ 80 →
    spec_l2Blocks.l0 k t acc ((7 * j : Nat) : Int) = some (acc ++ HCltu.runs v m ((HCltu.pad t).extract (7 * j) (HCltu.pad t).size)) := by
  induction m with
  | zero =>
    intro k j acc hk hj ha
    obtain ⟨k, rfl⟩ : ∃ m, k = m + 1 := ⟨k - 1, by omega⟩
    simp only [spec_l2Blocks.l0]
    rw [if_neg (by omega)]
    show some acc = some (acc ++ (⟨#[]⟩ : ByteArray))
    rw [str_append_nil]
  | succ m ih =>
    intro k j acc hk hj ha
    obtain ⟨k, rfl⟩ : ∃ m, k = m + 1 := ⟨k - 1, by omega⟩
    have ew : wrap64 (((7 * j : Nat) : Int) + 7) = ((7 * (j + 1) : Nat) : Int) := by rw [w64 (by omega) (by omega)]; omega
    have g1 : ((7 * j : Nat) : Int) < (t.size : Int) := by omega
    have g2 : 0 ≤ ((7 * j : Nat) : Int) := by omega
    have g3 : ((7 * j : Nat) : Int) ≤ (t.size : Int) := by omega
    have g4 : ((7 * j : Nat) : Int) ≤ ((7 * (j + 1) : Nat) : Int) := by omega
    simp only [spec_l2Blocks.l0]
    rw [if_pos g1, ew]
    by_cases c : ((7 * (j + 1) : Nat) : Int) > (t.size : Int)
    · have c2 : t.size < 7 * j + 7 := by omega
      rw [if_pos c, if_pos g2, if_pos g3, if_pos (Int.le_refl _), Int.toNat_natCast, Int.toNat_natCast]
      have hp : (t.extract (7 * j) t.size).size ≤ 7 := by rw [ByteArray.size_extract]; omega
      have hb := block_size _ hp
      rw [block_at k (by omega) _ hp]
      simp only [Option.bind_some]
      rw [if_pos (by omega), ih k (j + 1) _ (by omega) (by omega) (by rw [ByteArray.size_append]; omega), runs_next t v hv j m hj _ (pad_last t j (by omega) c2).symm, ByteArray.append_assoc]
    · have c2 : 7 * j + 7 ≤ t.size := by omega
      have g5 : ((7 * (j + 1) : Nat) : Int) ≤ (t.size : Int) := by omega
      have e7 : 7 * (j + 1) = 7 * j + 7 := by omega
      have hp7 : (t.extract (7 * j) (7 * (j + 1))).size = 7 := by rw [ByteArray.size_extract]; omega
      have hp : (t.extract (7 * j) (7 * (j + 1))).size ≤ 7 := by omega
      have hb := block_size _ hp
      have hf : t.extract (7 * j) (7 * (j + 1)) ++ HCltu.fill (7 - (t.extract (7 * j) (7 * (j + 1))).size) = (HCltu.pad t).extract (7 * j) (7 * j + 7) := by
        rw [hp7, show 7 - 7 = 0 from rfl, fill_zero, str_append_nil, pad_full t j c2, e7]
      rw [if_neg c, if_pos g2, if_pos g4, if_pos g5, Int.toNat_natCast, Int.toNat_natCast, block_at k (by omega) _ hp]
      simp only [Option.bind_some]
      rw [if_pos (by omega), ih k (j + 1) _ (by omega) (by omega) (by rw [ByteArray.size_append]; omega), runs_next t v hv j m hj _ hf, ByteArray.append_assoc]
theorem runs_size (v : ByteArray → Int) (m : Nat) : ∀ r : ByteArray, r.size = 7 * m → (HCltu.runs v m r).size = 8 * m := by
  induction m with
  | zero => intro r _; rfl
  | succ m ih =>
    intro r hr
    obtain ⟨h1, h2⟩ := HCltu.head7 hr
    unfold HCltu.runs
    rw [ByteArray.size_append, ByteArray.size_append, HCltu.one_size, h1, ih _ h2]
    omega
theorem cltuPut_at (k : Nat) (hk : 200 ≤ k) (v : ByteArray → Int) (hv : ∀ s : ByteArray, s.size = 7 → v s = bch s) (t : ByteArray) : spec_CltuPut.f k t = some (HCltu.put v t) := by
  unfold spec_CltuPut.f HCltu.put spec_l1In.f
  by_cases h : 1 ≤ t.size ∧ t.size ≤ 63
  · have hb := blocks_l0 t h.2 v hv ((t.size + 6) / 7) k 0 (⟨#[]⟩ : ByteArray) (by omega) (by omega) (by show 0 + _ ≤ _; omega)
    have hz := pad_size t
    rw [if_pos h, if_pos (by omega)]
    simp only [Option.bind_some]
    rw [if_pos (by apply decide_eq_true; omega)]
    unfold spec_l2Blocks.f spec_l2Start.f spec_l2Tail.f
    rw [show ((0 : Int)) = ((7 * 0 : Nat) : Int) from rfl, hb, str_nil_append, show 7 * 0 = 0 from rfl, ByteArray.extract_zero_size]
    simp only [Option.bind_some]
    have hr := runs_size v ((t.size + 6) / 7) (HCltu.pad t) (by omega)
    have hr2 : (⟨#[235, 144]⟩ : ByteArray).size = 2 := rfl
    have hr3 : (⟨#[197, 197, 197, 197, 197, 197, 197, 121]⟩ : ByteArray).size = 8 := rfl
    rw [hr, hr2, hr3, if_pos (by omega), if_pos (by omega), show (HCltu.pad t).size / 7 = (t.size + 6) / 7 by omega]
    rfl
  · rw [if_neg h]
    by_cases h1 : (t.size : Int) ≥ 1
    · rw [if_pos h1]
      simp only [Option.bind_some]
      rw [if_neg (by simp; omega)]
    · rw [if_neg h1]
      simp
end FnExactCltuPutL
open FnExactCltuPutL

theorem FnExactCltuPut : laws_FnExactCltuPut.Pure := by
  intro t _
  refine ⟨300, ?_⟩
  have hv : ∀ s : ByteArray, s.size = 7 → impl_CltuPut.v 300 s = bch s := fun s hs => by
    unfold impl_CltuPut.v
    rw [if_pos hs, implBch_at 300 (by decide) s]
    rfl
  unfold laws_FnExactCltuPut.f impl_CltuPut.f
  rw [cltuPut_at 300 (by decide) _ hv t, if_pos (fun s _ => ⟨_, implBch_at 300 (by decide) s⟩)]
  simp

end Go.Proofs.Ytiknnbjfpdeieaa.Pure
