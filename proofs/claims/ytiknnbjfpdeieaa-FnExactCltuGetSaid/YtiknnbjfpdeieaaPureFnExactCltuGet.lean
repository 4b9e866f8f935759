/- FnExactCltuGet: the program's CltuGet and the reference's answer alike. No conditions but that the text is one that a machine holds. -/
import Derived.Test.YtiknnbjfpdeieaaPFnExactCltuGetx1
import Derived.Test.YtiknnbjfpdeieaaHGet2
import Derived.Test.YtiknnbjfpdeieaaBt
namespace Go.Proofs.Ytiknnbjfpdeieaa.Pure
open Go Go.RowKit Go.Proofs.Ytiknnbjfpdeieaa.PFnExactCltuGet Go.Proofs.YtiknnbjfpdeieaaW.PrintWords Go.Proofs.YtiknnbjfpdeieaaW.PrintLast Go.Proofs.YtiknnbjfpdeieaaW.PrintMore Go.Proofs.Ytiknnbjfpdeieaa.Aux Go.Proofs.Ytiknnbjfpdeieaa.Bt

namespace FnExactCltuGetL
/-- The parity's seven bits behind one more bit. -/
def bstep (s b : Nat) : Nat := if s / 64 = b then s * 2 % 128 else (s * 2 % 128) ^^^ 69
theorem bstep_lt : ∀ (s : Fin 128) (b : Fin 2), bstep s.1 b.1 < 128 := by decide +kernel
theorem next_fin : ∀ (s : Fin 128) (b : Fin 2), impl_parity_next.f (s.1 : Int) (b.1 : Int) = some ((bstep s.1 b.1 : Nat) : Int) := by decide +kernel
theorem spec_fin : ∀ (s : Fin 128) (b : Fin 2), (if bits .xor .i64 ((s.1 : Int) / 64) (b.1 : Int) = 1 then bits .xor .i64 (bits .and .i64 (wrap64 ((s.1 : Int) * 2)) 127) 69 else bits .and .i64 (wrap64 ((s.1 : Int) * 2)) 127) = ((bstep s.1 b.1 : Nat) : Int) := by decide +kernel
theorem bit_fin : ∀ (v : Fin 256) (b : Fin 8), bits .and .u8 (shr .u8 (v.1 : Int) (b.1 : Int)) 1 = ((v.1 / 2 ^ b.1 % 2 : Nat) : Int) ∧ bits .and .i64 (shr .i64 (v.1 : Int) (b.1 : Int)) 1 = ((v.1 / 2 ^ b.1 % 2 : Nat) : Int) := by decide +kernel
/-- Bit t of a text, the highest bit of each byte first. -/
def bitAt (s : ByteArray) (t : Nat) : Nat := (bt s ((t / 8 : Nat) : Int)).toNat / 2 ^ (7 - t % 8) % 2
/-- The parity behind t bits of a text. -/
def bst (s : ByteArray) : Nat → Nat
  | 0 => 0
  | t + 1 => bstep (bst s t) (bitAt s t)
theorem bitAt_lt (s : ByteArray) (t : Nat) : bitAt s t < 2 := Nat.mod_lt _ (by decide)
theorem bst_lt (s : ByteArray) (t : Nat) : bst s t < 128 := by
  induction t with
  | zero => exact Nat.zero_lt_of_lt (Nat.lt_succ_self 127)
  | succ t ih => exact bstep_lt ⟨_, ih⟩ ⟨_, bitAt_lt s t⟩
theorem bit_at (s : ByteArray) (t : Nat) : bits .and .u8 (shr .u8 (bt s ((t / 8 : Nat) : Int)) ((7 - t % 8 : Nat) : Int)) 1 = ((bitAt s t : Nat) : Int) ∧ bits .and .i64 (shr .i64 (bt s ((t / 8 : Nat) : Int)) ((7 - t % 8 : Nat) : Int)) 1 = ((bitAt s t : Nat) : Int) := by
  have hb := bt_range s ((t / 8 : Nat) : Int)
  have h := bit_fin ⟨(bt s ((t / 8 : Nat) : Int)).toNat, by omega⟩ ⟨7 - t % 8, by omega⟩
  have e : (((bt s ((t / 8 : Nat) : Int)).toNat : Nat) : Int) = bt s ((t / 8 : Nat) : Int) := by omega
  simp only [e] at h
  exact h
theorem next_at (s : ByteArray) (t : Nat) : impl_parity_next.f ((bst s t : Nat) : Int) ((bitAt s t : Nat) : Int) = some ((bst s (t + 1) : Nat) : Int) := next_fin ⟨_, bst_lt s t⟩ ⟨_, bitAt_lt s t⟩
theorem over_step (k t : Nat) (s : ByteArray) (hs : s.size = 7) (ht : t < 56) :
    impl_parity_over.l1 (k + 1) ((bst s t : Nat) : Int) s ((t / 8 : Nat) : Int) ((7 - t % 8 : Nat) : Int) = impl_parity_over.l1 k ((bst s (t + 1) : Nat) : Int) s ((t / 8 : Nat) : Int) (((7 - t % 8 : Nat) : Int) - 1) := by
  simp only [impl_parity_over.l1]
  rw [if_pos (by omega), if_pos (by omega), if_pos (by omega), if_pos (by omega), (bit_at s t).1, next_at]
  simp only [Option.bind_some]
  rw [w64 (by omega) (by omega)]
/-- The program's two loops. -/
theorem over_l1 (n : Nat) (hn : n = 56) (d : Nat) : ∀ (k t : Nat) (s : ByteArray), 3 * d + 3 ≤ k → s.size = 7 → t + (d + 1) = n →
    impl_parity_over.l1 k ((bst s t : Nat) : Int) s ((t / 8 : Nat) : Int) ((7 - t % 8 : Nat) : Int) = some ((bst s n : Nat) : Int) := by
  induction d with
  | zero =>
    intro k t s hk hs ht
    obtain ⟨k, rfl⟩ : ∃ m, k = m + 3 := ⟨k - 3, by omega⟩
    obtain rfl : n = t + 1 := by omega
    rw [over_step (k + 2) t s hs (by omega)]
    simp only [impl_parity_over.l1]
    rw [if_neg (by omega), w64 (by omega) (by omega)]
    simp only [impl_parity_over.l0]
    rw [if_neg (by omega)]
  | succ d ih =>
    intro k t s hk hs ht
    obtain ⟨k, rfl⟩ : ∃ m, k = m + 3 := ⟨k - 3, by omega⟩
    rw [over_step (k + 2) t s hs (by omega)]
    by_cases h : t % 8 = 7
    · simp only [impl_parity_over.l1]
      rw [if_neg (by omega), w64 (by omega) (by omega)]
      simp only [impl_parity_over.l0]
      rw [if_pos (by omega)]
      have e1 : ((t / 8 : Nat) : Int) + 1 = (((t + 1) / 8 : Nat) : Int) := by omega
      have e2 : (7 : Int) = ((7 - (t + 1) % 8 : Nat) : Int) := by omega
      rw [e1, e2]
      exact ih k (t + 1) s (by omega) hs (by omega)
    · have e1 : ((t / 8 : Nat) : Int) = (((t + 1) / 8 : Nat) : Int) := by omega
      have e2 : ((7 - t % 8 : Nat) : Int) - 1 = ((7 - (t + 1) % 8 : Nat) : Int) := by omega
      rw [e1, e2]
      exact ih (k + 2) (t + 1) s (by omega) hs (by omega)
theorem over_at (k : Nat) (hk : 200 ≤ k) (s : ByteArray) (hs : s.size = 7) : impl_parity_over.f k 0 s = some ((bst s 56 : Nat) : Int) := by
  obtain ⟨k, rfl⟩ : ∃ m, k = m + 1 := ⟨k - 1, by omega⟩
  unfold impl_parity_over.f
  simp only [impl_parity_over.l0]
  rw [if_pos (by omega)]
  exact over_l1 56 rfl 55 k 0 s (by omega) hs (by omega)
theorem idx1 {t : Nat} (ht : t < 56) : wrap64 (Int.tdiv (t : Int) 8) = ((t / 8 : Nat) : Int) := by
  rw [tdivp (by omega), w64 (by omega) (by omega)]
  omega
theorem idx2 {t : Nat} (ht : t < 56) : wrap64 (7 - Int.tmod (t : Int) 8) = ((7 - t % 8 : Nat) : Int) := by
  rw [tmodp (by omega), w64 (by omega) (by omega)]
  omega
theorem idx3 {t : Nat} (ht : t < 56) : wrap64 ((t : Int) + 1) = ((t + 1 : Nat) : Int) := by
  rw [w64 (by omega) (by omega)]
  omega
theorem idx4 (s : ByteArray) (p : Int) : wrap64 (bt s p) = bt s p := by
  have hb := bt_range s p
  exact w64 (by omega) (by omega)
theorem bch_step (k t : Nat) (s : ByteArray) (hs : s.size = 7) (ht : t < 56) :
    spec_Bch.l0 (k + 1) s ((bst s t : Nat) : Int) (t : Int) = spec_Bch.l0 k s ((bst s (t + 1) : Nat) : Int) ((t + 1 : Nat) : Int) := by
  have p1 : (t : Int) < 56 := by omega
  have p2 : 0 ≤ ((t / 8 : Nat) : Int) := by omega
  have p3 : ((t / 8 : Nat) : Int) < (s.size : Int) := by omega
  have p4 : 0 ≤ ((7 - t % 8 : Nat) : Int) := by omega
  simp only [spec_Bch.l0]
  rw [if_pos p1, idx1 ht, idx2 ht, if_pos p2, if_pos p3, if_pos p4, idx4, (bit_at s t).2, idx3 ht]
  have h := spec_fin ⟨bst s t, bst_lt s t⟩ ⟨bitAt s t, bitAt_lt s t⟩
  dsimp only at h
  rw [show bstep (bst s t) (bitAt s t) = bst s (t + 1) from rfl] at h
  by_cases c : bits .xor .i64 (((bst s t : Nat) : Int) / 64) ((bitAt s t : Nat) : Int) = 1
  · rw [if_pos c] at h
    rw [if_pos c, h]
  · rw [if_neg c] at h
    rw [if_neg c, h]
/-- The reference's loop. -/
theorem bch_l0 (n : Nat) (hn : n = 56) (d : Nat) : ∀ (k t : Nat) (s : ByteArray), d < k → s.size = 7 → t + d = n →
    spec_Bch.l0 k s ((bst s t : Nat) : Int) (t : Int) = some (wrap64 ((bits .xor .i64 ((bst s n : Nat) : Int) 127) * 2)) := by
  induction d with
  | zero =>
    intro k t s hk hs ht
    obtain ⟨k, rfl⟩ : ∃ m, k = m + 1 := ⟨k - 1, by omega⟩
    obtain rfl : n = t := by omega
    simp only [spec_Bch.l0]
    rw [if_neg (by omega)]
  | succ d ih =>
    intro k t s hk hs ht
    obtain ⟨k, rfl⟩ : ∃ m, k = m + 1 := ⟨k - 1, by omega⟩
    rw [bch_step k t s hs (by omega)]
    exact ih k (t + 1) s (by omega) hs (by omega)
theorem last_fin : ∀ (s : Fin 128), wrap64 ((bits .xor .i64 (s.1 : Int) 127) * 2) = (((s.1 ^^^ 127) * 2 : Nat) : Int) ∧ wrap64 ((wrap64 (bits .xor .u8 (s.1 : Int) 127)) * 2) = (((s.1 ^^^ 127) * 2 : Nat) : Int) := by decide +kernel
/-- Bch's answer. -/
def bch (s : ByteArray) : Int := if s.size = 7 then (((bst s 56 ^^^ 127) * 2 : Nat) : Int) else -1
theorem implBch_at (k : Nat) (hk : 200 ≤ k) (s : ByteArray) : impl_Bch.f k s = some (bch s) := by
  unfold impl_Bch.f bch
  by_cases hs : s.size = 7
  · rw [if_pos (by omega), if_pos hs, over_at k hk s hs]
    simp only [Option.bind_some]
    rw [(last_fin ⟨bst s 56, bst_lt s 56⟩).2]
  · rw [if_neg (by omega), if_neg hs]
theorem specBch_at (k : Nat) (hk : 60 ≤ k) (s : ByteArray) : spec_Bch.f k s = some (bch s) := by
  unfold spec_Bch.f bch
  by_cases hs : s.size = 7
  · rw [if_pos (by omega), if_pos hs]
    have h := bch_l0 56 rfl 56 k 0 s (by omega) hs (by omega)
    rw [(last_fin ⟨bst s 56, bst_lt s 56⟩).1] at h
    exact h
  · rw [if_neg (by omega), if_neg hs]
theorem cat_fold (xs : List HGet.B7) : ∀ s : ByteArray, xs.foldl (fun s (x : HGet.B7) => s ++ x.1) s = s ++ HGet.cat xs := by
  induction xs with
  | nil => intro s; exact (str_append_nil s).symm
  | cons x xs ih =>
    intro s
    have h1 : HGet.cat (x :: xs) = ((⟨#[]⟩ : ByteArray) ++ x.1) ++ HGet.cat xs := by
      rw [← ih]
      rfl
    rw [List.foldl_cons, ih, h1, str_nil_append, ByteArray.append_assoc]
theorem cat_cons (x : HGet.B7) (xs : List HGet.B7) : HGet.cat (x :: xs) = x.1 ++ HGet.cat xs := by
  have h := cat_fold xs ((⟨#[]⟩ : ByteArray) ++ x.1)
  rw [str_nil_append] at h
  rw [← h]
  show xs.foldl _ ((⟨#[]⟩ : ByteArray) ++ x.1) = _
  rw [str_nil_append]
theorem bt_cut (t : ByteArray) (a : Nat) (h : a + 8 ≤ t.size) : bt (t.extract a t.size) 7 = bt t ((a + 7 : Nat) : Int) := by
  have h1 : (7 : Int).toNat < (t.extract a t.size).size := by
    rw [ByteArray.size_extract]
    show 7 < _
    omega
  have h2 : (((a + 7 : Nat) : Int)).toNat < t.size := by rw [Int.toNat_natCast]; omega
  rw [← bt_at _ _ h1, ← bt_at _ _ h2]
  have e : (t.extract a t.size)[(7 : Int).toNat]'h1 = t[(((a + 7 : Nat) : Int)).toNat]'h2 := ByteArray.getElem_extract h1
  rw [e]
theorem blocks_more (v : ByteArray → Int) : ∀ (k : Nat) (r : ByteArray), r.size ≤ k → HGet.blocks v (k + 1) r = HGet.blocks v k r := by
  intro k
  induction k with
  | zero =>
    intro r h
    rw [HGet.blocks_nil v (fun h8 => absurd h8.1 (by omega)), HGet.blocks_nil v (fun h8 => absurd h8.1 (by omega))]
  | succ k ih =>
    intro r h
    by_cases hok : HGet.okAt v r
    · rw [HGet.blocks_cons v hok.1 hok.2 (by omega), HGet.blocks_cons v hok.1 hok.2 h]
      exact congrArg _ (ih _ (by rw [ByteArray.size_extract]; omega))
    · rw [HGet.blocks_nil v hok, HGet.blocks_nil v hok]
theorem sum_eq (j n : Nat) : ((8 * (j + 1) + 8 * n : Nat) : Int) = ((8 * j + 8 * (n + 1) : Nat) : Int) := by omega
theorem get_l0 (t : ByteArray) (_ : t.size ≤ 1048576) (v : ByteArray → Int) (hv : ∀ s : ByteArray, s.size = 7 → v s = bch s) (m : Nat) : ∀ (k K j : Nat) (acc : ByteArray), 100 + m ≤ k → j + m = 9 → acc.size = 7 * j → t.size ≤ 8 * j + K →
    spec_CltuGet.l0 k t acc ((8 * j : Nat) : Int) = some (acc ++ HGet.cat ((HGet.blocks v K (t.extract (8 * j) t.size)).take m), ((8 * j + 8 * ((HGet.blocks v K (t.extract (8 * j) t.size)).take m).length : Nat) : Int)) := by
  induction m with
  | zero =>
    intro k K j acc hk hj ha hK
    obtain ⟨k, rfl⟩ : ∃ m, k = m + 1 := ⟨k - 1, by omega⟩
    have e2 : wrap64 ((acc.size : Int) + 7) = 70 := by rw [w64 (by omega) (by omega)]; omega
    have e3 : HGet.cat [] = (⟨#[]⟩ : ByteArray) := rfl
    simp only [spec_CltuGet.l0, List.take_zero, List.length_nil, Nat.mul_zero, Nat.add_zero, e3, str_append_nil]
    rw [e2, if_neg (show ¬ ((70 : Int) ≤ 63) by omega), ite_self]
  | succ m ih =>
    intro k K j acc hk hj ha hK
    obtain ⟨k, rfl⟩ : ∃ m, k = m + 1 := ⟨k - 1, by omega⟩
    have e1 : wrap64 (((8 * j : Nat) : Int) + 8) = ((8 * (j + 1) : Nat) : Int) := by rw [w64 (by omega) (by omega)]; omega
    have e2 : wrap64 (((8 * j : Nat) : Int) + 7) = ((8 * j + 7 : Nat) : Int) := by rw [w64 (by omega) (by omega)]; omega
    have e3 : wrap64 ((acc.size : Int) + 7) = ((7 * j + 7 : Nat) : Int) := by rw [w64 (by omega) (by omega)]; omega
    have hrs : (t.extract (8 * j) t.size).size = t.size - 8 * j := by rw [ByteArray.size_extract]; omega
    have k2 : (t.extract (8 * j) t.size).size ≤ K := by omega
    have k3 : 100 + m ≤ k := by omega
    have k4 : j + 1 + m = 9 := by omega
    have k5 : t.size ≤ 8 * (j + 1) + (K - 1) := by omega
    simp only [spec_CltuGet.l0]
    rw [e1, e2, e3]
    by_cases c1 : ((8 * (j + 1) : Nat) : Int) ≤ (t.size : Int)
    · have c1' : 8 * j + 8 ≤ t.size := by omega
      have k1 : 8 ≤ (t.extract (8 * j) t.size).size := by omega
      have g2 : ((7 * j + 7 : Nat) : Int) ≤ 63 := by omega
      have g3 : 0 ≤ ((8 * j : Nat) : Int) := by omega
      have g4 : ((8 * j : Nat) : Int) ≤ ((8 * j + 7 : Nat) : Int) := by omega
      have g5 : ((8 * j + 7 : Nat) : Int) ≤ (t.size : Int) := by omega
      have g6 : 0 ≤ ((8 * j + 7 : Nat) : Int) := by omega
      have g7 : ((8 * j + 7 : Nat) : Int) < (t.size : Int) := by omega
      have hp7 : (t.extract (8 * j) (8 * j + 7)).size = 7 := by rw [ByteArray.size_extract]; omega
      have hpe : (t.extract (8 * j) t.size).extract 0 7 = t.extract (8 * j) (8 * j + 7) := by
        rw [ByteArray.extract_extract, show 8 * j + 0 = 8 * j by omega, show min (8 * j + 7) t.size = 8 * j + 7 by omega]
      have hre : (t.extract (8 * j) t.size).extract 8 (t.extract (8 * j) t.size).size = t.extract (8 * (j + 1)) t.size := by
        rw [ByteArray.extract_extract, hrs, show 8 * j + 8 = 8 * (j + 1) by omega, show min (8 * j + (t.size - 8 * j)) t.size = t.size by omega]
      rw [if_pos c1, if_pos g2, if_pos g3, if_pos g4, if_pos g5, Int.toNat_natCast, Int.toNat_natCast, specBch_at k (by omega)]
      simp only [Option.bind_some]
      rw [if_pos g6, if_pos g7, idx4]
      by_cases c2 : bch (t.extract (8 * j) (8 * j + 7)) = bt t ((8 * j + 7 : Nat) : Int)
      · have g8 : acc.size + (t.extract (8 * j) (8 * j + 7)).size ≤ 9223372036854775807 := by omega
        have hb := HGet.blocks_cons v (r := t.extract (8 * j) t.size) (k := K) k1 (by rw [hpe, hv _ hp7, bt_cut t (8 * j) c1', c2]) k2
        have ha2 : (acc ++ t.extract (8 * j) (8 * j + 7)).size = 7 * (j + 1) := by rw [ByteArray.size_append, ha, hp7, Nat.mul_succ]
        rw [if_pos c2, if_pos g8, ih k (K - 1) (j + 1) _ k3 k4 ha2 k5, hb, hre, List.take_succ_cons, cat_cons, List.length_cons]
        simp only [hpe]
        rw [ByteArray.append_assoc, sum_eq j]
      · have hb := HGet.blocks_nil v (r := t.extract (8 * j) t.size) (k := K) (fun h => c2 (by
          have h2 := h.2
          rw [hpe, hv _ hp7, bt_cut t (8 * j) c1'] at h2
          exact h2))
        have e4 : HGet.cat [] = (⟨#[]⟩ : ByteArray) := rfl
        rw [if_neg c2, hb]
        simp only [List.take_nil, List.length_nil, Nat.mul_zero, Nat.add_zero, e4, str_append_nil]
    · have hb := HGet.blocks_nil v (r := t.extract (8 * j) t.size) (k := K) (fun h => c1 (by
        have h1 := h.1
        omega))
      have e4 : HGet.cat [] = (⟨#[]⟩ : ByteArray) := rfl
      rw [if_neg c1, hb]
      simp only [List.take_nil, List.length_nil, Nat.mul_zero, Nat.add_zero, e4, str_append_nil]
theorem cltuGet_at (k : Nat) (hk : 200 ≤ k) (v : ByteArray → Int) (hv : ∀ s : ByteArray, s.size = 7 → v s = bch s) (t : ByteArray) (ht : t.size ≤ 1048576) : spec_CltuGet.f k t = some (HGet.cat (HGet.taken v t), ((8 * (HGet.taken v t).length : Nat) : Int)) := by
  unfold spec_CltuGet.f HGet.taken
  have h := get_l0 t ht v hv 9 k t.size 0 (⟨#[]⟩ : ByteArray) (by omega) (by omega) rfl (by omega)
  rw [show 8 * 0 = 0 from rfl, ByteArray.extract_zero_size, str_nil_append, Nat.zero_add] at h
  exact h
end FnExactCltuGetL
open FnExactCltuGetL

theorem FnExactCltuGet : laws_FnExactCltuGet.Pure := by
  intro t _
  refine ⟨300, ?_⟩
  have hv : ∀ s : ByteArray, s.size = 7 → impl_CltuGet.v 300 s = bch s := fun s hs => by
    unfold impl_CltuGet.v
    rw [if_pos hs, implBch_at 300 (by decide) s]
    rfl
  unfold laws_FnExactCltuGet.f
  by_cases h : (t.size : Int) > 1048576
  · rw [if_pos h]
  rw [if_neg h, cltuGet_at 300 (by decide) _ hv t (by omega)]
  unfold impl_CltuGet.f
  rw [if_pos (fun s _ => ⟨_, implBch_at 300 (by decide) s⟩)]
  simp

end Go.Proofs.Ytiknnbjfpdeieaa.Pure
