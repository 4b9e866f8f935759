/- FnExactFramePut: the program's FramePut and the reference's answer alike. No conditions but that the numbers are ints and the text is one that a machine holds. -/
import Derived.Test.YtgioeghaopoabaaPFnExactFramePutx3
import Derived.Test.YtgioeghaopoabaaHKind
import Derived.Test.YtgioeghaopoabaaBt
import Derived.Test.YtgioeghaopoabaaCrcMath
namespace Go.Proofs.Ytgioeghaopoabaa.Pure
open Go Go.RowKit Go.Proofs.Ytgioeghaopoabaa.PFnExactFramePut Go.Proofs.YtgioeghaopoabaaW.PrintWords Go.Proofs.YtgioeghaopoabaaW.PrintLast Go.Proofs.YtgioeghaopoabaaW.PrintMore Go.Proofs.Ytgioeghaopoabaa.Aux Go.Proofs.Ytgioeghaopoabaa.Bt Go.Proofs.Ytgioeghaopoabaa.CrcMath

namespace FnExactFramePutL
theorem l1In_at (a b c : Int) : spec_l1In.f a b c = some (decide (b ≤ a ∧ a ≤ c)) := by
  unfold spec_l1In.f
  by_cases h : b ≤ a
  · rw [if_pos h]
    simp [h]
  · rw [if_neg h]
    simp [h]
theorem within_at (a c : Int) : impl_within.f a c = some (decide (0 ≤ a ∧ a ≤ c)) := by
  unfold impl_within.f
  by_cases h : 0 ≤ a
  · rw [if_pos h]
    simp [h]
  · rw [if_neg h]
    simp [h]
theorem frameDataOk_at (s : ByteArray) : impl_frameDataOk.f s = some (decide (1 ≤ (s.size : Int) ∧ (s.size : Int) ≤ 53)) := by
  unfold impl_frameDataOk.f
  by_cases h : 1 ≤ (s.size : Int)
  · rw [if_pos h]
    simp [h]
  · rw [if_neg h]
    simp [h]
/-- FrameOk's answer. -/
def frameOk (past govern : Bool) (craft via seq : Int) (s : ByteArray) : Bool :=
  decide (0 ≤ craft ∧ craft ≤ 1023) && (decide (0 ≤ via ∧ via ≤ 63) && (decide (0 ≤ seq ∧ seq ≤ 255) && (decide (1 ≤ (s.size : Int) ∧ (s.size : Int) ≤ 53) && (past || !govern))))
theorem specFrameOk_at (past govern : Bool) (craft via seq : Int) (s : ByteArray) : spec_FrameOk.f past govern craft via seq s = some (frameOk past govern craft via seq s) := by
  simp only [spec_FrameOk.f, l1In_at, Option.bind_some, frameOk]
  generalize decide (0 ≤ craft ∧ craft ≤ 1023) = b1
  generalize decide (0 ≤ via ∧ via ≤ 63) = b2
  generalize decide (0 ≤ seq ∧ seq ≤ 255) = b3
  generalize decide (1 ≤ (s.size : Int) ∧ (s.size : Int) ≤ 53) = b4
  cases b1 <;> cases b2 <;> cases b3 <;> cases b4 <;> cases past <;> cases govern <;> rfl
theorem implFrameOk_at (past govern : Bool) (craft via seq : Int) (s : ByteArray) : impl_FrameOk.f past govern craft via seq s = some (frameOk past govern craft via seq s) := by
  simp only [impl_FrameOk.f, within_at, frameDataOk_at, Option.bind_some, frameOk]
  generalize decide (0 ≤ craft ∧ craft ≤ 1023) = b1
  generalize decide (0 ≤ via ∧ via ≤ 63) = b2
  generalize decide (0 ≤ seq ∧ seq ≤ 255) = b3
  generalize decide (1 ≤ (s.size : Int) ∧ (s.size : Int) ≤ 53) = b4
  cases b1 <;> cases b2 <;> cases b3 <;> cases b4 <;> cases past <;> cases govern <;> rfl
theorem l1Put_l0 (d : Nat) : ∀ (k : Nat) (n size i : Int) (out : ByteArray), d < k → 0 ≤ n → n ≤ 9223372036854775807 → 0 ≤ i → size ≤ 4 → size - i = d → out.size ≤ 4 - d →
    spec_l1Put.l0 k n size out i = some (strOfNums (be d n) ++ out) := by
  induction d with
  | zero =>
    intro k n size i out hk h0 h1 hi hs hd ho
    obtain ⟨k, rfl⟩ : ∃ m, k = m + 1 := ⟨k - 1, by omega⟩
    simp only [spec_l1Put.l0]
    rw [if_neg (by omega)]
    show some out = some ((⟨#[]⟩ : ByteArray) ++ out)
    rw [str_nil_append]
  | succ d ih =>
    intro k n size i out hk h0 h1 hi hs hd ho
    obtain ⟨k, rfl⟩ : ∃ m, k = m + 1 := ⟨k - 1, by omega⟩
    have hsz : (strOfNums [(Int.tmod n 256) % 256]).size = 1 := by rw [strOfNums_size]; rfl
    simp only [spec_l1Put.l0]
    rw [if_pos (by omega)]
    simp only [Option.bind_some]
    rw [if_pos (by omega), w64 (x := i + 1) (by omega) (by omega), tdivp h0, w64 (x := n / 256) (by omega) (by omega)]
    rw [ih _ _ _ _ _ (by omega) (by omega) (by omega) (by omega) hs (by omega) (by rw [ByteArray.size_append]; omega)]
    have e : (Int.tmod n 256) % 256 = n % 256 := by rw [tmodp h0]; omega
    rw [e, be, strOfNums_append, ByteArray.append_assoc]
theorem l1Put_at (k : Nat) (hk : 5 ≤ k) (n size : Int) (h0 : 0 ≤ n) (h1 : n ≤ 9223372036854775807) (hs0 : 0 ≤ size) (hs : size ≤ 4) :
    spec_l1Put.f k n size = some (strOfNums (be size.toNat n)) := by
  unfold spec_l1Put.f
  rw [l1Put_l0 size.toNat k n size 0 _ (by omega) h0 h1 (by omega) hs (by omega) (by show 0 ≤ _; omega), str_append_nil]
theorem implPut_l0 (d : Nat) : ∀ (k : Nat) (n : Int) (xs : List Int), d < k → 0 ≤ n → n ≤ 9223372036854775807 → d ≤ xs.length → xs.length ≤ 4 →
    impl_NumPut.l0 k n xs ((d : Int) - 1) = some (strOfNums (be d n ++ xs.drop d)) := by
  induction d with
  | zero =>
    intro k n xs hk h0 h1 hd hx
    obtain ⟨k, rfl⟩ : ∃ m, k = m + 1 := ⟨k - 1, by omega⟩
    simp only [impl_NumPut.l0]
    rw [if_neg (by omega)]
    simp [be]
  | succ d ih =>
    intro k n xs hk h0 h1 hd hx
    obtain ⟨k, rfl⟩ : ∃ m, k = m + 1 := ⟨k - 1, by omega⟩
    simp only [impl_NumPut.l0]
    have e1 : ((d + 1 : Nat) : Int) - 1 = d := by omega
    rw [e1, if_pos (by omega), if_pos (by omega), if_pos (by omega), and255 h0 (by omega), w64 (x := (d : Int) - 1) (by omega) (by omega)]
    have e2 : ((d : Int)).toNat = d := by omega
    rw [e2, ih _ _ _ (by omega) (by omega) (by omega) (by rw [List.length_set]; omega) (by rw [List.length_set]; omega)]
    have hl : d < (xs.set d (n % 256 % 256)).length := by rw [List.length_set]; omega
    rw [List.drop_eq_getElem_cons hl, List.getElem_set_self, List.drop_set_of_lt (by omega)]
    have e3 : n % 256 % 256 = n % 256 := by omega
    rw [e3, be, List.append_assoc]
    rfl
theorem implPut_at (k : Nat) (hk : 7 ≤ k) (n size : Int) (h1 : n ≤ 9223372036854775807) : impl_NumPut.f k n size = some (numPut n size) := by
  obtain ⟨k, rfl⟩ : ∃ m, k = m + 1 := ⟨k - 1, by omega⟩
  have j0t : ∀ a0 a1, impl_NumPut.j0 (k + 1) a0 a1 true = some (⟨#[]⟩ : ByteArray) := fun a0 a1 => by simp only [impl_NumPut.j0, if_true]
  unfold impl_NumPut.f numPut
  by_cases ha : size < 1
  · rw [if_pos ha, j0t, if_neg (by omega)]
  rw [if_neg ha]
  by_cases hb : size > 4
  · rw [if_pos hb, j0t, if_neg (by omega)]
  rw [if_neg hb]
  by_cases hc : n < 0
  · rw [if_pos hc, j0t, if_neg (by omega)]
  rw [if_neg hc, if_pos (by rw [w64 (by omega) (by omega)]; omega)]
  have hs : shr .i64 n (wrap64 (8 * size)) = n / 256 ^ size.toNat := by
    have h : size = 1 ∨ size = 2 ∨ size = 3 ∨ size = 4 := by omega
    unfold shr
    rcases h with rfl | rfl | rfl | rfl <;> exact congrArg (fun m => n / m) (by decide +kernel)
  have hp : (0 : Int) < 256 ^ size.toNat := Int.pow_pos (by decide)
  rw [hs]
  by_cases h : n < 256 ^ size.toNat
  · rw [if_pos ⟨by omega, by omega, by omega, h⟩, Int.ediv_eq_zero_of_lt (by omega) h]
    simp only [impl_NumPut.j0, bne_self_eq_false, Bool.false_eq_true, if_false]
    rw [if_pos (by omega), if_pos (by omega), w64 (by omega) (by omega)]
    have e : size - 1 = ((size.toNat : Nat) : Int) - 1 := by omega
    rw [e, implPut_l0 size.toNat k n _ (by omega) (by omega) h1 (by rw [List.length_replicate]; omega) (by rw [List.length_replicate]; omega)]
    rw [List.drop_eq_nil_of_le (by rw [List.length_replicate]; omega), List.append_nil]
  · have h2 : 1 ≤ n / 256 ^ size.toNat := Int.le_ediv_of_mul_le hp (by omega)
    have h3 : (n / 256 ^ size.toNat != 0) = true := by simp; omega
    rw [h3, j0t, if_neg (by omega)]
theorem spec_l1 (d : Nat) : ∀ (k j : Nat) (t : ByteArray) (x : BitVec 16) (i : Int), d < k → j + d = 8 →
    spec_Crc16.l1 k t (num (sts j x)) i (j : Int) = spec_Crc16.l0 (k - d - 1) t (num (sts 8 x)) (wrap64 (i + 1)) := by
  induction d with
  | zero =>
    intro k j t x i hk hj
    obtain ⟨k, rfl⟩ : ∃ m, k = m + 1 := ⟨k - 1, by omega⟩
    obtain rfl : j = 8 := by omega
    simp only [spec_Crc16.l1]
    rw [if_neg (by omega)]
    rfl
  | succ d ih =>
    intro k j t x i hk hj
    obtain ⟨k, rfl⟩ : ∃ m, k = m + 1 := ⟨k - 1, by omega⟩
    have hr := num_rng (sts j x)
    have h := spec_num (sts j x)
    have e2 : wrap64 (num (sts j x) * 2) = num (sts j x) * 2 := w64 (by omega) (by omega)
    have e3 : wrap64 (num (sts j x) * 2 - 65536) = num (sts j x) * 2 - 65536 := w64 (by omega) (by omega)
    have e4 : wrap64 ((j : Int) + 1) = ((j + 1 : Nat) : Int) := by rw [w64 (by omega) (by omega)]; omega
    have e5 : k + 1 - (d + 1) - 1 = k - d - 1 := by omega
    have p8 : (j : Int) < 8 := by omega
    have ih' := ih k (j + 1) t x i (by omega) (by omega)
    clear hr
    simp only [spec_Crc16.l1]
    rw [if_pos p8, e2, e3, e4, e5, ← ih']
    by_cases c : num (sts j x) * 2 ≥ 65536
    · rw [if_pos c] at h
      rw [if_pos c, h]
      rfl
    · rw [if_neg c] at h
      rw [if_neg c, h]
      rfl
theorem spec_l0 (d : Nat) : ∀ (k n : Nat) (t : ByteArray), 10 * d < k → t.size ≤ 140737488351232 → n + d = t.size →
    spec_Crc16.l0 k t (num (crcB t n)) (n : Int) = some (num (crcB t t.size)) := by
  induction d with
  | zero =>
    intro k n t hk ht hn
    obtain ⟨k, rfl⟩ : ∃ m, k = m + 1 := ⟨k - 1, by omega⟩
    obtain rfl : n = t.size := by omega
    simp only [spec_Crc16.l0]
    rw [if_neg (by omega)]
  | succ d ih =>
    intro k n t hk ht hn
    obtain ⟨k, rfl⟩ : ∃ m, k = m + 1 := ⟨k - 1, by omega⟩
    have hb := bt_range t (n : Int)
    have hw : wrap64 (wrap64 (bt t (n : Int)) * 256) = num (BitVec.ofNat 16 (bt t (n : Int)).toNat <<< 8) := by
      rw [w64 (x := bt t (n : Int)) (by omega) (by omega), w64 (by omega) (by omega)]
      unfold num
      rw [BitVec.toNat_shiftLeft, Nat.shiftLeft_eq, BitVec.toNat_ofNat]
      omega
    have h0 := spec_l1 8 k 0 t (crcB t n ^^^ (BitVec.ofNat 16 (bt t (n : Int)).toNat <<< 8)) (n : Int) (by omega) (by omega)
    have e : wrap64 ((n : Int) + 1) = ((n + 1 : Nat) : Int) := by rw [w64 (by omega) (by omega)]; omega
    have ih' := ih (k - 8 - 1) (n + 1) t (by omega) ht (by omega)
    have p1 : (n : Int) < (t.size : Int) := by omega
    have p2 : 0 ≤ (n : Int) := by omega
    clear hb
    simp only [spec_Crc16.l0]
    rw [if_pos p1, if_pos p2, hw, xor64]
    rw [e] at h0
    exact h0.trans ih'
theorem specCrc_at (k : Nat) (t : ByteArray) (hk : 10 * t.size < k) (ht : t.size ≤ 140737488351232) : spec_Crc16.f k t = some (num (crcB t t.size)) := by
  unfold spec_Crc16.f
  exact spec_l0 t.size k 0 t hk ht (by omega)
theorem put_of {x : Int} {d : Nat} (hd1 : 1 ≤ d) (hd : d ≤ 4) (h0 : 0 ≤ x) (h1 : x < 256 ^ d) : numPut x (d : Int) = strOfNums (be d x) := by
  unfold numPut
  rw [Int.toNat_natCast, if_pos ⟨by omega, by omega, h0, h1⟩]
theorem put1 {x : Int} (h0 : 0 ≤ x) (h1 : x < 256) : numPut x 1 = strOfNums (be 1 x) := put_of (d := 1) (by decide) (by decide) h0 h1
theorem put2 {x : Int} (h0 : 0 ≤ x) (h1 : x < 65536) : numPut x 2 = strOfNums (be 2 x) := put_of (d := 2) (by decide) (by decide) h0 h1
theorem put4 {x : Int} (h0 : 0 ≤ x) (h1 : x < 4294967296) : numPut x 4 = strOfNums (be 4 x) := put_of (d := 4) (by decide) (by decide) h0 h1
theorem beS_size (d : Nat) (x : Int) : (strOfNums (be d x)).size = d := by rw [strOfNums_size, be_length]
theorem frameOk_of {past govern : Bool} {craft via seq : Int} {s : ByteArray} (h : frameOk past govern craft via seq s = true) : (0 ≤ craft ∧ craft ≤ 1023) ∧ (0 ≤ via ∧ via ≤ 63) ∧ (0 ≤ seq ∧ seq ≤ 255) ∧ (1 ≤ s.size ∧ s.size ≤ 53) ∧ (past || !govern) = true := by
  simp only [frameOk, Bool.and_eq_true, decide_eq_true_eq] at h
  exact ⟨h.1, h.2.1, h.2.2.1, ⟨by omega, by omega⟩, h.2.2.2.2⟩
/-- A frame's bytes ahead of its sum, and all of them. -/
def ahead (past govern : Bool) (craft via seq : Int) (s : ByteArray) : ByteArray :=
  ((strOfNums (be 2 (HKind.kindOf past govern + craft)) ++ strOfNums (be 2 (via * 1024 + (s.size : Int) + 6))) ++ strOfNums (be 1 seq)) ++ s
def framePut (past govern : Bool) (craft via seq : Int) (s : ByteArray) : ByteArray :=
  ahead past govern craft via seq s ++ strOfNums (be 2 (num (crcB (ahead past govern craft via seq s) (ahead past govern craft via seq s).size)))
theorem ahead_size (past govern : Bool) (craft via seq : Int) (s : ByteArray) : (ahead past govern craft via seq s).size = 5 + s.size := by
  simp only [ahead, ByteArray.size_append, beS_size]
theorem kind_rng (past govern : Bool) : 0 ≤ HKind.kindOf past govern ∧ HKind.kindOf past govern ≤ 12288 ∧ HKind.bitsOf (HKind.kindOf past govern) = HKind.kindOf past govern := by
  cases past <;> cases govern <;> decide
theorem implFramePut_at (k : Nat) (hk : 10 ≤ k) (past govern : Bool) (craft via seq : Int) (s : ByteArray) (hok : frameOk past govern craft via seq s = true) : impl_FramePut.f k past govern craft via seq s = some (framePut past govern craft via seq s) := by
  obtain ⟨⟨a0, a1⟩, ⟨v0, v1⟩, ⟨q0, q1⟩, ⟨s0, s1⟩, hp⟩ := frameOk_of hok
  obtain ⟨h0, h1, hb⟩ := kind_rng past govern
  have e0 : wrap64 (HKind.kindOf past govern + craft) = HKind.kindOf past govern + craft := w64 (by omega) (by omega)
  have e1 : wrap64 (wrap64 (wrap64 (wrap64 (via * 1024) + (s.size : Int)) + 7) - 1) = via * 1024 + (s.size : Int) + 6 := by
    rw [w64 (x := via * 1024) (by omega) (by omega), w64 (x := via * 1024 + (s.size : Int)) (by omega) (by omega), w64 (x := via * 1024 + (s.size : Int) + 7) (by omega) (by omega), w64 (by omega) (by omega)]
    omega
  simp only [impl_FramePut.f, implFrameOk_at, hok, Option.bind_some, if_true, impl_frameKindOf.f, impl_frameBits.f, hb, e0, e1]
  rw [implPut_at k (by omega) _ _ (by omega), put2 (by omega) (by omega)]
  simp only [Option.bind_some]
  rw [implPut_at k (by omega) _ _ (by omega), put2 (by omega) (by omega)]
  simp only [Option.bind_some, beS_size]
  rw [if_pos (by decide), implPut_at k (by omega) _ _ (by omega), put1 (by omega) (by omega)]
  simp only [Option.bind_some, beS_size]
  rw [if_pos (by decide), if_pos (by omega)]
  have hA : ((strOfNums (be 2 (HKind.kindOf past govern + craft)) ++ strOfNums (be 2 (via * 1024 + (s.size : Int) + 6))) ++ strOfNums (be 1 seq)) ++ s = ahead past govern craft via seq s := rfl
  have hz := ahead_size past govern craft via seq s
  have hF : framePut past govern craft via seq s = ahead past govern craft via seq s ++ strOfNums (be 2 (num (crcB (ahead past govern craft via seq s) (ahead past govern craft via seq s).size))) := rfl
  rw [hA, hF]
  generalize ahead past govern craft via seq s = Z at hz ⊢
  have hr := num_rng (crcB Z Z.size)
  unfold impl_Crc16.f
  rw [if_pos (by omega)]
  simp only [Option.bind_some]
  rw [fold_num, implPut_at k (by omega) _ _ (by omega), put2 hr.1 (by omega)]
  simp only [Option.bind_some, beS_size]
  rw [if_pos (by omega)]
theorem specFramePut_at (k : Nat) (hk : 20000 ≤ k) (past govern : Bool) (craft via seq : Int) (s : ByteArray) (hok : frameOk past govern craft via seq s = true) : spec_l3Put.f k past govern craft via seq s = some (framePut past govern craft via seq s) := by
  obtain ⟨⟨a0, a1⟩, ⟨v0, v1⟩, ⟨q0, q1⟩, ⟨s0, s1⟩, hp⟩ := frameOk_of hok
  obtain ⟨h0, h1, hb⟩ := kind_rng past govern
  have hf : ∀ b : Bool, spec_l3Flag.f b = some (if b = true then (1 : Int) else 0) := by intro b; unfold spec_l3Flag.f; cases b <;> rfl
  have e0 : wrap64 (wrap64 (wrap64 ((if past = true then (1 : Int) else 0) * 8192) + wrap64 ((if govern = true then (1 : Int) else 0) * 4096)) + craft) = HKind.kindOf past govern + craft := by
    cases past <;> cases govern <;> simp [HKind.kindOf, wrap64] at hp ⊢ <;> omega
  have e1 : wrap64 (wrap64 (wrap64 (via * 1024) + (s.size : Int)) + 6) = via * 1024 + (s.size : Int) + 6 := by
    rw [w64 (x := via * 1024) (by omega) (by omega), w64 (x := via * 1024 + (s.size : Int)) (by omega) (by omega), w64 (by omega) (by omega)]
  have t2 : (2 : Int).toNat = 2 := rfl
  have t1 : (1 : Int).toNat = 1 := rfl
  have l1 := l1Put_at k (by omega) (HKind.kindOf past govern + craft) 2 (by omega) (by omega) (by decide) (by decide)
  have l2 := l1Put_at k (by omega) (via * 1024 + (s.size : Int) + 6) 2 (by omega) (by omega) (by decide) (by decide)
  have l3 := l1Put_at k (by omega) seq 1 (by omega) (by omega) (by decide) (by decide)
  rw [t2] at l1 l2
  rw [t1] at l3
  simp only [spec_l3Put.f, hf, e0, e1, l1, l2, l3, Option.bind_some, beS_size]
  rw [if_pos (by decide), if_pos (by decide), if_pos (by omega)]
  have hA : ((strOfNums (be 2 (HKind.kindOf past govern + craft)) ++ strOfNums (be 2 (via * 1024 + (s.size : Int) + 6))) ++ strOfNums (be 1 seq)) ++ s = ahead past govern craft via seq s := rfl
  have hz := ahead_size past govern craft via seq s
  have hF : framePut past govern craft via seq s = ahead past govern craft via seq s ++ strOfNums (be 2 (num (crcB (ahead past govern craft via seq s) (ahead past govern craft via seq s).size))) := rfl
  rw [hA, hF]
  generalize ahead past govern craft via seq s = Z at hz ⊢
  have hr := num_rng (crcB Z Z.size)
  have l4 := l1Put_at k (by omega) (num (crcB Z Z.size)) 2 (by omega) (by omega) (by decide) (by decide)
  rw [t2] at l4
  rw [specCrc_at k Z (by omega) (by omega)]
  simp only [Option.bind_some, l4, beS_size]
  rw [if_pos (by omega)]
end FnExactFramePutL
open FnExactFramePutL

theorem FnExactFramePut (past govern : Bool) (craft via seq : Int) (s : ByteArray) (_ : (Lit.int .i64 craft).wf = true) (_ : (Lit.int .i64 via).wf = true) (_ : (Lit.int .i64 seq).wf = true) (_ : s.size ≤ 9223372036854775807) : ∃ k, laws_FnExactFramePut.f k past govern craft via seq s = some true := by
  refine ⟨20000, ?_⟩
  unfold laws_FnExactFramePut.f laws_szFrame.f
  by_cases h : wrap64 (1048576 - (s.size : Int)) < 0
  · simp only [if_pos h, Option.bind_some]
    rfl
  simp only [if_neg h, Option.bind_some, laws_toFrame.f, spec_FramePut.f, specFrameOk_at]
  cases hok : frameOk past govern craft via seq s with
  | false =>
    have e : impl_FramePut.f 20000 past govern craft via seq s = some ⟨#[]⟩ := by simp [impl_FramePut.f, implFrameOk_at, hok]
    simp [e]
  | true =>
    have h1 := implFramePut_at 20000 (by decide) past govern craft via seq s hok
    have h2 := specFramePut_at 20000 (by decide) past govern craft via seq s hok
    simp [h1, h2]

end Go.Proofs.Ytgioeghaopoabaa.Pure
