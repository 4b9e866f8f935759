/- FnExactCmdPut: the program's CmdPut and the reference's answer alike. No conditions but that the numbers are ints and the text is one that a machine holds. -/
import Derived.Test.YtgioeghaopoabaaPFnExactCmdPutx2
import Derived.Test.YtgioeghaopoabaaHPack2
import Derived.Test.YtgioeghaopoabaaBt
import Derived.Test.YtgioeghaopoabaaCrcMath
namespace Go.Proofs.Ytgioeghaopoabaa.Pure
open Go Go.RowKit Go.Proofs.Ytgioeghaopoabaa.PFnExactCmdPut Go.Proofs.YtgioeghaopoabaaW.PrintWords Go.Proofs.YtgioeghaopoabaaW.PrintLast Go.Proofs.YtgioeghaopoabaaW.PrintMore Go.Proofs.Ytgioeghaopoabaa.Aux Go.Proofs.Ytgioeghaopoabaa.Bt Go.Proofs.Ytgioeghaopoabaa.CrcMath

namespace FnExactCmdPutL
theorem l1In_at (a b c : Int) : spec_l1In.f a b c = some (decide (b ≤ a ∧ a ≤ c)) := by
  unfold spec_l1In.f
  by_cases h : b ≤ a
  · rw [if_pos h]
    simp [h]
  · rw [if_neg h]
    simp [h]
theorem l1Put_l0 (d : Nat) : ∀ (k : Nat) (n size i : Int) (out : ByteArray), d < k → 0 ≤ n → n ≤ 9223372036854775807 → 0 ≤ i → size ≤ 4 → size - i = d → out.size ≤ 4 - d →
    spec_l1Put.l0 k n size out i = some (strOfNums (be d n) ++ out) := by
  induction d with
  | zero =>
    intro k n size i out hk h0 h1 hi hs hd ho
    obtain ⟨k, rfl⟩ : ∃ m, k = m + 1 := ⟨k - 1, by omega⟩
    simp only [spec_l1Put.l0]
    rw [if_neg (by omega)]
    show some out = some ((⟨#[]⟩ : ByteArray) ++ out)
    rw [str_nil_append]
  | succ d ih =>
    intro k n size i out hk h0 h1 hi hs hd ho
    obtain ⟨k, rfl⟩ : ∃ m, k = m + 1 := ⟨k - 1, by omega⟩
    have hsz : (strOfNums [(Int.tmod n 256) % 256]).size = 1 := by rw [strOfNums_size]; rfl
    simp only [spec_l1Put.l0]
    rw [if_pos (by omega)]
    simp only [Option.bind_some]
    rw [if_pos (by omega), w64 (x := i + 1) (by omega) (by omega), tdivp h0, w64 (x := n / 256) (by omega) (by omega)]
    rw [ih _ _ _ _ _ (by omega) (by omega) (by omega) (by omega) hs (by omega) (by rw [ByteArray.size_append]; omega)]
    have e : (Int.tmod n 256) % 256 = n % 256 := by rw [tmodp h0]; omega
    rw [e, be, strOfNums_append, ByteArray.append_assoc]
theorem l1Put_at (k : Nat) (hk : 5 ≤ k) (n size : Int) (h0 : 0 ≤ n) (h1 : n ≤ 9223372036854775807) (hs0 : 0 ≤ size) (hs : size ≤ 4) :
    spec_l1Put.f k n size = some (strOfNums (be size.toNat n)) := by
  unfold spec_l1Put.f
  rw [l1Put_l0 size.toNat k n size 0 _ (by omega) h0 h1 (by omega) hs (by omega) (by show 0 ≤ _; omega), str_append_nil]
theorem spec_l1 (d : Nat) : ∀ (k j : Nat) (t : ByteArray) (x : BitVec 16) (i : Int), d < k → j + d = 8 →
    spec_Crc16.l1 k t (num (sts j x)) i (j : Int) = spec_Crc16.l0 (k - d - 1) t (num (sts 8 x)) (wrap64 (i + 1)) := by
  induction d with
  | zero =>
    intro k j t x i hk hj
    obtain ⟨k, rfl⟩ : ∃ m, k = m + 1 := ⟨k - 1, by omega⟩
    obtain rfl : j = 8 := by omega
    simp only [spec_Crc16.l1]
    rw [if_neg (by omega)]
    rfl
  | succ d ih =>
    intro k j t x i hk hj
    obtain ⟨k, rfl⟩ : ∃ m, k = m + 1 := ⟨k - 1, by omega⟩
    have hr := num_rng (sts j x)
    have h := spec_num (sts j x)
    have e2 : wrap64 (num (sts j x) * 2) = num (sts j x) * 2 := w64 (by omega) (by omega)
    have e3 : wrap64 (num (sts j x) * 2 - 65536) = num (sts j x) * 2 - 65536 := w64 (by omega) (by omega)
    have e4 : wrap64 ((j : Int) + 1) = ((j + 1 : Nat) : Int) := by rw [w64 (by omega) (by omega)]; omega
    have e5 : k + 1 - (d + 1) - 1 = k - d - 1 := by omega
    have p8 : (j : Int) < 8 := by omega
    have ih' := ih k (j + 1) t x i (by omega) (by omega)
    clear hr
    simp only [spec_Crc16.l1]
    rw [if_pos p8, e2, e3, e4, e5, ← ih']
    by_cases c : num (sts j x) * 2 ≥ 65536
    · rw [if_pos c] at h
      rw [if_pos c, h]
      rfl
    · rw [if_neg c] at h
      rw [if_neg c, h]
      rfl
theorem spec_l0 (d : Nat) : ∀ (k n : Nat) (t : ByteArray), 10 * d < k → t.size ≤ 140737488351232 → n + d = t.size →
    spec_Crc16.l0 k t (num (crcB t n)) (n : Int) = some (num (crcB t t.size)) := by
  induction d with
  | zero =>
    intro k n t hk ht hn
    obtain ⟨k, rfl⟩ : ∃ m, k = m + 1 := ⟨k - 1, by omega⟩
    obtain rfl : n = t.size := by omega
    simp only [spec_Crc16.l0]
    rw [if_neg (by omega)]
  | succ d ih =>
    intro k n t hk ht hn
    obtain ⟨k, rfl⟩ : ∃ m, k = m + 1 := ⟨k - 1, by omega⟩
    have hb := bt_range t (n : Int)
    have hw : wrap64 (wrap64 (bt t (n : Int)) * 256) = num (BitVec.ofNat 16 (bt t (n : Int)).toNat <<< 8) := by
      rw [w64 (x := bt t (n : Int)) (by omega) (by omega), w64 (by omega) (by omega)]
      unfold num
      rw [BitVec.toNat_shiftLeft, Nat.shiftLeft_eq, BitVec.toNat_ofNat]
      omega
    have h0 := spec_l1 8 k 0 t (crcB t n ^^^ (BitVec.ofNat 16 (bt t (n : Int)).toNat <<< 8)) (n : Int) (by omega) (by omega)
    have e : wrap64 ((n : Int) + 1) = ((n + 1 : Nat) : Int) := by rw [w64 (by omega) (by omega)]; omega
    have ih' := ih (k - 8 - 1) (n + 1) t (by omega) ht (by omega)
    have p1 : (n : Int) < (t.size : Int) := by omega
    have p2 : 0 ≤ (n : Int) := by omega
    clear hb
    simp only [spec_Crc16.l0]
    rw [if_pos p1, if_pos p2, hw, xor64]
    rw [e] at h0
    exact h0.trans ih'
theorem specCrc_at (k : Nat) (t : ByteArray) (hk : 10 * t.size < k) (ht : t.size ≤ 140737488351232) : spec_Crc16.f k t = some (num (crcB t t.size)) := by
  unfold spec_Crc16.f
  exact spec_l0 t.size k 0 t hk ht (by omega)
theorem put_of {x : Int} {d : Nat} (hd1 : 1 ≤ d) (hd : d ≤ 4) (h0 : 0 ≤ x) (h1 : x < 256 ^ d) : numPut x (d : Int) = strOfNums (be d x) := by
  unfold numPut
  rw [Int.toNat_natCast, if_pos ⟨by omega, by omega, h0, h1⟩]
theorem put1 {x : Int} (h0 : 0 ≤ x) (h1 : x < 256) : numPut x 1 = strOfNums (be 1 x) := put_of (d := 1) (by decide) (by decide) h0 h1
theorem put2 {x : Int} (h0 : 0 ≤ x) (h1 : x < 65536) : numPut x 2 = strOfNums (be 2 x) := put_of (d := 2) (by decide) (by decide) h0 h1
theorem put4 {x : Int} (h0 : 0 ≤ x) (h1 : x < 4294967296) : numPut x 4 = strOfNums (be 4 x) := put_of (d := 4) (by decide) (by decide) h0 h1
theorem beS_size (d : Nat) (x : Int) : (strOfNums (be d x)).size = d := by rw [strOfNums_size, be_length]
theorem packetPut_eq {up : Bool} {apid count : Int} {s : ByteArray} (hok : HPack.pOk apid count s = true) :
    HPack.packetPut up apid count s = ((strOfNums (be 2 (2048 + apid + (if up = true then 4096 else 0))) ++ strOfNums (be 2 (49152 + count))) ++ strOfNums (be 2 ((s.size : Int) - 1))) ++ s := by
  obtain ⟨a0, a1, c0, c1, s0, s1⟩ := HPack.pOk_of hok
  have e : 0 ≤ 2048 + apid + (if up = true then 4096 else 0) ∧ 2048 + apid + (if up = true then 4096 else 0) < 65536 := by cases up <;> simp <;> omega
  rw [HPack.packetPut, if_pos hok, put2 e.1 e.2, put2 (x := 49152 + count) (by omega) (by omega), put2 (x := (s.size : Int) - 1) (by omega) (by omega)]
  simp only [strOfNums_append, str_bytesOf, List.nil_append]
theorem l6Put_at (k : Nat) (hk : 10 ≤ k) (up : Bool) (apid count : Int) (s : ByteArray) (hok : HPack.pOk apid count s = true) : spec_l6Put.f k up apid count s = some (HPack.packetPut up apid count s) := by
  obtain ⟨a0, a1, c0, c1, s0, s1⟩ := HPack.pOk_of hok
  have e : 0 ≤ 2048 + apid + (if up = true then 4096 else 0) ∧ 2048 + apid + (if up = true then 4096 else 0) < 65536 := by cases up <;> simp <;> omega
  have e0 : wrap64 (wrap64 (wrap64 ((if up = true then (1 : Int) else 0) * 4096) + 2048) + apid) = 2048 + apid + (if up = true then 4096 else 0) := by
    cases up <;> simp [wrap64] <;> omega
  have e1 : wrap64 (49152 + count) = 49152 + count := w64 (by omega) (by omega)
  have e2 : wrap64 ((s.size : Int) - 1) = (s.size : Int) - 1 := w64 (by omega) (by omega)
  have hf : spec_l3Flag.f up = some (if up = true then (1 : Int) else 0) := by unfold spec_l3Flag.f; cases up <;> rfl
  have l1 := l1Put_at k (by omega) (2048 + apid + (if up = true then 4096 else 0)) 2 e.1 (by omega) (by decide) (by decide)
  have l2 := l1Put_at k (by omega) (49152 + count) 2 (by omega) (by omega) (by decide) (by decide)
  have l3 := l1Put_at k (by omega) ((s.size : Int) - 1) 2 (by omega) (by omega) (by decide) (by decide)
  have t2 : (2 : Int).toNat = 2 := rfl
  rw [t2] at l1 l2 l3
  simp only [spec_l6Put.f, hf, e0, e1, e2, l1, l2, l3, Option.bind_some, beS_size]
  rw [if_pos (by decide), if_pos (by decide), if_pos (by omega), packetPut_eq hok]
theorem cmdOk_at (apid count source service sub : Int) (s : ByteArray) : spec_l6CmdOk.f apid count source service sub s = some (HPack.cOk apid count source service sub s) := by
  simp only [spec_l6CmdOk.f, l1In_at, Option.bind_some, HPack.cOk]
  generalize decide (0 ≤ apid ∧ apid ≤ 2047) = b1
  generalize decide (0 ≤ count ∧ count ≤ 16383) = b2
  generalize decide (0 ≤ source ∧ source ≤ 255) = b3
  generalize decide (0 ≤ service ∧ service ≤ 255) = b4
  generalize decide (0 ≤ sub ∧ sub ≤ 255) = b5
  cases b1 <;> cases b2 <;> cases b3 <;> cases b4 <;> cases b5 <;> rfl
theorem cmd_at (k : Nat) (hk : 20000 ≤ k) (apid count source service sub : Int) (s : ByteArray) (hok : HPack.cOk apid count source service sub s = true) :
    spec_l6Cmd.f k apid count source service sub s = some (HPack.cmdPut apid count source service sub s) ∧ 2 ≤ (HPack.cmdWhole apid count source service sub s).size ∧ (HPack.cmdWhole apid count source service sub s).size ≤ 1000 := by
  obtain ⟨a0, a1, c0, c1, r0, r1, v0, v1, u0, u1, s1⟩ := HPack.cOk_of hok
  have l1 := l1Put_at k (by omega) service 1 v0 (by omega) (by decide) (by decide)
  have l2 := l1Put_at k (by omega) sub 1 u0 (by omega) (by decide) (by decide)
  have l3 := l1Put_at k (by omega) source 1 r0 (by omega) (by decide) (by decide)
  have e1 : (1 : Int).toNat = 1 := rfl
  have e2 : (2 : Int).toNat = 2 := rfl
  rw [e1] at l1 l2 l3
  have hb : strOfNums (HPack.cmdBytes source service sub s) = (((((⟨#[47]⟩ : ByteArray) ++ strOfNums (be 1 service)) ++ strOfNums (be 1 sub)) ++ strOfNums (be 1 source)) ++ s) ++ (⟨#[0, 0]⟩ : ByteArray) := by
    rw [HPack.cmdBytes, put1 v0 (by omega), put1 u0 (by omega), put1 r0 (by omega), put2 (x := 0) (by decide) (by decide)]
    simp only [strOfNums_append, str_bytesOf, List.nil_append]
    rfl
  have hz : (⟨#[47]⟩ : ByteArray).size = 1 := rfl
  have hz2 : (⟨#[0, 0]⟩ : ByteArray).size = 2 := rfl
  have hp : HPack.pOk apid count ((((((⟨#[47]⟩ : ByteArray) ++ strOfNums (be 1 service)) ++ strOfNums (be 1 sub)) ++ strOfNums (be 1 source)) ++ s) ++ (⟨#[0, 0]⟩ : ByteArray)) = true := by
    simp only [HPack.pOk, Bool.and_eq_true, decide_eq_true_eq, ByteArray.size_append, beS_size, hz, hz2]
    omega
  have hw : HPack.cmdWhole apid count source service sub s = HPack.packetPut true apid count ((((((⟨#[47]⟩ : ByteArray) ++ strOfNums (be 1 service)) ++ strOfNums (be 1 sub)) ++ strOfNums (be 1 source)) ++ s) ++ (⟨#[0, 0]⟩ : ByteArray)) := by rw [HPack.cmdWhole, hb]
  have hsz : 2 ≤ (HPack.cmdWhole apid count source service sub s).size ∧ (HPack.cmdWhole apid count source service sub s).size ≤ 1000 := by
    rw [hw, packetPut_eq hp]
    simp only [ByteArray.size_append, beS_size, hz, hz2]
    omega
  refine ⟨?_, hsz⟩
  have hl := l6Put_at k (by omega) true apid count _ hp
  rw [← hw] at hl
  simp only [spec_l6Cmd.f, l1, l2, l3, Option.bind_some, beS_size, hl]
  rw [if_pos (by decide), if_pos (by decide), if_pos (by decide), if_pos (by omega), if_pos (by omega)]
  obtain ⟨Y, hY⟩ : ∃ Y, Y = HPack.cmdWhole apid count source service sub s := ⟨_, rfl⟩
  rw [← hY] at hsz ⊢
  have e3 : wrap64 ((Y.size : Int) - 2) = (Y.size : Int) - 2 := w64 (by omega) (by omega)
  have e4 : ((Y.size : Int) - 2).toNat = Y.size - 2 := by omega
  have hE : (Y.extract 0 (Y.size - 2)).size ≤ 1000 := by rw [ByteArray.size_extract]; omega
  have p1 : 0 ≤ (Y.size : Int) - 2 := by omega
  have p2 : (Y.size : Int) - 2 ≤ (Y.size : Int) := by omega
  rw [e3, if_pos p1, if_pos p2, e4]
  obtain ⟨Z, hZ⟩ : ∃ Z, Z = Y.extract 0 (Y.size - 2) := ⟨_, rfl⟩
  rw [← hZ] at hE ⊢
  have hr := num_rng (crcB Z Z.size)
  rw [specCrc_at k Z (by omega) (by omega)]
  simp only [Option.bind_some]
  have l5 := l1Put_at k (by omega) (num (crcB Z Z.size)) 2 hr.1 (by omega) (by decide) (by decide)
  rw [e2] at l5
  rw [l5]
  simp only [Option.bind_some]
  rw [if_pos (by rw [beS_size]; omega)]
  have hA : HPack.cmdAhead apid count source service sub s = Z := by rw [HPack.cmdAhead, ← hY, hZ]
  rw [HPack.cmdPut, if_pos hok, hA, fold_num, put2 hr.1 (by omega)]
end FnExactCmdPutL
open FnExactCmdPutL

theorem FnExactCmdPut (apid count source service sub : Int) (s : ByteArray) (_ : (Lit.int .i64 apid).wf = true) (_ : (Lit.int .i64 count).wf = true) (_ : (Lit.int .i64 source).wf = true) (_ : (Lit.int .i64 service).wf = true) (_ : (Lit.int .i64 sub).wf = true) (_ : s.size ≤ 9223372036854775807) : ∃ k, laws_FnExactCmdPut.f k apid count source service sub s = some true := by
  refine ⟨20000, ?_⟩
  unfold laws_FnExactCmdPut.f laws_szCmd.f
  by_cases h : wrap64 (1048576 - (s.size : Int)) < 0
  · simp only [if_pos h, Option.bind_some]
    rfl
  simp only [if_neg h, Option.bind_some, laws_toCmd.f, spec_CmdPut.f, cmdOk_at, impl_CmdPut.f]
  cases hok : HPack.cOk apid count source service sub s with
  | false => simp
  | true =>
    obtain ⟨h1, h2, h3⟩ := cmd_at 20000 (by decide) apid count source service sub s hok
    simp [h1, h2, h3]

end Go.Proofs.Ytgioeghaopoabaa.Pure
