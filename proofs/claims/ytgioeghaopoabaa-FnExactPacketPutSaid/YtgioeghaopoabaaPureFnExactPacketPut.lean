/- FnExactPacketPut: the program's PacketPut and the reference's answer alike. No conditions but that the numbers are ints and the text is one that a machine holds. -/
import Derived.Test.YtgioeghaopoabaaPFnExactPacketPutx1
import Derived.Test.YtgioeghaopoabaaHPack
import Derived.Test.YtgioeghaopoabaaBt
namespace Go.Proofs.Ytgioeghaopoabaa.Pure
open Go Go.RowKit Go.Proofs.Ytgioeghaopoabaa.PFnExactPacketPut Go.Proofs.YtgioeghaopoabaaW.PrintWords Go.Proofs.YtgioeghaopoabaaW.PrintLast Go.Proofs.YtgioeghaopoabaaW.PrintMore Go.Proofs.Ytgioeghaopoabaa.Aux Go.Proofs.Ytgioeghaopoabaa.Bt

namespace FnExactPacketPutL
theorem l1In_at (a b c : Int) : spec_l1In.f a b c = some (decide (b ≤ a ∧ a ≤ c)) := by
  unfold spec_l1In.f
  by_cases h : b ≤ a
  · rw [if_pos h]
    simp [h]
  · rw [if_neg h]
    simp [h]
theorem l1Put_l0 (d : Nat) : ∀ (k : Nat) (n size i : Int) (out : ByteArray), d < k → 0 ≤ n → n ≤ 9223372036854775807 → 0 ≤ i → size ≤ 4 → size - i = d → out.size ≤ 4 - d →
    spec_l1Put.l0 k n size out i = some (strOfNums (be d n) ++ out) := by
  induction d with
  | zero =>
    intro k n size i out hk h0 h1 hi hs hd ho
    obtain ⟨k, rfl⟩ : ∃ m, k = m + 1 := ⟨k - 1, by omega⟩
    simp only [spec_l1Put.l0]
    rw [if_neg (by omega)]
    show some out = some ((⟨#[]⟩ : ByteArray) ++ out)
    rw [str_nil_append]
  | succ d ih =>
    intro k n size i out hk h0 h1 hi hs hd ho
    obtain ⟨k, rfl⟩ : ∃ m, k = m + 1 := ⟨k - 1, by omega⟩
    have hsz : (strOfNums [(Int.tmod n 256) % 256]).size = 1 := by rw [strOfNums_size]; rfl
    simp only [spec_l1Put.l0]
    rw [if_pos (by omega)]
    simp only [Option.bind_some]
    rw [if_pos (by omega), w64 (x := i + 1) (by omega) (by omega), tdivp h0, w64 (x := n / 256) (by omega) (by omega)]
    rw [ih _ _ _ _ _ (by omega) (by omega) (by omega) (by omega) hs (by omega) (by rw [ByteArray.size_append]; omega)]
    have e : (Int.tmod n 256) % 256 = n % 256 := by rw [tmodp h0]; omega
    rw [e, be, strOfNums_append, ByteArray.append_assoc]
theorem l1Put_at (k : Nat) (hk : 5 ≤ k) (n size : Int) (h0 : 0 ≤ n) (h1 : n ≤ 9223372036854775807) (hs0 : 0 ≤ size) (hs : size ≤ 4) :
    spec_l1Put.f k n size = some (strOfNums (be size.toNat n)) := by
  unfold spec_l1Put.f
  rw [l1Put_l0 size.toNat k n size 0 _ (by omega) h0 h1 (by omega) hs (by omega) (by show 0 ≤ _; omega), str_append_nil]
theorem put_of {x : Int} {d : Nat} (hd1 : 1 ≤ d) (hd : d ≤ 4) (h0 : 0 ≤ x) (h1 : x < 256 ^ d) : numPut x (d : Int) = strOfNums (be d x) := by
  unfold numPut
  rw [Int.toNat_natCast, if_pos ⟨by omega, by omega, h0, h1⟩]
theorem put1 {x : Int} (h0 : 0 ≤ x) (h1 : x < 256) : numPut x 1 = strOfNums (be 1 x) := put_of (d := 1) (by decide) (by decide) h0 h1
theorem put2 {x : Int} (h0 : 0 ≤ x) (h1 : x < 65536) : numPut x 2 = strOfNums (be 2 x) := put_of (d := 2) (by decide) (by decide) h0 h1
theorem put4 {x : Int} (h0 : 0 ≤ x) (h1 : x < 4294967296) : numPut x 4 = strOfNums (be 4 x) := put_of (d := 4) (by decide) (by decide) h0 h1
theorem beS_size (d : Nat) (x : Int) : (strOfNums (be d x)).size = d := by rw [strOfNums_size, be_length]
theorem packetPut_eq {up : Bool} {apid count : Int} {s : ByteArray} (hok : HPack.pOk apid count s = true) :
    HPack.packetPut up apid count s = ((strOfNums (be 2 (2048 + apid + (if up = true then 4096 else 0))) ++ strOfNums (be 2 (49152 + count))) ++ strOfNums (be 2 ((s.size : Int) - 1))) ++ s := by
  obtain ⟨a0, a1, c0, c1, s0, s1⟩ := HPack.pOk_of hok
  have e : 0 ≤ 2048 + apid + (if up = true then 4096 else 0) ∧ 2048 + apid + (if up = true then 4096 else 0) < 65536 := by cases up <;> simp <;> omega
  rw [HPack.packetPut, if_pos hok, put2 e.1 e.2, put2 (x := 49152 + count) (by omega) (by omega), put2 (x := (s.size : Int) - 1) (by omega) (by omega)]
  simp only [strOfNums_append, str_bytesOf, List.nil_append]
theorem l6Put_at (k : Nat) (hk : 10 ≤ k) (up : Bool) (apid count : Int) (s : ByteArray) (hok : HPack.pOk apid count s = true) : spec_l6Put.f k up apid count s = some (HPack.packetPut up apid count s) := by
  obtain ⟨a0, a1, c0, c1, s0, s1⟩ := HPack.pOk_of hok
  have e : 0 ≤ 2048 + apid + (if up = true then 4096 else 0) ∧ 2048 + apid + (if up = true then 4096 else 0) < 65536 := by cases up <;> simp <;> omega
  have e0 : wrap64 (wrap64 (wrap64 ((if up = true then (1 : Int) else 0) * 4096) + 2048) + apid) = 2048 + apid + (if up = true then 4096 else 0) := by
    cases up <;> simp [wrap64] <;> omega
  have e1 : wrap64 (49152 + count) = 49152 + count := w64 (by omega) (by omega)
  have e2 : wrap64 ((s.size : Int) - 1) = (s.size : Int) - 1 := w64 (by omega) (by omega)
  have hf : spec_l3Flag.f up = some (if up = true then (1 : Int) else 0) := by unfold spec_l3Flag.f; cases up <;> rfl
  have l1 := l1Put_at k (by omega) (2048 + apid + (if up = true then 4096 else 0)) 2 e.1 (by omega) (by decide) (by decide)
  have l2 := l1Put_at k (by omega) (49152 + count) 2 (by omega) (by omega) (by decide) (by decide)
  have l3 := l1Put_at k (by omega) ((s.size : Int) - 1) 2 (by omega) (by omega) (by decide) (by decide)
  have t2 : (2 : Int).toNat = 2 := rfl
  rw [t2] at l1 l2 l3
  simp only [spec_l6Put.f, hf, e0, e1, e2, l1, l2, l3, Option.bind_some, beS_size]
  rw [if_pos (by decide), if_pos (by decide), if_pos (by omega), packetPut_eq hok]
theorem l6Ok_at (up : Bool) (apid count : Int) (s : ByteArray) : spec_l6Ok.f up apid count s = some (HPack.pOk apid count s) := by
  simp only [spec_l6Ok.f, l1In_at, Option.bind_some, HPack.pOk]
  generalize decide (0 ≤ apid ∧ apid ≤ 2047) = b1
  generalize decide (0 ≤ count ∧ count ≤ 16383) = b2
  cases b1 <;> cases b2 <;> rfl
end FnExactPacketPutL
open FnExactPacketPutL

theorem FnExactPacketPut (up : Bool) (apid count : Int) (s : ByteArray) (_ : (Lit.int .i64 apid).wf = true) (_ : (Lit.int .i64 count).wf = true) (_ : s.size ≤ 9223372036854775807) : ∃ k, laws_FnExactPacketPut.f k up apid count s = some true := by
  refine ⟨20, ?_⟩
  unfold laws_FnExactPacketPut.f laws_szPacket.f
  by_cases h : wrap64 (1048576 - (s.size : Int)) < 0
  · simp only [if_pos h, Option.bind_some]
    rfl
  simp only [if_neg h, Option.bind_some, laws_toPacket.f, spec_PacketPut.f, l6Ok_at, impl_PacketPut.f]
  cases hok : HPack.pOk apid count s with
  | false =>
    have e : HPack.packetPut up apid count s = ⟨#[]⟩ := by rw [HPack.packetPut, hok]; rfl
    simp [e]
  | true => simp [l6Put_at 20 (by decide) up apid count s hok]

end Go.Proofs.Ytgioeghaopoabaa.Pure
