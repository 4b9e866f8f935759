/- FnCrc16: the sum of a text is the one that the whole world knows, and of one byte turned it is another one. No conditions but that what comes is such as a machine holds. -/
import Derived.Test.YtgioeghaopoabaaPFnCrc16x2
import Derived.Test.YtgioeghaopoabaaCrcMore
namespace Go.Proofs.Ytgioeghaopoabaa.Pure
open Go Go.RowKit Go.Proofs.Ytgioeghaopoabaa.PFnCrc16 Go.Proofs.YtgioeghaopoabaaW.PrintWords Go.Proofs.YtgioeghaopoabaaW.PrintLast Go.Proofs.YtgioeghaopoabaaW.PrintMore Go.Proofs.Ytgioeghaopoabaa.Aux Go.Proofs.Ytgioeghaopoabaa.Bt Go.Proofs.Ytgioeghaopoabaa.CrcMath

namespace FnCrc16L
theorem spec_l1 (d : Nat) : ∀ (k j : Nat) (t : ByteArray) (x : BitVec 16) (i : Int), d < k → j + d = 8 →
    spec_Crc16.l1 k t (num (sts j x)) i (j : Int) = spec_Crc16.l0 (k - d - 1) t (num (sts 8 x)) (wrap64 (i + 1)) := by
  induction d with
  | zero =>
    intro k j t x i hk hj
    obtain ⟨k, rfl⟩ : ∃ m, k = m + 1 := ⟨k - 1, by omega⟩
    obtain rfl : j = 8 := by omega
    simp only [spec_Crc16.l1]
    rw [if_neg (by omega)]
    rfl
  | succ d ih =>
    intro k j t x i hk hj
    obtain ⟨k, rfl⟩ : ∃ m, k = m + 1 := ⟨k - 1, by omega⟩
    have hr := num_rng (sts j x)
    have h := spec_num (sts j x)
    have e2 : wrap64 (num (sts j x) * 2) = num (sts j x) * 2 := w64 (by omega) (by omega)
    have e3 : wrap64 (num (sts j x) * 2 - 65536) = num (sts j x) * 2 - 65536 := w64 (by omega) (by omega)
    have e4 : wrap64 ((j : Int) + 1) = ((j + 1 : Nat) : Int) := by rw [w64 (by omega) (by omega)]; omega
    have e5 : k + 1 - (d + 1) - 1 = k - d - 1 := by omega
    have p8 : (j : Int) < 8 := by omega
    have ih' := ih k (j + 1) t x i (by omega) (by omega)
    clear hr
    simp only [spec_Crc16.l1]
    rw [if_pos p8, e2, e3, e4, e5, ← ih']
    by_cases c : num (sts j x) * 2 ≥ 65536
    · rw [if_pos c] at h
      rw [if_pos c, h]
      rfl
    · rw [if_neg c] at h
      rw [if_neg c, h]
      rfl
theorem spec_l0 (d : Nat) : ∀ (k n : Nat) (t : ByteArray), 10 * d < k → t.size ≤ 140737488351232 → n + d = t.size →
    spec_Crc16.l0 k t (num (crcB t n)) (n : Int) = some (num (crcB t t.size)) := by
  induction d with
  | zero =>
    intro k n t hk ht hn
    obtain ⟨k, rfl⟩ : ∃ m, k = m + 1 := ⟨k - 1, by omega⟩
    obtain rfl : n = t.size := by omega
    simp only [spec_Crc16.l0]
    rw [if_neg (by omega)]
  | succ d ih =>
    intro k n t hk ht hn
    obtain ⟨k, rfl⟩ : ∃ m, k = m + 1 := ⟨k - 1, by omega⟩
    have hb := bt_range t (n : Int)
    have hw : wrap64 (wrap64 (bt t (n : Int)) * 256) = num (BitVec.ofNat 16 (bt t (n : Int)).toNat <<< 8) := by
      rw [w64 (x := bt t (n : Int)) (by omega) (by omega), w64 (by omega) (by omega)]
      unfold num
      rw [BitVec.toNat_shiftLeft, Nat.shiftLeft_eq, BitVec.toNat_ofNat]
      omega
    have h0 := spec_l1 8 k 0 t (crcB t n ^^^ (BitVec.ofNat 16 (bt t (n : Int)).toNat <<< 8)) (n : Int) (by omega) (by omega)
    have e : wrap64 ((n : Int) + 1) = ((n + 1 : Nat) : Int) := by rw [w64 (by omega) (by omega)]; omega
    have ih' := ih (k - 8 - 1) (n + 1) t (by omega) ht (by omega)
    have p1 : (n : Int) < (t.size : Int) := by omega
    have p2 : 0 ≤ (n : Int) := by omega
    clear hb
    simp only [spec_Crc16.l0]
    rw [if_pos p1, if_pos p2, hw, xor64]
    rw [e] at h0
    exact h0.trans ih'
theorem specCrc_at (k : Nat) (t : ByteArray) (hk : 10 * t.size < k) (ht : t.size ≤ 140737488351232) : spec_Crc16.f k t = some (num (crcB t t.size)) := by
  unfold spec_Crc16.f
  exact spec_l0 t.size k 0 t hk ht (by omega)
theorem implCrc_at (t : ByteArray) (ht : t.size ≤ 140737488351232) : impl_Crc16.f t = some (num (crcB t t.size)) := by
  unfold impl_Crc16.f
  rw [if_pos (by omega), fold_num]
/-- What is read from: at most 2000 bytes. -/
def Bytes (xs : List Int) : Prop := xs.length ≤ 2000 ∧ ∀ x ∈ xs, 0 ≤ x ∧ x ≤ 255
theorem rd_rng {xs : List Int} (h : Bytes xs) (i : Int) : 0 ≤ rd xs i ∧ rd xs i ≤ 255 := by
  unfold rd
  rw [List.getD_eq_getElem?_getD]
  cases hx : xs[i.toNat]? with
  | none => simp
  | some x => exact h.2 x (List.mem_of_getElem? hx)
theorem u8_rng {x : Int} (h : (Lit.int .u8 x).wf = true) : 0 ≤ x ∧ x ≤ 255 := by
  simpa [Lit.wf, IntKind.min, IntKind.max, IntKind.bits, IntKind.signed] using h
/-- Opening what came: its first 2000 bytes. -/
theorem open_at (l : List Int) (hl : l.length ≤ 140737488351232) (h : ∀ x ∈ l, (Lit.int .u8 x).wf = true) : spec_l1Open.f l = some (l.take 2000, 0) ∧ Bytes (l.take 2000) := by
  refine ⟨?_, by rw [List.length_take]; omega, fun x hx => u8_rng (h x (List.mem_of_mem_take hx))⟩
  unfold spec_l1Open.f
  by_cases h2 : (l.length : Int) > 2000
  · rw [if_pos h2, if_pos (by omega)]
  · rw [if_neg h2, List.take_of_length_le (by omega)]
theorem xor_rng {x y : Int} (hx0 : 0 ≤ x) (hx1 : x < 4611686018427387904) (hy0 : 0 ≤ y) (hy1 : y < 4611686018427387904) : 0 ≤ bits .xor .i64 x y ∧ bits .xor .i64 x y < 4611686018427387904 := by
  obtain ⟨a, rfl⟩ := Int.eq_ofNat_of_zero_le hx0
  obtain ⟨b, rfl⟩ := Int.eq_ofNat_of_zero_le hy0
  have h : a ^^^ b < 2 ^ 62 := Nat.xor_lt_two_pow (by omega) (by omega)
  have e : bits .xor .i64 (a : Int) (b : Int) = ((a ^^^ b : Nat) : Int) := by
    show IntKind.i64.wrap ((BitVec.ofInt 64 (a : Int) ^^^ BitVec.ofInt 64 (b : Int)).toNat : Int) = _
    rw [BitVec.toNat_xor, BitVec.ofInt_natCast, BitVec.ofInt_natCast, BitVec.toNat_ofNat, BitVec.toNat_ofNat, Nat.mod_eq_of_lt (by omega), Nat.mod_eq_of_lt (by omega)]
    exact wraps_i64 _ (by omega) (by omega)
  rw [e]
  omega
/-- The number that is reckoned where what came is at its end. -/
theorem mix_rng {a b p q : Int} (ha0 : 0 ≤ a) (ha1 : a ≤ 255) (hb0 : 0 ≤ b) (hb1 : b ≤ 255) (hp0 : 0 ≤ p) (hp1 : p ≤ 1099511627776) (hq0 : 0 ≤ q) (hq1 : q ≤ 1099511627776) :
    ∃ v, wrap64 (wrap64 (wrap64 (wrap64 (wrap64 a * 131) + wrap64 (wrap64 b * 1117)) + wrap64 (p * 29)) + wrap64 (wrap64 q * 53)) = v ∧ 0 ≤ v ∧ v < 4611686018427387904 := by
  refine ⟨a * 131 + b * 1117 + p * 29 + q * 53, ?_, by omega, by omega⟩
  rw [w64 (x := a) (by omega) (by omega), w64 (x := b) (by omega) (by omega), w64 (x := q) (by omega) (by omega), w64 (x := a * 131) (by omega) (by omega), w64 (x := b * 1117) (by omega) (by omega), w64 (x := p * 29) (by omega) (by omega), w64 (x := q * 53) (by omega) (by omega),
    w64 (x := a * 131 + b * 1117) (by omega) (by omega), w64 (x := a * 131 + b * 1117 + p * 29) (by omega) (by omega), w64 (by omega) (by omega)]
theorem tmod_rng {x m : Int} (h0 : 0 ≤ x) (hm : 1 ≤ m) : 0 ≤ Int.tmod x m ∧ Int.tmod x m < m := by
  rw [tmodp h0]
  exact ⟨Int.emod_nonneg _ (by omega), Int.emod_lt_of_pos _ (by omega)⟩
/-- One pick: a number below m. -/
theorem pick_at {xs : List Int} (h : Bytes xs) (p m : Int) (hp0 : 0 ≤ p) (hp1 : p ≤ 1000000) (hm : 1 ≤ m) :
    ∃ r, 0 ≤ r ∧ r < m ∧ ∀ k, 2 ≤ k → spec_l1Rd_pick.f k xs p m = some (r, p + 1) := by
  have hlen := h.1
  have e1 : wrap64 (p + 1) = p + 1 := w64 (by omega) (by omega)
  have e2 : wrap64 (p + 1 - 1) = p := by rw [w64 (by omega) (by omega)]; omega
  have n1 : ¬ m < 1 := by omega
  have n2 : ¬ m = 0 := by omega
  by_cases hz : xs.length = 0
  · refine ⟨0, by omega, by omega, fun k hk => ?_⟩
    obtain ⟨k, rfl⟩ : ∃ q, k = q + 1 := ⟨k - 1, by omega⟩
    have hb : ((xs.length : Int) == 0) = true := by rw [hz]; rfl
    unfold spec_l1Rd_pick.f
    rw [if_neg n1, hb, e1]
    simp only [spec_l1Rd_pick.j0, if_true]
  have hb : ((xs.length : Int) == 0) = false := beq_eq_false_iff_ne.mpr (by omega)
  by_cases hlt : p < (xs.length : Int)
  · have hr := rd_rng h p
    have e3 : wrap64 (rd xs p) = rd xs p := w64 (by omega) (by omega)
    obtain ⟨t0, t1⟩ := tmod_rng (x := rd xs p) (m := m) hr.1 hm
    refine ⟨Int.tmod (rd xs p) m, t0, t1, fun k hk => ?_⟩
    obtain ⟨k, rfl⟩ : ∃ q, k = q + 1 := ⟨k - 1, by omega⟩
    unfold spec_l1Rd_pick.f
    rw [if_neg n1, hb, e1]
    simp only [spec_l1Rd_pick.j0, Bool.false_eq_true, if_false, e2]
    rw [if_pos hlt, if_pos hp0, if_neg n2, e3]
  · have hl1 : 1 ≤ (xs.length : Int) := by omega
    have m1 := tmod_rng (x := p) (m := (xs.length : Int)) hp0 hl1
    have e4 : wrap64 (wrap64 (p * 7) + 3) = p * 7 + 3 := by rw [w64 (x := p * 7) (by omega) (by omega), w64 (by omega) (by omega)]
    have m2 := tmod_rng (x := p * 7 + 3) (m := (xs.length : Int)) (by omega) hl1
    have r1 := rd_rng h (Int.tmod p (xs.length : Int))
    have r2 := rd_rng h (Int.tmod (p * 7 + 3) (xs.length : Int))
    have q0 : 0 ≤ Int.tdiv p (xs.length : Int) := by rw [tdivp hp0]; exact Int.ediv_nonneg hp0 (by omega)
    have q1 : Int.tdiv p (xs.length : Int) ≤ 1000000 := by rw [tdivp hp0]; exact Int.le_trans (Int.ediv_le_self _ hp0) hp1
    obtain ⟨v, hv, v0, v1⟩ := mix_rng (p := p) (q := Int.tdiv p (xs.length : Int)) r1.1 r1.2 r2.1 r2.2 hp0 (by omega) q0 (by omega)
    have d1 : wrap64 (Int.tdiv v 64) = v / 64 := by rw [tdivp v0, w64 (by omega) (by omega)]
    obtain ⟨x0, x1⟩ := xor_rng (x := v) (y := v / 64) v0 v1 (by omega) (by omega)
    obtain ⟨t0, t1⟩ := tmod_rng (x := bits .xor .i64 v (v / 64)) (m := m) x0 hm
    refine ⟨Int.tmod (bits .xor .i64 v (v / 64)) m, t0, t1, fun k hk => ?_⟩
    obtain ⟨k, rfl⟩ : ∃ q, k = q + 1 := ⟨k - 1, by omega⟩
    unfold spec_l1Rd_pick.f
    rw [if_neg n1, hb, e1]
    simp only [spec_l1Rd_pick.j0, Bool.false_eq_true, if_false, e2, e4]
    rw [if_neg hlt, if_neg (show ¬ (xs.length : Int) = 0 by omega), if_pos m1.1, if_pos m1.2, if_pos m2.1, if_pos m2.2, if_neg n2, hv, d1]
theorem text_l0 {xs : List Int} (h : Bytes xs) (d : Nat) : ∀ (acc : List Int) (p : Int), acc.length + d ≤ 1000 → 0 ≤ p → p + 3 * d ≤ 500000 →
    ∃ t q, t.size = acc.length + d ∧ p ≤ q ∧ q ≤ p + 3 * d ∧ ∀ k, d + 2 < k → spec_l15Text.l0 k acc (d : Int) xs p = some (t, q) := by
  induction d with
  | zero =>
    intro acc p ha hp0 hp1
    refine ⟨strOfNums acc, p, strOfNums_size acc, by omega, by omega, fun k hk => ?_⟩
    obtain ⟨k, rfl⟩ : ∃ m, k = m + 1 := ⟨k - 1, by omega⟩
    simp only [spec_l15Text.l0]
    rw [if_neg (by omega)]
  | succ d ih =>
    intro acc p ha hp0 hp1
    obtain ⟨r1, a1, b1, c1⟩ := pick_at h p 256 hp0 (by omega) (by omega)
    obtain ⟨r2, a2, b2, c2⟩ := pick_at h (p + 1) 4 (by omega) (by omega) (by omega)
    obtain ⟨r3, a3, b3, c3⟩ := pick_at h (p + 1 + 1) 5 (by omega) (by omega) (by omega)
    obtain ⟨t, q, ht, hq0, hq1, hk⟩ := ih (acc ++ [(rd [r1, r2, 85, 235, 144] r3) % 256]) (p + 1 + 1 + 1) (by rw [List.length_append, List.length_singleton]; omega) (by omega) (by omega)
    refine ⟨t, q, by rw [ht, List.length_append, List.length_singleton]; omega, by omega, by omega, fun k hkk => ?_⟩
    obtain ⟨k, rfl⟩ : ∃ m, k = m + 1 := ⟨k - 1, by omega⟩
    have e : wrap64 (((d + 1 : Nat) : Int) - 1) = (d : Int) := by rw [w64 (by omega) (by omega)]; omega
    simp only [spec_l15Text.l0]
    rw [if_pos (by omega), c1 k (by omega)]
    simp only [Option.bind_some]
    rw [c2 k (by omega)]
    simp only [Option.bind_some]
    rw [c3 k (by omega)]
    simp only [Option.bind_some]
    rw [if_pos a3, if_pos (by show r3 < 5; omega), if_pos (by omega), e]
    exact hk k (by omega)
/-- A text that is drawn: at most n bytes. -/
theorem text_at {xs : List Int} (h : Bytes xs) (p : Int) (n : Nat) (hp0 : 0 ≤ p) (hp1 : p ≤ 100000) (hn : n ≤ 900) :
    ∃ t q, t.size ≤ n ∧ p ≤ q ∧ q ≤ p + 1 + 3 * n ∧ ∀ k, n + 10 < k → spec_l15Text.f k xs p (n : Int) = some (t, q) := by
  obtain ⟨r, a, b, c⟩ := pick_at h p ((n : Int) + 1) hp0 (by omega) (by omega)
  obtain ⟨d, rfl⟩ := Int.eq_ofNat_of_zero_le a
  obtain ⟨t, q, ht, hq0, hq1, hk⟩ := text_l0 h d [] (p + 1) (by rw [List.length_nil]; omega) (by omega) (by omega)
  refine ⟨t, q, by rw [ht, List.length_nil]; omega, by omega, by omega, fun k hkk => ?_⟩
  unfold spec_l15Text.f
  rw [w64 (x := (n : Int) + 1) (by omega) (by omega), c k (by omega)]
  simp only [Option.bind_some]
  exact hk k (by omega)
theorem bnd {α β : Type} {o : Option α} {f : α → Option β} {b : β} (a : α) (h : o = some a) (h2 : f a = some b) : o.bind f = some b := Option.bind_eq_some_iff.2 ⟨a, h, h2⟩
theorem xor_fin : ∀ (a m : Fin 256), bits .xor .u8 (a.1 : Int) (m.1 : Int) = ((a.1 ^^^ m.1 : Nat) : Int) := by decide +kernel
theorem xor_ne (a x : Nat) (hx : 1 ≤ x) : a ^^^ x ≠ a := by
  intro h
  have h2 : a ^^^ (a ^^^ x) = a ^^^ a := by rw [h]
  rw [← Nat.xor_assoc, Nat.xor_self, Nat.zero_xor] at h2
  omega
theorem turned_at (s : ByteArray) (k m : Nat) (hk : k < s.size) (hm : m < 256) : (HMade.turned s k (m : Int)).size = s.size ∧ (bt (HMade.turned s k (m : Int)) (k : Int)).toNat = (bt s (k : Int)).toNat ^^^ m ∧ ∀ i, i ≠ k → bt (HMade.turned s k (m : Int)) (i : Int) = bt s (i : Int) := by
  have hl := bytesOf_length s
  have hg : (bytesOf s).getD k 0 = bt s (k : Int) := by rw [bt_eq, List.getD_eq_getElem?_getD]
  have hb := bt_range s (k : Int)
  have hx := xor_fin ⟨(bt s (k : Int)).toNat, by omega⟩ ⟨m, hm⟩
  have e : (((bt s (k : Int)).toNat : Nat) : Int) = bt s (k : Int) := by omega
  simp only [e] at hx
  have hy : (bt s (k : Int)).toNat ^^^ m < 256 := Nat.xor_lt_two_pow (n := 8) (by omega) (by omega)
  have hA : AllBytes ((bytesOf s).set k (bits .xor .u8 ((bytesOf s).getD k 0) (m : Int))) := by
    intro x hx2
    rcases List.mem_or_eq_of_mem_set hx2 with h | h
    · exact allBytes_of s x h
    · rw [h, hg, hx]
      omega
  refine ⟨by rw [HMade.turned, strOfNums_size, List.length_set, hl], ?_, fun i hi => ?_⟩
  · rw [HMade.turned, bt_str hA, List.getElem?_set_self (by omega), hg, hx]
    rfl
  · rw [HMade.turned, bt_str hA, List.getElem?_set_ne (fun h => hi h.symm), bt_eq]
theorem check : num (crcB (⟨#[49, 50, 51, 52, 53, 54, 55, 56, 57]⟩ : ByteArray) 9) = 10673 := by decide +kernel
end FnCrc16L
open FnCrc16L

theorem FnCrc16 : laws_FnCrc16.Pure := by
  intro l0 l1 hl0 hm0 hw0 hl1 hm1 hw1
  refine ⟨10000, ?_⟩
  unfold laws_FnCrc16.f
  by_cases hlen : l0.length > 1048576 ∨ l1.length > 1048576
  · rw [if_pos hlen]
  rw [if_neg hlen]
  obtain ⟨ho, hB⟩ := open_at l0 (by omega) hw0
  obtain ⟨t, q, ht, _, _, hk⟩ := text_at hB 0 60 (by omega) (by omega) (by omega)
  have hd : spec_DrawCrc16.f 10000 l0 = some t := by
    unfold spec_DrawCrc16.f
    have h60 := hk 10000 (by omega)
    have e : ((60 : Nat) : Int) = 60 := rfl
    rw [e] at h60
    exact bnd _ ho (bnd _ h60 rfl)
  have hr := num_rng (crcB t t.size)
  have hc : impl_Crc16.f (⟨#[49, 50, 51, 52, 53, 54, 55, 56, 57]⟩ : ByteArray) = some 10673 := by
    rw [implCrc_at _ (by decide)]
    exact congrArg some check
  refine bnd _ hd (bnd _ (implCrc_at t (by omega)) (bnd _ (specCrc_at 10000 t (by omega) (by omega)) (bnd _ hc ((if_pos ⟨rfl, rfl, hr.1, by omega⟩).trans ?_))))
  by_cases h0 : t.size = 0
  · rw [if_pos h0]
  rw [if_neg h0, if_pos (by omega)]
  obtain ⟨m, hm⟩ : ∃ m : Nat, (m : Int) = 1 + (l0.length : Int) % 255 := ⟨1 + l0.length % 255, by omega⟩
  have hm0 : 1 ≤ m ∧ m < 256 := by omega
  rw [← hm]
  have hkk : l1.length % t.size < t.size := Nat.mod_lt _ (by omega)
  obtain ⟨t1, t2, t3⟩ := turned_at t (l1.length % t.size) m hkk hm0.2
  refine bnd _ (implCrc_at _ (by rw [t1]; omega)) (if_neg ?_)
  intro e
  have e2 := num_inj e
  rw [t1] at e2
  refine crcB_part t _ (l1.length % t.size) t.size hkk (fun i _ hne => (t3 i hne).symm) ?_ e2.symm
  intro e3
  rw [← e3] at t2
  exact xor_ne _ m hm0.1 t2.symm

end Go.Proofs.Ytgioeghaopoabaa.Pure
