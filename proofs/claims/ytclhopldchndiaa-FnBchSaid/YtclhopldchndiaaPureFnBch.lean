/- FnBch: seven bytes of which a few neighbouring bits are turned have another parity. No conditions but that what comes is such as a machine holds. -/
import Derived.Test.YtclhopldchndiaaPFnBchx2
import Derived.Test.YtclhopldchndiaaBchMath
namespace Go.Proofs.Ytclhopldchndiaa.Pure
open Go Go.RowKit Go.Proofs.Ytclhopldchndiaa.PFnBch Go.Proofs.YtclhopldchndiaaW.PrintWords Go.Proofs.YtclhopldchndiaaW.PrintLast Go.Proofs.YtclhopldchndiaaW.PrintMore Go.Proofs.Ytclhopldchndiaa.Aux Go.Proofs.Ytclhopldchndiaa.Bt Go.Proofs.Ytclhopldchndiaa.BchMath

namespace FnBchL
theorem next_fin : ∀ (s : Fin 128) (b : Fin 2), impl_parity_next.f (s.1 : Int) (b.1 : Int) = some ((bstep s.1 b.1 : Nat) : Int) := by decide +kernel
theorem spec_fin : ∀ (s : Fin 128) (b : Fin 2), (if bits .xor .i64 ((s.1 : Int) / 64) (b.1 : Int) = 1 then bits .xor .i64 (bits .and .i64 (wrap64 ((s.1 : Int) * 2)) 127) 69 else bits .and .i64 (wrap64 ((s.1 : Int) * 2)) 127) = ((bstep s.1 b.1 : Nat) : Int) := by decide +kernel
theorem bit_fin : ∀ (v : Fin 256) (b : Fin 8), bits .and .u8 (shr .u8 (v.1 : Int) (b.1 : Int)) 1 = ((v.1 / 2 ^ b.1 % 2 : Nat) : Int) ∧ bits .and .i64 (shr .i64 (v.1 : Int) (b.1 : Int)) 1 = ((v.1 / 2 ^ b.1 % 2 : Nat) : Int) := by decide +kernel
theorem bit_at (s : ByteArray) (t : Nat) : bits .and .u8 (shr .u8 (bt s ((t / 8 : Nat) : Int)) ((7 - t % 8 : Nat) : Int)) 1 = ((bitAt s t : Nat) : Int) ∧ bits .and .i64 (shr .i64 (bt s ((t / 8 : Nat) : Int)) ((7 - t % 8 : Nat) : Int)) 1 = ((bitAt s t : Nat) : Int) := by
  have hb := bt_range s ((t / 8 : Nat) : Int)
  have h := bit_fin ⟨(bt s ((t / 8 : Nat) : Int)).toNat, by omega⟩ ⟨7 - t % 8, by omega⟩
  have e : (((bt s ((t / 8 : Nat) : Int)).toNat : Nat) : Int) = bt s ((t / 8 : Nat) : Int) := by omega
  simp only [e] at h
  exact h
theorem next_at (s : ByteArray) (t : Nat) : impl_parity_next.f ((bst s t : Nat) : Int) ((bitAt s t : Nat) : Int) = some ((bst s (t + 1) : Nat) : Int) := next_fin ⟨_, bst_lt s t⟩ ⟨_, bitAt_lt s t⟩
theorem over_step (k t : Nat) (s : ByteArray) (hs : s.size = 7) (ht : t < 56) :
    impl_parity_over.l1 (k + 1) ((bst s t : Nat) : Int) s ((t / 8 : Nat) : Int) ((7 - t % 8 : Nat) : Int) = impl_parity_over.l1 k ((bst s (t + 1) : Nat) : Int) s ((t / 8 : Nat) : Int) (((7 - t % 8 : Nat) : Int) - 1) := by
  simp only [impl_parity_over.l1]
  rw [if_pos (by omega), if_pos (by omega), if_pos (by omega), if_pos (by omega), (bit_at s t).1, next_at]
  simp only [Option.bind_some]
  rw [w64 (by omega) (by omega)]
/-- The program's two loops. -/
theorem over_l1 (n : Nat) (hn : n = 56) (d : Nat) : ∀ (k t : Nat) (s : ByteArray), 3 * d + 3 ≤ k → s.size = 7 → t + (d + 1) = n →
    impl_parity_over.l1 k ((bst s t : Nat) : Int) s ((t / 8 : Nat) : Int) ((7 - t % 8 : Nat) : Int) = some ((bst s n : Nat) : Int) := by
  induction d with
  | zero =>
    intro k t s hk hs ht
    obtain ⟨k, rfl⟩ : ∃ m, k = m + 3 := ⟨k - 3, by omega⟩
    obtain rfl : n = t + 1 := by omega
    rw [over_step (k + 2) t s hs (by omega)]
    simp only [impl_parity_over.l1]
    rw [if_neg (by omega), w64 (by omega) (by omega)]
    simp only [impl_parity_over.l0]
    rw [if_neg (by omega)]
  | succ d ih =>
    intro k t s hk hs ht
    obtain ⟨k, rfl⟩ : ∃ m, k = m + 3 := ⟨k - 3, by omega⟩
    rw [over_step (k + 2) t s hs (by omega)]
    by_cases h : t % 8 = 7
    · simp only [impl_parity_over.l1]
      rw [if_neg (by omega), w64 (by omega) (by omega)]
      simp only [impl_parity_over.l0]
      rw [if_pos (by omega)]
      have e1 : ((t / 8 : Nat) : Int) + 1 = (((t + 1) / 8 : Nat) : Int) := by omega
      have e2 : (7 : Int) = ((7 - (t + 1) % 8 : Nat) : Int) := by omega
      rw [e1, e2]
      exact ih k (t + 1) s (by omega) hs (by omega)
    · have e1 : ((t / 8 : Nat) : Int) = (((t + 1) / 8 : Nat) : Int) := by omega
      have e2 : ((7 - t % 8 : Nat) : Int) - 1 = ((7 - (t + 1) % 8 : Nat) : Int) := by omega
      rw [e1, e2]
      exact ih (k + 2) (t + 1) s (by omega) hs (by omega)
theorem over_at (k : Nat) (hk : 200 ≤ k) (s : ByteArray) (hs : s.size = 7) : impl_parity_over.f k 0 s = some ((bst s 56 : Nat) : Int) := by
  obtain ⟨k, rfl⟩ : ∃ m, k = m + 1 := ⟨k - 1, by omega⟩
  unfold impl_parity_over.f
  simp only [impl_parity_over.l0]
  rw [if_pos (by omega)]
  exact over_l1 56 rfl 55 k 0 s (by omega) hs (by omega)
theorem idx1 {t : Nat} (ht : t < 56) : wrap64 (Int.tdiv (t : Int) 8) = ((t / 8 : Nat) : Int) := by
  rw [tdivp (by omega), w64 (by omega) (by omega)]
  omega
theorem idx2 {t : Nat} (ht : t < 56) : wrap64 (7 - Int.tmod (t : Int) 8) = ((7 - t % 8 : Nat) : Int) := by
  rw [tmodp (by omega), w64 (by omega) (by omega)]
  omega
theorem idx3 {t : Nat} (ht : t < 56) : wrap64 ((t : Int) + 1) = ((t + 1 : Nat) : Int) := by
  rw [w64 (by omega) (by omega)]
  omega
theorem idx4 (s : ByteArray) (p : Int) : wrap64 (bt s p) = bt s p := by
  have hb := bt_range s p
  exact w64 (by omega) (by omega)
theorem bch_step (k t : Nat) (s : ByteArray) (hs : s.size = 7) (ht : t < 56) :
    spec_Bch.l0 (k + 1) s ((bst s t : Nat) : Int) (t : Int) = spec_Bch.l0 k s ((bst s (t + 1) : Nat) : Int) ((t + 1 : Nat) : Int) := by
  have p1 : (t : Int) < 56 := by omega
  have p2 : 0 ≤ ((t / 8 : Nat) : Int) := by omega
  have p3 : ((t / 8 : Nat) : Int) < (s.size : Int) := by omega
  have p4 : 0 ≤ ((7 - t % 8 : Nat) : Int) := by omega
  simp only [spec_Bch.l0]
  rw [if_pos p1, idx1 ht, idx2 ht, if_pos p2, if_pos p3, if_pos p4, idx4, (bit_at s t).2, idx3 ht]
  have h := spec_fin ⟨bst s t, bst_lt s t⟩ ⟨bitAt s t, bitAt_lt s t⟩
  dsimp only at h
  rw [show bstep (bst s t) (bitAt s t) = bst s (t + 1) from rfl] at h
  by_cases c : bits .xor .i64 (((bst s t : Nat) : Int) / 64) ((bitAt s t : Nat) : Int) = 1
  · rw [if_pos c] at h
    rw [if_pos c, h]
  · rw [if_neg c] at h
    rw [if_neg c, h]
/-- The reference's loop. -/
theorem bch_l0 (n : Nat) (hn : n = 56) (d : Nat) : ∀ (k t : Nat) (s : ByteArray), d < k → s.size = 7 → t + d = n →
    spec_Bch.l0 k s ((bst s t : Nat) : Int) (t : Int) = some (wrap64 ((bits .xor .i64 ((bst s n : Nat) : Int) 127) * 2)) := by
  induction d with
  | zero =>
    intro k t s hk hs ht
    obtain ⟨k, rfl⟩ : ∃ m, k = m + 1 := ⟨k - 1, by omega⟩
    obtain rfl : n = t := by omega
    simp only [spec_Bch.l0]
    rw [if_neg (by omega)]
  | succ d ih =>
    intro k t s hk hs ht
    obtain ⟨k, rfl⟩ : ∃ m, k = m + 1 := ⟨k - 1, by omega⟩
    rw [bch_step k t s hs (by omega)]
    exact ih k (t + 1) s (by omega) hs (by omega)
theorem last_fin : ∀ (s : Fin 128), wrap64 ((bits .xor .i64 (s.1 : Int) 127) * 2) = (((s.1 ^^^ 127) * 2 : Nat) : Int) ∧ wrap64 ((wrap64 (bits .xor .u8 (s.1 : Int) 127)) * 2) = (((s.1 ^^^ 127) * 2 : Nat) : Int) := by decide +kernel
/-- Bch's answer. -/
def bch (s : ByteArray) : Int := if s.size = 7 then (((bst s 56 ^^^ 127) * 2 : Nat) : Int) else -1
theorem implBch_at (k : Nat) (hk : 200 ≤ k) (s : ByteArray) : impl_Bch.f k s = some (bch s) := by
  unfold impl_Bch.f bch
  by_cases hs : s.size = 7
  · rw [if_pos (by omega), if_pos hs, over_at k hk s hs]
    simp only [Option.bind_some]
    rw [(last_fin ⟨bst s 56, bst_lt s 56⟩).2]
  · rw [if_neg (by omega), if_neg hs]
theorem specBch_at (k : Nat) (hk : 60 ≤ k) (s : ByteArray) : spec_Bch.f k s = some (bch s) := by
  unfold spec_Bch.f bch
  by_cases hs : s.size = 7
  · rw [if_pos (by omega), if_pos hs]
    have h := bch_l0 56 rfl 56 k 0 s (by omega) hs (by omega)
    rw [(last_fin ⟨bst s 56, bst_lt s 56⟩).1] at h
    exact h
  · rw [if_neg (by omega), if_neg hs]
/-- What is read from: at most 2000 bytes. -/
def Bytes (xs : List Int) : Prop := xs.length ≤ 2000 ∧ ∀ x ∈ xs, 0 ≤ x ∧ x ≤ 255
theorem rd_rng {xs : List Int} (h : Bytes xs) (i : Int) : 0 ≤ rd xs i ∧ rd xs i ≤ 255 := by
  unfold rd
  rw [List.getD_eq_getElem?_getD]
  cases hx : xs[i.toNat]? with
  | none => simp
  | some x => exact h.2 x (List.mem_of_getElem? hx)
theorem u8_rng {x : Int} (h : (Lit.int .u8 x).wf = true) : 0 ≤ x ∧ x ≤ 255 := by
  simpa [Lit.wf, IntKind.min, IntKind.max, IntKind.bits, IntKind.signed] using h
/-- Opening what came: its first 2000 bytes. -/
theorem open_at (l : List Int) (hl : l.length ≤ 140737488351232) (h : ∀ x ∈ l, (Lit.int .u8 x).wf = true) : spec_l1Open.f l = some (l.take 2000, 0) ∧ Bytes (l.take 2000) := by
  refine ⟨?_, by rw [List.length_take]; omega, fun x hx => u8_rng (h x (List.mem_of_mem_take hx))⟩
  unfold spec_l1Open.f
  by_cases h2 : (l.length : Int) > 2000
  · rw [if_pos h2, if_pos (by omega)]
  · rw [if_neg h2, List.take_of_length_le (by omega)]
theorem xor_rng {x y : Int} (hx0 : 0 ≤ x) (hx1 : x < 4611686018427387904) (hy0 : 0 ≤ y) (hy1 : y < 4611686018427387904) : 0 ≤ bits .xor .i64 x y ∧ bits .xor .i64 x y < 4611686018427387904 := by
  obtain ⟨a, rfl⟩ := Int.eq_ofNat_of_zero_le hx0
  obtain ⟨b, rfl⟩ := Int.eq_ofNat_of_zero_le hy0
  have h : a ^^^ b < 2 ^ 62 := Nat.xor_lt_two_pow (by omega) (by omega)
  have e : bits .xor .i64 (a : Int) (b : Int) = ((a ^^^ b : Nat) : Int) := by
    show IntKind.i64.wrap ((BitVec.ofInt 64 (a : Int) ^^^ BitVec.ofInt 64 (b : Int)).toNat : Int) = _
    rw [BitVec.toNat_xor, BitVec.ofInt_natCast, BitVec.ofInt_natCast, BitVec.toNat_ofNat, BitVec.toNat_ofNat, Nat.mod_eq_of_lt (by omega), Nat.mod_eq_of_lt (by omega)]
    exact wraps_i64 _ (by omega) (by omega)
  rw [e]
  omega
/-- The number that is reckoned where what came is at its end. -/
theorem mix_rng {a b p q : Int} (ha0 : 0 ≤ a) (ha1 : a ≤ 255) (hb0 : 0 ≤ b) (hb1 : b ≤ 255) (hp0 : 0 ≤ p) (hp1 : p ≤ 1099511627776) (hq0 : 0 ≤ q) (hq1 : q ≤ 1099511627776) :
    ∃ v, wrap64 (wrap64 (wrap64 (wrap64 (wrap64 a * 131) + wrap64 (wrap64 b * 1117)) + wrap64 (p * 29)) + wrap64 (wrap64 q * 53)) = v ∧ 0 ≤ v ∧ v < 4611686018427387904 := by
  refine ⟨a * 131 + b * 1117 + p * 29 + q * 53, ?_, by omega, by omega⟩
  rw [w64 (x := a) (by omega) (by omega), w64 (x := b) (by omega) (by omega), w64 (x := q) (by omega) (by omega), w64 (x := a * 131) (by omega) (by omega), w64 (x := b * 1117) (by omega) (by omega), w64 (x := p * 29) (by omega) (by omega), w64 (x := q * 53) (by omega) (by omega),
    w64 (x := a * 131 + b * 1117) (by omega) (by omega), w64 (x := a * 131 + b * 1117 + p * 29) (by omega) (by omega), w64 (by omega) (by omega)]
theorem tmod_rng {x m : Int} (h0 : 0 ≤ x) (hm : 1 ≤ m) : 0 ≤ Int.tmod x m ∧ Int.tmod x m < m := by
  rw [tmodp h0]
  exact ⟨Int.emod_nonneg _ (by omega), Int.emod_lt_of_pos _ (by omega)⟩
/-- One pick: a number below m. -/
theorem pick_at {xs : List Int} (h : Bytes xs) (p m : Int) (hp0 : 0 ≤ p) (hp1 : p ≤ 1000000) (hm : 1 ≤ m) :
    ∃ r, 0 ≤ r ∧ r < m ∧ ∀ k, 2 ≤ k → spec_l1Rd_pick.f k xs p m = some (r, p + 1) := by
  have hlen := h.1
  have e1 : wrap64 (p + 1) = p + 1 := w64 (by omega) (by omega)
  have e2 : wrap64 (p + 1 - 1) = p := by rw [w64 (by omega) (by omega)]; omega
  have n1 : ¬ m < 1 := by omega
  have n2 : ¬ m = 0 := by omega
  by_cases hz : xs.length = 0
  · refine ⟨0, by omega, by omega, fun k hk => ?_⟩
    obtain ⟨k, rfl⟩ : ∃ q, k = q + 1 := ⟨k - 1, by omega⟩
    have hb : ((xs.length : Int) == 0) = true := by rw [hz]; rfl
    unfold spec_l1Rd_pick.f
    rw [if_neg n1, hb, e1]
    simp only [spec_l1Rd_pick.j0, if_true]
  have hb : ((xs.length : Int) == 0) = false := beq_eq_false_iff_ne.mpr (by omega)
  by_cases hlt : p < (xs.length : Int)
  · have hr := rd_rng h p
    have e3 : wrap64 (rd xs p) = rd xs p := w64 (by omega) (by omega)
    obtain ⟨t0, t1⟩ := tmod_rng (x := rd xs p) (m := m) hr.1 hm
    refine ⟨Int.tmod (rd xs p) m, t0, t1, fun k hk => ?_⟩
    obtain ⟨k, rfl⟩ : ∃ q, k = q + 1 := ⟨k - 1, by omega⟩
    unfold spec_l1Rd_pick.f
    rw [if_neg n1, hb, e1]
    simp only [spec_l1Rd_pick.j0, Bool.false_eq_true, if_false, e2]
    rw [if_pos hlt, if_pos hp0, if_neg n2, e3]
  · have hl1 : 1 ≤ (xs.length : Int) := by omega
    have m1 := tmod_rng (x := p) (m := (xs.length : Int)) hp0 hl1
    have e4 : wrap64 (wrap64 (p * 7) + 3) = p * 7 + 3 := by rw [w64 (x := p * 7) (by omega) (by omega), w64 (by omega) (by omega)]
    have m2 := tmod_rng (x := p * 7 + 3) (m := (xs.length : Int)) (by omega) hl1
    have r1 := rd_rng h (Int.tmod p (xs.length : Int))
    have r2 := rd_rng h (Int.tmod (p * 7 + 3) (xs.length : Int))
    have q0 : 0 ≤ Int.tdiv p (xs.length : Int) := by rw [tdivp hp0]; exact Int.ediv_nonneg hp0 (by omega)
    have q1 : Int.tdiv p (xs.length : Int) ≤ 1000000 := by rw [tdivp hp0]; exact Int.le_trans (Int.ediv_le_self _ hp0) hp1
    obtain ⟨v, hv, v0, v1⟩ := mix_rng (p := p) (q := Int.tdiv p (xs.length : Int)) r1.1 r1.2 r2.1 r2.2 hp0 (by omega) q0 (by omega)
    have d1 : wrap64 (Int.tdiv v 64) = v / 64 := by rw [tdivp v0, w64 (by omega) (by omega)]
    obtain ⟨x0, x1⟩ := xor_rng (x := v) (y := v / 64) v0 v1 (by omega) (by omega)
    obtain ⟨t0, t1⟩ := tmod_rng (x := bits .xor .i64 v (v / 64)) (m := m) x0 hm
    refine ⟨Int.tmod (bits .xor .i64 v (v / 64)) m, t0, t1, fun k hk => ?_⟩
    obtain ⟨k, rfl⟩ : ∃ q, k = q + 1 := ⟨k - 1, by omega⟩
    unfold spec_l1Rd_pick.f
    rw [if_neg n1, hb, e1]
    simp only [spec_l1Rd_pick.j0, Bool.false_eq_true, if_false, e2, e4]
    rw [if_neg hlt, if_neg (show ¬ (xs.length : Int) = 0 by omega), if_pos m1.1, if_pos m1.2, if_pos m2.1, if_pos m2.2, if_neg n2, hv, d1]
theorem text_l0 {xs : List Int} (h : Bytes xs) (d : Nat) : ∀ (acc : List Int) (p : Int), acc.length + d ≤ 1000 → 0 ≤ p → p + 3 * d ≤ 500000 →
    ∃ t q, t.size = acc.length + d ∧ p ≤ q ∧ q ≤ p + 3 * d ∧ ∀ k, d + 2 < k → spec_l15Text.l0 k acc (d : Int) xs p = some (t, q) := by
  induction d with
  | zero =>
    intro acc p ha hp0 hp1
    refine ⟨strOfNums acc, p, strOfNums_size acc, by omega, by omega, fun k hk => ?_⟩
    obtain ⟨k, rfl⟩ : ∃ m, k = m + 1 := ⟨k - 1, by omega⟩
    simp only [spec_l15Text.l0]
    rw [if_neg (by omega)]
  | succ d ih =>
    intro acc p ha hp0 hp1
    obtain ⟨r1, a1, b1, c1⟩ := pick_at h p 256 hp0 (by omega) (by omega)
    obtain ⟨r2, a2, b2, c2⟩ := pick_at h (p + 1) 4 (by omega) (by omega) (by omega)
    obtain ⟨r3, a3, b3, c3⟩ := pick_at h (p + 1 + 1) 5 (by omega) (by omega) (by omega)
    obtain ⟨t, q, ht, hq0, hq1, hk⟩ := ih (acc ++ [(rd [r1, r2, 85, 235, 144] r3) % 256]) (p + 1 + 1 + 1) (by rw [List.length_append, List.length_singleton]; omega) (by omega) (by omega)
    refine ⟨t, q, by rw [ht, List.length_append, List.length_singleton]; omega, by omega, by omega, fun k hkk => ?_⟩
    obtain ⟨k, rfl⟩ : ∃ m, k = m + 1 := ⟨k - 1, by omega⟩
    have e : wrap64 (((d + 1 : Nat) : Int) - 1) = (d : Int) := by rw [w64 (by omega) (by omega)]; omega
    simp only [spec_l15Text.l0]
    rw [if_pos (by omega), c1 k (by omega)]
    simp only [Option.bind_some]
    rw [c2 k (by omega)]
    simp only [Option.bind_some]
    rw [c3 k (by omega)]
    simp only [Option.bind_some]
    rw [if_pos a3, if_pos (by show r3 < 5; omega), if_pos (by omega), e]
    exact hk k (by omega)
/-- A text that is drawn: at most n bytes. -/
theorem text_at {xs : List Int} (h : Bytes xs) (p : Int) (n : Nat) (hp0 : 0 ≤ p) (hp1 : p ≤ 100000) (hn : n ≤ 900) :
    ∃ t q, t.size ≤ n ∧ p ≤ q ∧ q ≤ p + 1 + 3 * n ∧ ∀ k, n + 10 < k → spec_l15Text.f k xs p (n : Int) = some (t, q) := by
  obtain ⟨r, a, b, c⟩ := pick_at h p ((n : Int) + 1) hp0 (by omega) (by omega)
  obtain ⟨d, rfl⟩ := Int.eq_ofNat_of_zero_le a
  obtain ⟨t, q, ht, hq0, hq1, hk⟩ := text_l0 h d [] (p + 1) (by rw [List.length_nil]; omega) (by omega) (by omega)
  refine ⟨t, q, by rw [ht, List.length_nil]; omega, by omega, by omega, fun k hkk => ?_⟩
  unfold spec_l15Text.f
  rw [w64 (x := (n : Int) + 1) (by omega) (by omega), c k (by omega)]
  simp only [Option.bind_some]
  exact hk k (by omega)
theorem bnd {α β : Type} {o : Option α} {f : α → Option β} {b : β} (a : α) (h : o = some a) (h2 : f a = some b) : o.bind f = some b := Option.bind_eq_some_iff.2 ⟨a, h, h2⟩
theorem drawBch_l0 {xs : List Int} (h : Bytes xs) (p : Int) (hp0 : 0 ≤ p) (hp1 : p ≤ 100000) (d : Nat) : ∀ (t : ByteArray), t.size + d = 7 ∨ (d = 0 ∧ 7 ≤ t.size ∧ t.size ≤ 9) →
    ∃ u, u.size ≤ 9 ∧ ∀ k, d + 3 ≤ k → spec_DrawBch.l0 k t xs p = some u := by
  induction d with
  | zero =>
    intro t ht
    obtain ⟨r0, a0, b0, c0⟩ := pick_at h p 8 hp0 (by omega) (by decide)
    by_cases hz : r0 = 0
    · refine ⟨t, by omega, fun k hk => ?_⟩
      obtain ⟨k, rfl⟩ : ∃ m, k = m + 1 := ⟨k - 1, by omega⟩
      simp only [spec_DrawBch.l0]
      rw [if_neg (by omega)]
      exact bnd _ (c0 k (by omega)) (if_pos hz)
    · refine ⟨t.extract 0 7, by rw [ByteArray.size_extract]; omega, fun k hk => ?_⟩
      obtain ⟨k, rfl⟩ : ∃ m, k = m + 1 := ⟨k - 1, by omega⟩
      simp only [spec_DrawBch.l0]
      rw [if_neg (by omega)]
      exact bnd _ (c0 k (by omega)) ((if_neg hz).trans ((if_pos (by decide)).trans (if_pos (by omega))))
  | succ d ih =>
    intro t ht
    have ht' : t.size + (d + 1) = 7 := by omega
    have h1 : (⟨#[120]⟩ : ByteArray).size = 1 := rfl
    obtain ⟨u, hu, hk'⟩ := ih (t ++ (⟨#[120]⟩ : ByteArray)) (Or.inl (by rw [ByteArray.size_append, h1]; omega))
    refine ⟨u, hu, fun k hk => ?_⟩
    obtain ⟨k, rfl⟩ : ∃ m, k = m + 1 := ⟨k - 1, by omega⟩
    simp only [spec_DrawBch.l0]
    rw [if_pos (by omega), if_pos (by omega)]
    exact hk' k (by omega)
theorem drawBch (l : List Int) (hl : l.length ≤ 140737488351232) (hw : ∀ x ∈ l, (Lit.int .u8 x).wf = true) : ∃ u, u.size ≤ 9 ∧ ∀ k, 40 ≤ k → spec_DrawBch.f k l = some u := by
  obtain ⟨ho, hB⟩ := open_at l hl hw
  obtain ⟨t, q, ht, q0, q1, ck⟩ := text_at hB 0 9 (by decide) (by decide) (by decide)
  obtain ⟨u, hu, hk'⟩ := drawBch_l0 hB q (by omega) (by omega) (7 - t.size) t (by omega)
  refine ⟨u, hu, fun k hk => ?_⟩
  unfold spec_DrawBch.f
  exact bnd _ ho (bnd _ (ck k (by omega)) (hk' k (by omega)))
theorem xor_fin : ∀ (a : Fin 256) (m : Fin 128), bits .xor .u8 (a.1 : Int) (m.1 : Int) = ((a.1 ^^^ m.1 : Nat) : Int) := by decide +kernel
theorem turned_at (s : ByteArray) (k m : Nat) (hk : k < s.size) (hm : m < 128) : (HSpoil.turned s k (m : Int)).size = s.size ∧ (bt (HSpoil.turned s k (m : Int)) (k : Int)).toNat = (bt s (k : Int)).toNat ^^^ m ∧ ∀ i, i ≠ k → bt (HSpoil.turned s k (m : Int)) (i : Int) = bt s (i : Int) := by
  have hl := bytesOf_length s
  have hg : (bytesOf s).getD k 0 = bt s (k : Int) := by rw [bt_eq, List.getD_eq_getElem?_getD]
  have hb := bt_range s (k : Int)
  have hx := xor_fin ⟨(bt s (k : Int)).toNat, by omega⟩ ⟨m, hm⟩
  have e : (((bt s (k : Int)).toNat : Nat) : Int) = bt s (k : Int) := by omega
  simp only [e] at hx
  have hy : (bt s (k : Int)).toNat ^^^ m < 256 := Nat.xor_lt_two_pow (n := 8) (by omega) (by omega)
  have hA : AllBytes ((bytesOf s).set k (bits .xor .u8 ((bytesOf s).getD k 0) (m : Int))) := by
    intro x hx2
    rcases List.mem_or_eq_of_mem_set hx2 with h | h
    · exact allBytes_of s x h
    · rw [h, hg, hx]
      omega
  refine ⟨by rw [HSpoil.turned, strOfNums_size, List.length_set, hl], ?_, fun i hi => ?_⟩
  · rw [HSpoil.turned, bt_str hA, List.getElem?_set_self (by omega), hg, hx]
    rfl
  · rw [HSpoil.turned, bt_str hA, List.getElem?_set_ne (fun h => hi h.symm), bt_eq]
theorem bch_fin : ∀ a b : Fin 128, (a.1 ^^^ 127) * 2 = (b.1 ^^^ 127) * 2 → a = b := by decide +kernel
theorem bch_rng : ∀ a : Fin 128, (a.1 ^^^ 127) * 2 ≤ 254 := by decide +kernel
end FnBchL
open FnBchL

theorem FnBch : laws_FnBch.Pure := by
  intro l0 l1 hl0 hm0 hw0 hl1 hm1 hw1
  refine ⟨1000, ?_⟩
  unfold laws_FnBch.f
  by_cases hlen : l0.length > 1048576 ∨ l1.length > 1048576
  · rw [if_pos hlen]
  rw [if_neg hlen]
  obtain ⟨s, hs, hd⟩ := drawBch l0 (by omega) hw0
  refine bnd _ (hd 1000 (by decide)) (bnd _ (implBch_at 1000 (by decide) s) (bnd _ (specBch_at 1000 (by decide) s) ((if_pos rfl).trans ?_)))
  by_cases h7 : s.size = 7
  · rw [if_pos h7]
    obtain ⟨m, hm⟩ : ∃ m : Nat, (m : Int) = 1 + (l0.length : Int) % 127 := ⟨1 + l0.length % 127, by omega⟩
    have hm0 : 1 ≤ m ∧ m < 128 := by omega
    rw [← hm]
    have hk : l1.length % 7 < 7 := Nat.mod_lt _ (by decide)
    obtain ⟨t1, t2, t3⟩ := turned_at s (l1.length % 7) m (by omega) hm0.2
    refine bnd _ (implBch_at 1000 (by decide) _) (if_pos ?_)
    have hne := bst_turned s _ (l1.length % 7) m hm0.1 hm0.2 hk t2 (fun i _ hi => t3 i hi)
    generalize HSpoil.turned s (l1.length % 7) (m : Int) = u at t1 hne ⊢
    unfold bch
    rw [if_pos h7, if_pos (t1.trans h7)]
    have hr := bch_rng ⟨bst s 56, bst_lt s 56⟩
    dsimp only at hr
    refine ⟨by omega, by omega, by omega, fun he => hne ?_⟩
    exact congrArg Fin.val (bch_fin ⟨bst s 56, bst_lt s 56⟩ ⟨bst u 56, bst_lt u 56⟩ (by dsimp only; omega))
  · rw [if_neg h7]
    unfold bch
    rw [if_neg h7, if_pos rfl]

end Go.Proofs.Ytclhopldchndiaa.Pure
