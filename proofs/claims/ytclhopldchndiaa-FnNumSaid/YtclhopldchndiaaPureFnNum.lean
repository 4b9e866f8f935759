/- FnNum: a number in bytes is read back. No conditions but that what comes is such as a machine holds. -/
import Derived.Test.YtclhopldchndiaaPFnNumx3
import Derived.Test.YtclhopldchndiaaNum
namespace Go.Proofs.Ytclhopldchndiaa.Pure
open Go Go.RowKit Go.Proofs.Ytclhopldchndiaa.PFnNum Go.Proofs.YtclhopldchndiaaW.PrintWords Go.Proofs.YtclhopldchndiaaW.PrintLast Go.Proofs.YtclhopldchndiaaW.PrintMore Go.Proofs.Ytclhopldchndiaa.Aux Go.Proofs.Ytclhopldchndiaa.Bt Go.Proofs.Ytclhopldchndiaa.Num

namespace FnNumL
theorem l1In_at (a b c : Int) : spec_l1In.f a b c = some (decide (b ≤ a ∧ a ≤ c)) := by
  unfold spec_l1In.f
  by_cases h : b ≤ a
  · rw [if_pos h]
    simp [h]
  · rw [if_neg h]
    simp [h]
theorem l1Put_l0 (d : Nat) : ∀ (k : Nat) (n size i : Int) (out : ByteArray), d < k → 0 ≤ n → n ≤ 9223372036854775807 → 0 ≤ i → size ≤ 4 → size - i = d → out.size ≤ 4 - d →
    spec_l1Put.l0 k n size out i = some (strOfNums (be d n) ++ out) := by
  induction d with
  | zero =>
    intro k n size i out hk h0 h1 hi hs hd ho
    obtain ⟨k, rfl⟩ : ∃ m, k = m + 1 := ⟨k - 1, by omega⟩
    simp only [spec_l1Put.l0]
    rw [if_neg (by omega)]
    show some out = some ((⟨#[]⟩ : ByteArray) ++ out)
    rw [str_nil_append]
  | succ d ih =>
    intro k n size i out hk h0 h1 hi hs hd ho
    obtain ⟨k, rfl⟩ : ∃ m, k = m + 1 := ⟨k - 1, by omega⟩
    have hsz : (strOfNums [(Int.tmod n 256) % 256]).size = 1 := by rw [strOfNums_size]; rfl
    simp only [spec_l1Put.l0]
    rw [if_pos (by omega)]
    simp only [Option.bind_some]
    rw [if_pos (by omega), w64 (x := i + 1) (by omega) (by omega), tdivp h0, w64 (x := n / 256) (by omega) (by omega)]
    rw [ih _ _ _ _ _ (by omega) (by omega) (by omega) (by omega) hs (by omega) (by rw [ByteArray.size_append]; omega)]
    have e : (Int.tmod n 256) % 256 = n % 256 := by rw [tmodp h0]; omega
    rw [e, be, strOfNums_append, ByteArray.append_assoc]
theorem l1Put_at (k : Nat) (hk : 5 ≤ k) (n size : Int) (h0 : 0 ≤ n) (h1 : n ≤ 9223372036854775807) (hs0 : 0 ≤ size) (hs : size ≤ 4) :
    spec_l1Put.f k n size = some (strOfNums (be size.toNat n)) := by
  unfold spec_l1Put.f
  rw [l1Put_l0 size.toNat k n size 0 _ (by omega) h0 h1 (by omega) hs (by omega) (by show 0 ≤ _; omega), str_append_nil]
theorem l1Full_at (k : Nat) (hk : 6 ≤ k) (s : Int) (h1 : 1 ≤ s) (h4 : s ≤ 4) : spec_l1Full.f k s = some (256 ^ s.toNat) := by
  obtain ⟨k, rfl⟩ : ∃ m, k = m + 6 := ⟨k - 6, by omega⟩
  have h : s = 1 ∨ s = 2 ∨ s = 3 ∨ s = 4 := by omega
  rcases h with rfl | rfl | rfl | rfl <;> simp [spec_l1Full.f, spec_l1Full.l0, wrap64]
theorem pow_size {s : Int} (h1 : 1 ≤ s) (h4 : s ≤ 4) : (256 : Int) ≤ 256 ^ s.toNat ∧ (256 : Int) ^ s.toNat ≤ 4294967296 := by
  have h : s = 1 ∨ s = 2 ∨ s = 3 ∨ s = 4 := by omega
  rcases h with rfl | rfl | rfl | rfl <;> decide
theorem specPut_at (k : Nat) (hk : 6 ≤ k) (n size : Int) (h1 : n ≤ 9223372036854775807) : spec_NumPut.f k n size = some (numPut n size) := by
  unfold spec_NumPut.f numPut
  rw [l1In_at]
  simp only [Option.bind_some, decide_eq_true_eq]
  by_cases hs : 1 ≤ size ∧ size ≤ 4
  · have hp := pow_size hs.1 hs.2
    rw [if_pos hs, l1Full_at k hk size hs.1 hs.2]
    simp only [Option.bind_some]
    rw [l1In_at, w64 (by omega) (by omega)]
    simp only [Option.bind_some, decide_eq_true_eq]
    by_cases hn : 0 ≤ n ∧ n ≤ 256 ^ size.toNat - 1
    · rw [if_pos hn, if_pos ⟨hs.1, hs.2, hn.1, by omega⟩, l1Put_at k (by omega) n size hn.1 h1 (by omega) hs.2]
      rfl
    · rw [if_neg hn, if_neg (by omega)]
  · rw [if_neg hs, if_neg (by omega)]
theorem implPut_l0 (d : Nat) : ∀ (k : Nat) (n : Int) (xs : List Int), d < k → 0 ≤ n → n ≤ 9223372036854775807 → d ≤ xs.length → xs.length ≤ 4 →
    impl_NumPut.l0 k n xs ((d : Int) - 1) = some (strOfNums (be d n ++ xs.drop d)) := by
  induction d with
  | zero =>
    intro k n xs hk h0 h1 hd hx
    obtain ⟨k, rfl⟩ : ∃ m, k = m + 1 := ⟨k - 1, by omega⟩
    simp only [impl_NumPut.l0]
    rw [if_neg (by omega)]
    simp [be]
  | succ d ih =>
    intro k n xs hk h0 h1 hd hx
    obtain ⟨k, rfl⟩ : ∃ m, k = m + 1 := ⟨k - 1, by omega⟩
    simp only [impl_NumPut.l0]
    have e1 : ((d + 1 : Nat) : Int) - 1 = d := by omega
    rw [e1, if_pos (by omega), if_pos (by omega), if_pos (by omega), and255 h0 (by omega), w64 (x := (d : Int) - 1) (by omega) (by omega)]
    have e2 : ((d : Int)).toNat = d := by omega
    rw [e2, ih _ _ _ (by omega) (by omega) (by omega) (by rw [List.length_set]; omega) (by rw [List.length_set]; omega)]
    have hl : d < (xs.set d (n % 256 % 256)).length := by rw [List.length_set]; omega
    rw [List.drop_eq_getElem_cons hl, List.getElem_set_self, List.drop_set_of_lt (by omega)]
    have e3 : n % 256 % 256 = n % 256 := by omega
    rw [e3, be, List.append_assoc]
    rfl
theorem implPut_at (k : Nat) (hk : 7 ≤ k) (n size : Int) (h1 : n ≤ 9223372036854775807) : impl_NumPut.f k n size = some (numPut n size) := by
  obtain ⟨k, rfl⟩ : ∃ m, k = m + 1 := ⟨k - 1, by omega⟩
  have j0t : ∀ a0 a1, impl_NumPut.j0 (k + 1) a0 a1 true = some (⟨#[]⟩ : ByteArray) := fun a0 a1 => by simp only [impl_NumPut.j0, if_true]
  unfold impl_NumPut.f numPut
  by_cases ha : size < 1
  · rw [if_pos ha, j0t, if_neg (by omega)]
  rw [if_neg ha]
  by_cases hb : size > 4
  · rw [if_pos hb, j0t, if_neg (by omega)]
  rw [if_neg hb]
  by_cases hc : n < 0
  · rw [if_pos hc, j0t, if_neg (by omega)]
  rw [if_neg hc, if_pos (by rw [w64 (by omega) (by omega)]; omega)]
  have hs : shr .i64 n (wrap64 (8 * size)) = n / 256 ^ size.toNat := by
    have h : size = 1 ∨ size = 2 ∨ size = 3 ∨ size = 4 := by omega
    unfold shr
    rcases h with rfl | rfl | rfl | rfl <;> exact congrArg (fun m => n / m) (by decide +kernel)
  have hp : (0 : Int) < 256 ^ size.toNat := Int.pow_pos (by decide)
  rw [hs]
  by_cases h : n < 256 ^ size.toNat
  · rw [if_pos ⟨by omega, by omega, by omega, h⟩, Int.ediv_eq_zero_of_lt (by omega) h]
    simp only [impl_NumPut.j0, bne_self_eq_false, Bool.false_eq_true, if_false]
    rw [if_pos (by omega), if_pos (by omega), w64 (by omega) (by omega)]
    have e : size - 1 = ((size.toNat : Nat) : Int) - 1 := by omega
    rw [e, implPut_l0 size.toNat k n _ (by omega) (by omega) h1 (by rw [List.length_replicate]; omega) (by rw [List.length_replicate]; omega)]
    rw [List.drop_eq_nil_of_le (by rw [List.length_replicate]; omega), List.append_nil]
  · have h2 : 1 ≤ n / 256 ^ size.toNat := Int.le_ediv_of_mul_le hp (by omega)
    have h3 : (n / 256 ^ size.toNat != 0) = true := by simp; omega
    rw [h3, j0t, if_neg (by omega)]
theorem l1Get_l0 (d : Nat) : ∀ (k : Nat) (s : ByteArray) (p size n i : Int), d < k → s.size ≤ 140737488351232 → 0 ≤ p → p + size ≤ s.size → 0 ≤ i → size ≤ 4 → size - i = d → 0 ≤ n → (n + 1) * 256 ^ d ≤ 4294967296 →
    spec_l1Get.l0 k s p size n i = some (gets s d (p + i) n) := by
  induction d with
  | zero =>
    intro k s p size n i hk hs hp hps hi hz hd hn hr
    obtain ⟨k, rfl⟩ : ∃ m, k = m + 1 := ⟨k - 1, by omega⟩
    simp only [spec_l1Get.l0]
    rw [if_neg (by omega)]
    rfl
  | succ d ih =>
    intro k s p size n i hk hs hp hps hi hz hd hn hr
    obtain ⟨k, rfl⟩ : ∃ m, k = m + 1 := ⟨k - 1, by omega⟩
    have hb := bt_range s (p + i)
    have hg := gets_room hn hr hb.2
    simp only [spec_l1Get.l0]
    rw [if_pos (by omega), w64 (x := p + i) (by omega) (by omega), if_pos (by omega), if_pos (by omega), w64 (x := n * 256) (by omega) (by omega), w64 (x := bt s (p + i)) (by omega) (by omega),
      w64 (x := n * 256 + bt s (p + i)) (by omega) (by omega), w64 (x := i + 1) (by omega) (by omega)]
    rw [ih k s p size _ (i + 1) (by omega) hs hp hps (by omega) hz (by omega) (by omega) hg.1, gets]
    congr 2
    omega
theorem specGet_at (k : Nat) (hk : 6 ≤ k) (s : ByteArray) (p size : Int) (hs : s.size ≤ 140737488351232) (h0 : -9223372036854775808 ≤ size) (h1 : size ≤ 9223372036854775807) : spec_NumGet.f k s p size = some (numGet s p size) := by
  unfold spec_NumGet.f numGet
  rw [l1In_at]
  simp only [Option.bind_some, decide_eq_true_eq]
  by_cases hz : 1 ≤ size ∧ size ≤ 4
  · rw [if_pos hz, l1In_at, w64 (by omega) (by omega)]
    simp only [Option.bind_some, decide_eq_true_eq]
    by_cases hp : 0 ≤ p ∧ p ≤ (s.size : Int) - size
    · rw [if_pos hp, if_pos ⟨hz.1, hz.2, hp.1, hp.2⟩]
      have hr : ((0 : Int) + 1) * 256 ^ size.toNat ≤ 4294967296 := by
        have h : size = 1 ∨ size = 2 ∨ size = 3 ∨ size = 4 := by omega
        rcases h with rfl | rfl | rfl | rfl <;> decide
      unfold spec_l1Get.f
      rw [l1Get_l0 size.toNat k s p size 0 0 (by omega) hs hp.1 (by omega) (by omega) hz.2 (by omega) (by omega) hr]
      simp
    · rw [if_neg hp, if_neg (by omega)]
  · rw [if_neg hz, if_neg (by omega)]
theorem implGet_l0 (d : Nat) : ∀ (k : Nat) (s : ByteArray) (p size n i : Int), d < k → s.size ≤ 140737488351232 → 0 ≤ p → p + size ≤ s.size → 0 ≤ i → size ≤ 4 → size - i = d → 0 ≤ n → (n + 1) * 256 ^ d ≤ 4294967296 →
    impl_NumGet.l0 k s p n size i = some (gets s d (p + i) n, true) := by
  induction d with
  | zero =>
    intro k s p size n i hk hs hp hps hi hz hd hn hr
    obtain ⟨k, rfl⟩ : ∃ m, k = m + 1 := ⟨k - 1, by omega⟩
    simp only [impl_NumGet.l0]
    rw [if_neg (by omega)]
    rfl
  | succ d ih =>
    intro k s p size n i hk hs hp hps hi hz hd hn hr
    obtain ⟨k, rfl⟩ : ∃ m, k = m + 1 := ⟨k - 1, by omega⟩
    have hb := bt_range s (p + i)
    have hg := gets_room hn hr hb.2
    simp only [impl_NumGet.l0]
    rw [if_pos (by omega), w64 (x := p + i) (by omega) (by omega), if_pos (by omega), if_pos (by omega), w64 (x := n * 256) (by omega) (by omega), w64 (x := bt s (p + i)) (by omega) (by omega),
      or_byte hn (by omega) hb.1 (by omega), w64 (x := i + 1) (by omega) (by omega)]
    rw [ih k s p size _ (i + 1) (by omega) hs hp hps (by omega) hz (by omega) (by omega) hg.1, gets]
    congr 3
    omega
theorem implGet_at (k : Nat) (hk : 7 ≤ k) (s : ByteArray) (p size : Int) (hs : s.size ≤ 140737488351232) (h0 : -9223372036854775808 ≤ size) (h1 : size ≤ 9223372036854775807) : impl_NumGet.f k s p size = some (numGet s p size) := by
  obtain ⟨k, rfl⟩ : ∃ m, k = m + 1 := ⟨k - 1, by omega⟩
  have j0t : ∀ a0 a1 a2, impl_NumGet.j0 (k + 1) a0 a1 a2 true = some (0, false) := fun a0 a1 a2 => by simp only [impl_NumGet.j0, if_true]
  unfold impl_NumGet.f numGet
  by_cases ha : size < 1
  · rw [if_pos ha, j0t, if_neg (by omega)]
  rw [if_neg ha]
  by_cases hb : size > 4
  · rw [if_pos hb, j0t, if_neg (by omega)]
  rw [if_neg hb]
  by_cases hc : p < 0
  · rw [if_pos hc, j0t, if_neg (by omega)]
  rw [if_neg hc, w64 (by omega) (by omega)]
  by_cases hd : p > (s.size : Int) - size
  · rw [decide_eq_true hd, j0t, if_neg (by omega)]
  · rw [decide_eq_false hd, if_pos ⟨by omega, by omega, by omega, by omega⟩]
    simp only [impl_NumGet.j0, Bool.false_eq_true, if_false]
    have hr : ((0 : Int) + 1) * 256 ^ size.toNat ≤ 4294967296 := by
      have h : size = 1 ∨ size = 2 ∨ size = 3 ∨ size = 4 := by omega
      rcases h with rfl | rfl | rfl | rfl <;> decide
    rw [implGet_l0 size.toNat k s p size 0 0 (by omega) hs (by omega) (by omega) (by omega) (by omega) (by omega) (by omega) hr]
    simp
/-- What is read from: at most 2000 bytes. -/
def Bytes (xs : List Int) : Prop := xs.length ≤ 2000 ∧ ∀ x ∈ xs, 0 ≤ x ∧ x ≤ 255
theorem rd_rng {xs : List Int} (h : Bytes xs) (i : Int) : 0 ≤ rd xs i ∧ rd xs i ≤ 255 := by
  unfold rd
  rw [List.getD_eq_getElem?_getD]
  cases hx : xs[i.toNat]? with
  | none => simp
  | some x => exact h.2 x (List.mem_of_getElem? hx)
theorem u8_rng {x : Int} (h : (Lit.int .u8 x).wf = true) : 0 ≤ x ∧ x ≤ 255 := by
  simpa [Lit.wf, IntKind.min, IntKind.max, IntKind.bits, IntKind.signed] using h
/-- Opening what came: its first 2000 bytes. -/
theorem open_at (l : List Int) (hl : l.length ≤ 140737488351232) (h : ∀ x ∈ l, (Lit.int .u8 x).wf = true) : spec_l1Open.f l = some (l.take 2000, 0) ∧ Bytes (l.take 2000) := by
  refine ⟨?_, by rw [List.length_take]; omega, fun x hx => u8_rng (h x (List.mem_of_mem_take hx))⟩
  unfold spec_l1Open.f
  by_cases h2 : (l.length : Int) > 2000
  · rw [if_pos h2, if_pos (by omega)]
  · rw [if_neg h2, List.take_of_length_le (by omega)]
theorem xor_rng {x y : Int} (hx0 : 0 ≤ x) (hx1 : x < 4611686018427387904) (hy0 : 0 ≤ y) (hy1 : y < 4611686018427387904) : 0 ≤ bits .xor .i64 x y ∧ bits .xor .i64 x y < 4611686018427387904 := by
  obtain ⟨a, rfl⟩ := Int.eq_ofNat_of_zero_le hx0
  obtain ⟨b, rfl⟩ := Int.eq_ofNat_of_zero_le hy0
  have h : a ^^^ b < 2 ^ 62 := Nat.xor_lt_two_pow (by omega) (by omega)
  have e : bits .xor .i64 (a : Int) (b : Int) = ((a ^^^ b : Nat) : Int) := by
    show IntKind.i64.wrap ((BitVec.ofInt 64 (a : Int) ^^^ BitVec.ofInt 64 (b : Int)).toNat : Int) = _
    rw [BitVec.toNat_xor, BitVec.ofInt_natCast, BitVec.ofInt_natCast, BitVec.toNat_ofNat, BitVec.toNat_ofNat, Nat.mod_eq_of_lt (by omega), Nat.mod_eq_of_lt (by omega)]
    exact wraps_i64 _ (by omega) (by omega)
  rw [e]
  omega
/-- The number that is reckoned where what came is at its end. -/
theorem mix_rng {a b p q : Int} (ha0 : 0 ≤ a) (ha1 : a ≤ 255) (hb0 : 0 ≤ b) (hb1 : b ≤ 255) (hp0 : 0 ≤ p) (hp1 : p ≤ 1099511627776) (hq0 : 0 ≤ q) (hq1 : q ≤ 1099511627776) :
    ∃ v, wrap64 (wrap64 (wrap64 (wrap64 (wrap64 a * 131) + wrap64 (wrap64 b * 1117)) + wrap64 (p * 29)) + wrap64 (wrap64 q * 53)) = v ∧ 0 ≤ v ∧ v < 4611686018427387904 := by
  refine ⟨a * 131 + b * 1117 + p * 29 + q * 53, ?_, by omega, by omega⟩
  rw [w64 (x := a) (by omega) (by omega), w64 (x := b) (by omega) (by omega), w64 (x := q) (by omega) (by omega), w64 (x := a * 131) (by omega) (by omega), w64 (x := b * 1117) (by omega) (by omega), w64 (x := p * 29) (by omega) (by omega), w64 (x := q * 53) (by omega) (by omega),
    w64 (x := a * 131 + b * 1117) (by omega) (by omega), w64 (x := a * 131 + b * 1117 + p * 29) (by omega) (by omega), w64 (by omega) (by omega)]
theorem tmod_rng {x m : Int} (h0 : 0 ≤ x) (hm : 1 ≤ m) : 0 ≤ Int.tmod x m ∧ Int.tmod x m < m := by
  rw [tmodp h0]
  exact ⟨Int.emod_nonneg _ (by omega), Int.emod_lt_of_pos _ (by omega)⟩
/-- One pick: a number below m. -/
theorem pick_at {xs : List Int} (h : Bytes xs) (p m : Int) (hp0 : 0 ≤ p) (hp1 : p ≤ 1000000) (hm : 1 ≤ m) :
    ∃ r, 0 ≤ r ∧ r < m ∧ ∀ k, 2 ≤ k → spec_l1Rd_pick.f k xs p m = some (r, p + 1) := by
  have hlen := h.1
  have e1 : wrap64 (p + 1) = p + 1 := w64 (by omega) (by omega)
  have e2 : wrap64 (p + 1 - 1) = p := by rw [w64 (by omega) (by omega)]; omega
  have n1 : ¬ m < 1 := by omega
  have n2 : ¬ m = 0 := by omega
  by_cases hz : xs.length = 0
  · refine ⟨0, by omega, by omega, fun k hk => ?_⟩
    obtain ⟨k, rfl⟩ : ∃ q, k = q + 1 := ⟨k - 1, by omega⟩
    have hb : ((xs.length : Int) == 0) = true := by rw [hz]; rfl
    unfold spec_l1Rd_pick.f
    rw [if_neg n1, hb, e1]
    simp only [spec_l1Rd_pick.j0, if_true]
  have hb : ((xs.length : Int) == 0) = false := beq_eq_false_iff_ne.mpr (by omega)
  by_cases hlt : p < (xs.length : Int)
  · have hr := rd_rng h p
    have e3 : wrap64 (rd xs p) = rd xs p := w64 (by omega) (by omega)
    obtain ⟨t0, t1⟩ := tmod_rng (x := rd xs p) (m := m) hr.1 hm
    refine ⟨Int.tmod (rd xs p) m, t0, t1, fun k hk => ?_⟩
    obtain ⟨k, rfl⟩ : ∃ q, k = q + 1 := ⟨k - 1, by omega⟩
    unfold spec_l1Rd_pick.f
    rw [if_neg n1, hb, e1]
    simp only [spec_l1Rd_pick.j0, Bool.false_eq_true, if_false, e2]
    rw [if_pos hlt, if_pos hp0, if_neg n2, e3]
  · have hl1 : 1 ≤ (xs.length : Int) := by omega
    have m1 := tmod_rng (x := p) (m := (xs.length : Int)) hp0 hl1
    have e4 : wrap64 (wrap64 (p * 7) + 3) = p * 7 + 3 := by rw [w64 (x := p * 7) (by omega) (by omega), w64 (by omega) (by omega)]
    have m2 := tmod_rng (x := p * 7 + 3) (m := (xs.length : Int)) (by omega) hl1
    have r1 := rd_rng h (Int.tmod p (xs.length : Int))
    have r2 := rd_rng h (Int.tmod (p * 7 + 3) (xs.length : Int))
    have q0 : 0 ≤ Int.tdiv p (xs.length : Int) := by rw [tdivp hp0]; exact Int.ediv_nonneg hp0 (by omega)
    have q1 : Int.tdiv p (xs.length : Int) ≤ 1000000 := by rw [tdivp hp0]; exact Int.le_trans (Int.ediv_le_self _ hp0) hp1
    obtain ⟨v, hv, v0, v1⟩ := mix_rng (p := p) (q := Int.tdiv p (xs.length : Int)) r1.1 r1.2 r2.1 r2.2 hp0 (by omega) q0 (by omega)
    have d1 : wrap64 (Int.tdiv v 64) = v / 64 := by rw [tdivp v0, w64 (by omega) (by omega)]
    obtain ⟨x0, x1⟩ := xor_rng (x := v) (y := v / 64) v0 v1 (by omega) (by omega)
    obtain ⟨t0, t1⟩ := tmod_rng (x := bits .xor .i64 v (v / 64)) (m := m) x0 hm
    refine ⟨Int.tmod (bits .xor .i64 v (v / 64)) m, t0, t1, fun k hk => ?_⟩
    obtain ⟨k, rfl⟩ : ∃ q, k = q + 1 := ⟨k - 1, by omega⟩
    unfold spec_l1Rd_pick.f
    rw [if_neg n1, hb, e1]
    simp only [spec_l1Rd_pick.j0, Bool.false_eq_true, if_false, e2, e4]
    rw [if_neg hlt, if_neg (show ¬ (xs.length : Int) = 0 by omega), if_pos m1.1, if_pos m1.2, if_pos m2.1, if_pos m2.2, if_neg n2, hv, d1]
theorem text_l0 {xs : List Int} (h : Bytes xs) (d : Nat) : ∀ (acc : List Int) (p : Int), acc.length + d ≤ 1000 → 0 ≤ p → p + 3 * d ≤ 500000 →
    ∃ t q, t.size = acc.length + d ∧ p ≤ q ∧ q ≤ p + 3 * d ∧ ∀ k, d + 2 < k → spec_l15Text.l0 k acc (d : Int) xs p = some (t, q) := by
  induction d with
  | zero =>
    intro acc p ha hp0 hp1
    refine ⟨strOfNums acc, p, strOfNums_size acc, by omega, by omega, fun k hk => ?_⟩
    obtain ⟨k, rfl⟩ : ∃ m, k = m + 1 := ⟨k - 1, by omega⟩
    simp only [spec_l15Text.l0]
    rw [if_neg (by omega)]
  | succ d ih =>
    intro acc p ha hp0 hp1
    obtain ⟨r1, a1, b1, c1⟩ := pick_at h p 256 hp0 (by omega) (by omega)
    obtain ⟨r2, a2, b2, c2⟩ := pick_at h (p + 1) 4 (by omega) (by omega) (by omega)
    obtain ⟨r3, a3, b3, c3⟩ := pick_at h (p + 1 + 1) 5 (by omega) (by omega) (by omega)
    obtain ⟨t, q, ht, hq0, hq1, hk⟩ := ih (acc ++ [(rd [r1, r2, 85, 235, 144] r3) % 256]) (p + 1 + 1 + 1) (by rw [List.length_append, List.length_singleton]; omega) (by omega) (by omega)
    refine ⟨t, q, by rw [ht, List.length_append, List.length_singleton]; omega, by omega, by omega, fun k hkk => ?_⟩
    obtain ⟨k, rfl⟩ : ∃ m, k = m + 1 := ⟨k - 1, by omega⟩
    have e : wrap64 (((d + 1 : Nat) : Int) - 1) = (d : Int) := by rw [w64 (by omega) (by omega)]; omega
    simp only [spec_l15Text.l0]
    rw [if_pos (by omega), c1 k (by omega)]
    simp only [Option.bind_some]
    rw [c2 k (by omega)]
    simp only [Option.bind_some]
    rw [c3 k (by omega)]
    simp only [Option.bind_some]
    rw [if_pos a3, if_pos (by show r3 < 5; omega), if_pos (by omega), e]
    exact hk k (by omega)
/-- A text that is drawn: at most n bytes. -/
theorem text_at {xs : List Int} (h : Bytes xs) (p : Int) (n : Nat) (hp0 : 0 ≤ p) (hp1 : p ≤ 100000) (hn : n ≤ 900) :
    ∃ t q, t.size ≤ n ∧ p ≤ q ∧ q ≤ p + 1 + 3 * n ∧ ∀ k, n + 10 < k → spec_l15Text.f k xs p (n : Int) = some (t, q) := by
  obtain ⟨r, a, b, c⟩ := pick_at h p ((n : Int) + 1) hp0 (by omega) (by omega)
  obtain ⟨d, rfl⟩ := Int.eq_ofNat_of_zero_le a
  obtain ⟨t, q, ht, hq0, hq1, hk⟩ := text_l0 h d [] (p + 1) (by rw [List.length_nil]; omega) (by omega) (by omega)
  refine ⟨t, q, by rw [ht, List.length_nil]; omega, by omega, by omega, fun k hkk => ?_⟩
  unfold spec_l15Text.f
  rw [w64 (x := (n : Int) + 1) (by omega) (by omega), c k (by omega)]
  simp only [Option.bind_some]
  exact hk k (by omega)
theorem full_any (k : Nat) (hk : 7 ≤ k) (s : Int) (h0 : 0 ≤ s) (h5 : s ≤ 5) : spec_l1Full.f k s = some (256 ^ s.toNat) := by
  obtain ⟨k, rfl⟩ : ∃ m, k = m + 7 := ⟨k - 7, by omega⟩
  have h : s = 0 ∨ s = 1 ∨ s = 2 ∨ s = 3 ∨ s = 4 ∨ s = 5 := by omega
  rcases h with rfl | rfl | rfl | rfl | rfl | rfl <;> simp [spec_l1Full.f, spec_l1Full.l0, wrap64]
theorem full_rng {s : Int} (h0 : 0 ≤ s) (h5 : s ≤ 5) : (1 : Int) ≤ 256 ^ s.toNat ∧ (256 : Int) ^ s.toNat ≤ 1099511627776 := by
  have h : s = 0 ∨ s = 1 ∨ s = 2 ∨ s = 3 ∨ s = 4 ∨ s = 5 := by omega
  rcases h with rfl | rfl | rfl | rfl | rfl | rfl <;> decide
theorem rd6 (a b c d e f i : Int) (h0 : 0 ≤ i) (h1 : i < 6) : rd [a, b, c, d, e, f] i = a ∨ rd [a, b, c, d, e, f] i = b ∨ rd [a, b, c, d, e, f] i = c ∨ rd [a, b, c, d, e, f] i = d ∨ rd [a, b, c, d, e, f] i = e ∨ rd [a, b, c, d, e, f] i = f := by
  have h : i = 0 ∨ i = 1 ∨ i = 2 ∨ i = 3 ∨ i = 4 ∨ i = 5 := by omega
  rcases h with rfl | rfl | rfl | rfl | rfl | rfl
  · exact Or.inl rfl
  · exact Or.inr (Or.inl rfl)
  · exact Or.inr (Or.inr (Or.inl rfl))
  · exact Or.inr (Or.inr (Or.inr (Or.inl rfl)))
  · exact Or.inr (Or.inr (Or.inr (Or.inr (Or.inl rfl))))
  · exact Or.inr (Or.inr (Or.inr (Or.inr (Or.inr rfl))))
/-- What DrawNumPut draws. -/
theorem drawPut (l : List Int) (hl : l.length ≤ 140737488351232) (hw : ∀ x ∈ l, (Lit.int .u8 x).wf = true) : ∃ n size, n ≤ 1099511627776 ∧ 0 ≤ size ∧ size ≤ 5 ∧ ∀ k, 20 ≤ k → spec_DrawNumPut.f k l = some (n, size) := by
  obtain ⟨ho, hB⟩ := open_at l hl hw
  obtain ⟨r0, a0, b0, c0⟩ := pick_at hB 0 6 (by decide) (by decide) (by decide)
  obtain ⟨r1, a1, b1, c1⟩ := pick_at hB 1 256 (by decide) (by decide) (by decide)
  obtain ⟨r2, a2, b2, c2⟩ := pick_at hB 2 256 (by decide) (by decide) (by decide)
  obtain ⟨r3, a3, b3, c3⟩ := pick_at hB 3 256 (by decide) (by decide) (by decide)
  obtain ⟨r4, a4, b4, c4⟩ := pick_at hB 4 12 (by decide) (by decide) (by decide)
  have e1 : (0 : Int) + 1 = 1 := rfl
  have e2 : (1 : Int) + 1 = 2 := rfl
  have e3 : (2 : Int) + 1 = 3 := rfl
  have e4 : (3 : Int) + 1 = 4 := rfl
  rw [e1] at c0
  rw [e2] at c1
  rw [e3] at c2
  rw [e4] at c3
  have hf := full_rng a0 (by omega)
  have w1 : wrap64 (wrap64 (r2 * 256) + r3) = r2 * 256 + r3 := by rw [w64 (x := r2 * 256) (by omega) (by omega), w64 (by omega) (by omega)]
  have w2 : wrap64 ((256 : Int) ^ r0.toNat - 1) = 256 ^ r0.toNat - 1 := w64 (by omega) (by omega)
  have w3 : wrap64 (Int.tdiv (wrap64 (r4 * 6)) 12) = r4 * 6 / 12 := by rw [w64 (x := r4 * 6) (by omega) (by omega), tdivp (by omega), w64 (by omega) (by omega)]
  have h6 := rd6 r1 (r2 * 256 + r3) (256 ^ r0.toNat - 1) (256 ^ r0.toNat) (-1) 0 (r4 * 6 / 12) (by omega) (by omega)
  refine ⟨rd [r1, r2 * 256 + r3, 256 ^ r0.toNat - 1, 256 ^ r0.toNat, -1, 0] (r4 * 6 / 12), r0, ?_, a0, by omega, fun k hk => ?_⟩
  · rcases h6 with h | h | h | h | h | h <;> rw [h] <;> omega
  · unfold spec_DrawNumPut.f
    have z0 : 0 ≤ r4 * 6 / 12 := by omega
    have z1 : r4 * 6 / 12 < 6 := by omega
    simp only [ho, c0 k (by omega), c1 k (by omega), c2 k (by omega), c3 k (by omega), c4 k (by omega), full_any k (by omega) r0 a0 (by omega), Option.bind_some, w1, w2, w3]
    rw [if_pos z0, if_pos (by simpa using z1)]
/-- What DrawNumGet draws. -/
theorem drawGet (l : List Int) (hl : l.length ≤ 140737488351232) (hw : ∀ x ∈ l, (Lit.int .u8 x).wf = true) : ∃ t p size, t.size ≤ 9 ∧ -1 ≤ p ∧ p ≤ 20 ∧ 0 ≤ size ∧ size ≤ 5 ∧ ∀ k, 30 ≤ k → spec_DrawNumGet.f k l = some (t, p, size) := by
  obtain ⟨ho, hB⟩ := open_at l hl hw
  obtain ⟨t, q, ht, q0, q1, ck⟩ := text_at hB 0 9 (by decide) (by decide) (by decide)
  have w1 : wrap64 ((t.size : Int) + 2) = (t.size : Int) + 2 := w64 (by omega) (by omega)
  obtain ⟨r0, a0, b0, c0⟩ := pick_at hB q ((t.size : Int) + 2) (by omega) (by omega) (by omega)
  obtain ⟨r1, a1, b1, c1⟩ := pick_at hB (q + 1) 6 (by omega) (by omega) (by decide)
  have w2 : wrap64 (r0 - 1) = r0 - 1 := w64 (by omega) (by omega)
  refine ⟨t, r0 - 1, r1, ht, by omega, by omega, a1, by omega, fun k hk => ?_⟩
  have h9 : spec_l15Text.f k (l.take 2000) 0 9 = some (t, q) := ck k (by omega)
  have h0 := c0 k (by omega)
  have h1 := c1 k (by omega)
  clear ck c0 c1
  unfold spec_DrawNumGet.f
  exact Option.bind_eq_some_iff.2 ⟨_, ho, Option.bind_eq_some_iff.2 ⟨_, h9, Option.bind_eq_some_iff.2 ⟨_, (by rw [w1]; exact h0), Option.bind_eq_some_iff.2 ⟨_, h1, by rw [w2]⟩⟩⟩⟩
theorem tail_at (l : List Int) (hl : l.length ≤ 140737488351232) (hw : ∀ x ∈ l, (Lit.int .u8 x).wf = true) (k : Nat) (hk : 40 ≤ k) : laws_FnNum.j1 k l false = some true := by
  obtain ⟨k, rfl⟩ : ∃ m, k = m + 1 := ⟨k - 1, by omega⟩
  obtain ⟨t, p, size, ht, p0, p1, s0, s1, hd⟩ := drawGet l hl hw
  simp only [laws_FnNum.j1, Bool.false_eq_true, if_false, hd k (by omega), Option.bind_some, implGet_at k (by omega) t p size (by omega) (by omega) (by omega), specGet_at k (by omega) t p size (by omega) (by omega) (by omega), beq_self_eq_true, if_true]
  by_cases h : 1 ≤ size ∧ size ≤ 4 ∧ 0 ≤ p ∧ p ≤ (t.size : Int) - size
  · have e : numGet t p size = (gets t size.toNat p 0, true) := if_pos h
    obtain ⟨a, b, c, d⟩ := h
    obtain ⟨q, rfl⟩ := Int.eq_ofNat_of_zero_le c
    obtain ⟨z, rfl⟩ := Int.eq_ofNat_of_zero_le s0
    rw [Int.toNat_natCast] at e
    have hr := gets_rng t z q
    have hp : (256 : Int) ^ z ≤ 4294967296 := (pow_size (s := (z : Int)) a b).2
    have w1 : wrap64 ((q : Int) + (z : Int)) = ((q + z : Nat) : Int) := by rw [w64 (by omega) (by omega)]; omega
    rw [e]
    simp only [if_true, w1]
    rw [implPut_at k (by omega) _ _ (by omega), put_gets t z q (by omega) (by omega) (by omega)]
    simp only [Option.bind_some, Int.toNat_natCast]
    rw [if_pos c, if_pos (by omega), if_pos (by omega), beq_self_eq_true]
  · have e : numGet t p size = (0, false) := if_neg h
    rw [e]
    simp
theorem empty_list : (⟨#[]⟩ : ByteArray).toList = [] := by
  unfold ByteArray.toList
  unfold ByteArray.toList.loop
  rfl
end FnNumL
open FnNumL

theorem FnNum : laws_FnNum.Pure := by
  intro l0 l1 hl0 hm0 hw0 hl1 hm1 hw1
  refine ⟨100, ?_⟩
  unfold laws_FnNum.f
  have j0t : ∀ b, laws_FnNum.j0 100 l0 l1 b = some true := by
    intro b
    show laws_FnNum.j0 (99 + 1) l0 l1 b = some true
    obtain ⟨n, size, hn, s0, s1, hd⟩ := drawPut l0 (by omega) hw0
    have ht := tail_at l1 (by omega) hw1 99 (by decide)
    cases b with
    | true => simp only [laws_FnNum.j0, if_true]
    | false =>
      simp only [laws_FnNum.j0, Bool.false_eq_true, if_false, hd 99 (by decide), Option.bind_some, implPut_at 99 (by decide) n size (by omega), specPut_at 99 (by decide) n size (by omega), if_true]
      have hz2 : (⟨#[97, 98]⟩ : ByteArray).size = 2 := rfl
      by_cases h : 1 ≤ size ∧ size ≤ 4 ∧ 0 ≤ n ∧ n < 256 ^ size.toNat
      · have e : numPut n size = strOfNums (be size.toNat n) := if_pos h
        obtain ⟨a, b, c, d⟩ := h
        obtain ⟨z, rfl⟩ := Int.eq_ofNat_of_zero_le s0
        rw [Int.toNat_natCast] at e d
        have hz : (strOfNums (be z n)).size = z := by rw [strOfNums_size, be_length]
        have hb := gets_put (⟨#[97, 98]⟩ : ByteArray) z n c d
        rw [hz2] at hb
        have hz3 : ((⟨#[97, 98]⟩ : ByteArray) ++ strOfNums (be z n)).size = 2 + z := by rw [ByteArray.size_append, hz2, hz]
        have hg : numGet ((⟨#[97, 98]⟩ : ByteArray) ++ strOfNums (be z n)) 2 (z : Int) = (n, true) := by
          unfold numGet
          rw [if_pos ⟨a, b, by decide, by rw [hz3]; omega⟩, Int.toNat_natCast]
          exact congrArg (·, true) hb
        rw [e, if_pos (by omega), implGet_at 99 (by decide) _ _ _ (by omega) (by omega) (by omega), hg]
        simp only [Option.bind_some, if_true]
        rw [hz, bne_self_eq_false, ht]
        split <;> rfl
      · have e : numPut n size = ⟨#[]⟩ := if_neg h
        have hz : (⟨#[]⟩ : ByteArray).size = 0 := rfl
        rw [e, hz, if_pos (by decide), implGet_at 99 (by decide) _ _ _ (by rw [ByteArray.size_append, hz2, hz]; decide) (by omega) (by omega)]
        simp only [Option.bind_some]
        rw [if_pos empty_list, ht]
  by_cases h1 : (l0.length : Int) > 1048576
  · rw [if_pos h1, j0t]
  · rw [if_neg h1, j0t]

end Go.Proofs.Ytclhopldchndiaa.Pure
