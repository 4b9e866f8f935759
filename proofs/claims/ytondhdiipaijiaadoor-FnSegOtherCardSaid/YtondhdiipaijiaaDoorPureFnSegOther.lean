/- FnSegOther: a part that goes another way changes nothing, and what came stays ok. For all bytes from which what came, a part and a way are drawn; no condition. -/
import Derived.Test.YtondhdiipaijiaaDoorPFnSegOtherx4
import Derived.Test.YtondhdiipaijiaaDoorAux
namespace Go.Proofs.YtondhdiipaijiaaDoor.Pure
open Go Go.RowKit Go.Proofs.YtondhdiipaijiaaDoor.PFnSegOther Go.Proofs.YtondhdiipaijiaaDoorW.PrintWords Go.Proofs.YtondhdiipaijiaaDoorW.PrintLast Go.Proofs.YtondhdiipaijiaaDoorW.PrintMore Go.Proofs.YtondhdiipaijiaaDoor.Aux

namespace FnSegOtherL
theorem l1In_at (a b c : Int) : spec_l1In.f a b c = some (decide (b ≤ a ∧ a ≤ c)) := by
  unfold spec_l1In.f
  by_cases h : b ≤ a
  · rw [if_pos h]
    simp [h]
  · rw [if_neg h]
    simp [h]
theorem l1Put_l0 (d : Nat) : ∀ (k : Nat) (n size i : Int) (out : ByteArray), d < k → 0 ≤ n → n ≤ 9223372036854775807 → 0 ≤ i → size ≤ 4 → size - i = d → out.size ≤ 4 - d →
    spec_l1Put.l0 k n size out i = some (strOfNums (be d n) ++ out) := by
  induction d with
  | zero =>
    intro k n size i out hk h0 h1 hi hs hd ho
    obtain ⟨k, rfl⟩ : ∃ m, k = m + 1 := ⟨k - 1, by omega⟩
    simp only [spec_l1Put.l0]
    rw [if_neg (by omega)]
    show some out = some ((⟨#[]⟩ : ByteArray) ++ out)
    rw [str_nil_append]
  | succ d ih =>
    intro k n size i out hk h0 h1 hi hs hd ho
    obtain ⟨k, rfl⟩ : ∃ m, k = m + 1 := ⟨k - 1, by omega⟩
    have hsz : (strOfNums [(Int.tmod n 256) % 256]).size = 1 := by rw [strOfNums_size]; rfl
    simp only [spec_l1Put.l0]
    rw [if_pos (by omega)]
    simp only [Option.bind_some]
    rw [if_pos (by omega), w64 (x := i + 1) (by omega) (by omega), tdivp h0, w64 (x := n / 256) (by omega) (by omega)]
    rw [ih _ _ _ _ _ (by omega) (by omega) (by omega) (by omega) hs (by omega) (by rw [ByteArray.size_append]; omega)]
    have e : (Int.tmod n 256) % 256 = n % 256 := by rw [tmodp h0]; omega
    rw [e, be, strOfNums_append, ByteArray.append_assoc]
theorem l1Put_at (k : Nat) (hk : 5 ≤ k) (n size : Int) (h0 : 0 ≤ n) (h1 : n ≤ 9223372036854775807) (hs0 : 0 ≤ size) (hs : size ≤ 4) :
    spec_l1Put.f k n size = some (strOfNums (be size.toNat n)) := by
  unfold spec_l1Put.f
  rw [l1Put_l0 size.toNat k n size 0 _ (by omega) h0 h1 (by omega) hs (by omega) (by show 0 ≤ _; omega), str_append_nil]
/-- JoinOk's answer. -/
def joinOk (o : Bool) (t : ByteArray) : Bool := decide ((t.size : Int) ≤ 106) && (o || t.toList == ([] : List UInt8))
theorem implJoinOk_at (o : Bool) (t : ByteArray) : impl_JoinOk.f o t = some (joinOk o t) := by
  unfold impl_JoinOk.f joinOk
  by_cases h : (t.size : Int) ≤ 106
  · rw [if_pos h, decide_eq_true h]
    cases o <;> rfl
  · rw [if_neg h, decide_eq_false h]
    rfl
theorem specJoinOk_at (o : Bool) (t : ByteArray) : spec_JoinOk.f o t = some (joinOk o t) := by
  unfold spec_JoinOk.f spec_l7Most.f joinOk
  simp only [Option.bind_some]
  by_cases h : (t.size : Int) ≤ 106
  · rw [if_pos h, decide_eq_true h]
    cases o <;> rfl
  · rw [if_neg h, decide_eq_false h]
    rfl
theorem byte_fin : ∀ b : Fin 256, wrap64 (b.1 : Int) = b.1 ∧ (b.1 : Int).tmod 64 = (b.1 : Int) % 64 ∧ wrap64 (Int.tdiv (b.1 : Int) 64) = (b.1 : Int) / 64 ∧ (bits .and .i64 (b.1 : Int) 64 != 0) = decide (((b.1 : Int) / 64).tmod 2 = 1) ∧ (bits .and .i64 (b.1 : Int) 128 != 0) = decide ((b.1 : Int) / 64 ≥ 2) := by decide +kernel
theorem bt_byte (s : ByteArray) (i : Int) : 0 ≤ bt s i ∧ bt s i < 256 := by
  have := bt_range s i
  omega
theorem byte_at (s : ByteArray) : wrap64 (bt s 0) = bt s 0 ∧ (bt s 0).tmod 64 = bt s 0 % 64 ∧ wrap64 (Int.tdiv (bt s 0) 64) = bt s 0 / 64 ∧ (bits .and .i64 (bt s 0) 64 != 0) = decide ((bt s 0 / 64).tmod 2 = 1) ∧ (bits .and .i64 (bt s 0) 128 != 0) = decide (bt s 0 / 64 ≥ 2) := by
  have hb := bt_byte s 0
  have h := byte_fin ⟨(bt s 0).toNat, by omega⟩
  have e : (((bt s 0).toNat : Nat) : Int) = bt s 0 := by omega
  simp only [e] at h
  exact h
/-- SegHear's answer. -/
def segHear (o : Bool) (t p : ByteArray) (v : Int) : Bool × ByteArray × ByteArray :=
  if joinOk o t = true then (if p.size < 2 ∨ 21 < p.size then (o, t, (⟨#[]⟩ : ByteArray)) else (if bt p 0 % 64 = v then HSeg.hearV o (decide ((bt p 0 / 64).tmod 2 = 1)) (decide (bt p 0 / 64 ≥ 2)) t p else (o, t, (⟨#[]⟩ : ByteArray)))) else (false, (⟨#[]⟩ : ByteArray), (⟨#[]⟩ : ByteArray))
theorem joinOk_size {o : Bool} {t : ByteArray} (h : joinOk o t = true) : t.size ≤ 106 := by
  simp only [joinOk, Bool.and_eq_true, decide_eq_true_eq] at h
  omega
theorem implSeg_at (o : Bool) (t p : ByteArray) (v : Int) : impl_SegHear.f o t p v = some (segHear o t p v) := by
  obtain ⟨e1, e2, e3, e4, e5⟩ := byte_at p
  unfold impl_SegHear.f segHear
  rw [implJoinOk_at, e1, e2, e4, e5]
  simp only [Option.bind_some]
  cases hj : joinOk o t with
  | false => rfl
  | true =>
    simp only [if_true]
    by_cases h2 : p.size < 2 ∨ 21 < p.size
    · rw [if_pos h2, if_pos h2]
    · rw [if_neg h2, if_neg h2]
      by_cases hv : bt p 0 % 64 = v
      · rw [if_pos hv, hv, bne_self_eq_false, if_neg (by decide), if_pos (joinOk_size hj)]
      · rw [if_neg hv, bne_iff_ne.mpr hv, if_pos rfl]
theorem tail_size (p : ByteArray) : (p.extract 1 p.size).size = p.size - 1 := by rw [ByteArray.size_extract]; omega
theorem sum64 {a b : Nat} (ha : a ≤ 106) (hb : b ≤ 20) : wrap64 ((a : Int) + (b : Int)) = ((a + b : Nat) : Int) := by rw [w64 (by omega) (by omega)]; omega
theorem hear_j1 (k : Nat) (x : Int) (t s : ByteArray) (h9 : t.size + s.size ≤ 9223372036854775807) : spec_l7Hear.j1 (k + 1) x s false true t = some (if decide (x ≥ 2) = true then (false, (⟨#[]⟩ : ByteArray), t ++ s) else (true, t ++ s, (⟨#[]⟩ : ByteArray))) := by
  unfold spec_l7Hear.j1
  refine (if_neg (by decide)).trans ((if_pos h9).trans ?_)
  by_cases hx : x ≥ 2
  · exact (if_pos hx).trans (congrArg some (if_pos (decide_eq_true hx)).symm)
  · exact (if_neg hx).trans (congrArg some (if_neg (by simpa using hx)).symm)
theorem hear_j1t (k : Nat) (x : Int) (o : Bool) (t s : ByteArray) : spec_l7Hear.j1 (k + 1) x s true o t = some (false, (⟨#[]⟩ : ByteArray), (⟨#[]⟩ : ByteArray)) := by
  unfold spec_l7Hear.j1
  exact if_pos rfl
theorem hear_j0a (k : Nat) (x : Int) (t s : ByteArray) : spec_l7Hear.j0 (k + 1) x s true t = (if true = true then ((spec_l7Most.f).bind fun t106 => (spec_l7Hear.j1 k x s (decide ((wrap64 ((t.size : Int) + (s.size : Int))) > t106)) true t)) else (spec_l7Hear.j1 k x s true true t)) := by
  rw [spec_l7Hear.j0]
theorem hear_j0t (k : Nat) (x : Int) (t s : ByteArray) (z : Int) (hz : wrap64 ((t.size : Int) + (s.size : Int)) = z) : spec_l7Hear.j0 (k + 1) x s true t = spec_l7Hear.j1 k x s (decide (z > 106)) true t := by
  rw [hear_j0a, if_pos rfl, spec_l7Most.f, Option.bind_some, hz]
theorem hear_j0f (k : Nat) (x : Int) (t s : ByteArray) : spec_l7Hear.j0 (k + 1) x s false t = spec_l7Hear.j1 k x s true false t := by
  rw [spec_l7Hear.j0]
  exact if_neg (by decide)
theorem hear_j0 (k : Nat) (x : Int) (o : Bool) (t s : ByteArray) (ht : t.size ≤ 106) (hs : s.size ≤ 20) : spec_l7Hear.j0 (k + 1 + 1) x s o t =
    some (if o = true then (if (t ++ s).size ≤ 106 then (if decide (x ≥ 2) = true then (false, (⟨#[]⟩ : ByteArray), t ++ s) else (true, t ++ s, (⟨#[]⟩ : ByteArray))) else (false, (⟨#[]⟩ : ByteArray), (⟨#[]⟩ : ByteArray))) else (false, (⟨#[]⟩ : ByteArray), (⟨#[]⟩ : ByteArray))) := by
  have hz : (t ++ s).size = t.size + s.size := ByteArray.size_append
  cases o with
  | false =>
    rw [hear_j0f, hear_j1t]
    rfl
  | true =>
    rw [hear_j0t (k + 1) x t s _ (sum64 ht hs), if_pos rfl, hz]
    by_cases hm : t.size + s.size ≤ 106
    · rw [decide_eq_false (show ¬ ((t.size + s.size : Nat) : Int) > 106 by omega), if_pos hm, hear_j1 k x t s (by omega)]
    · rw [decide_eq_true (show ((t.size + s.size : Nat) : Int) > 106 by omega), if_neg hm, hear_j1t]
theorem specSeg_at (k : Nat) (o : Bool) (t p : ByteArray) (v : Int) (hk : 2 ≤ k) : spec_SegHear.f k o t p v = some (segHear o t p v) := by
  obtain ⟨k, rfl⟩ : ∃ m, k = m + 1 + 1 := ⟨k - 2, by omega⟩
  obtain ⟨e1, e2, e3, e4, e5⟩ := byte_at p
  unfold spec_SegHear.f segHear
  rw [specJoinOk_at, e1, e2, e3, l1In_at]
  simp only [Option.bind_some]
  cases hj : joinOk o t with
  | false => rfl
  | true =>
    have h106 := joinOk_size hj
    simp only [if_true]
    by_cases h2 : p.size < 2 ∨ 21 < p.size
    · rw [if_pos h2, decide_eq_false (by omega), if_neg (by decide)]
    · have hs := tail_size p
      rw [if_neg h2, decide_eq_true (by omega), if_pos rfl, if_pos (by omega)]
      by_cases hv : bt p 0 % 64 = v
      · rw [if_pos hv, if_pos hv, if_pos (by omega)]
        have key : spec_l7Hear.f (k + 1 + 1) o t (bt p 0 / 64) (p.extract 1 p.size) = some (HSeg.hearV o (decide ((bt p 0 / 64).tmod 2 = 1)) (decide (bt p 0 / 64 ≥ 2)) t p) := by
          unfold spec_l7Hear.f HSeg.hearV
          by_cases hf : (bt p 0 / 64).tmod 2 = 1
          · rw [if_pos hf, hear_j0 k _ true (⟨#[]⟩ : ByteArray) _ (by show 0 ≤ 106; omega) (by omega), decide_eq_true hf]
            simp only [Bool.or_true, HSeg.came, if_true]
          · rw [if_neg hf, hear_j0 k _ o t _ h106 (by omega), decide_eq_false hf]
            simp only [Bool.or_false, HSeg.came, Bool.false_eq_true, if_false]
        rw [key]
        rfl
      · rw [if_neg hv, if_neg hv]
/-- What is read from: at most 2000 bytes. -/
def Bytes (xs : List Int) : Prop := xs.length ≤ 2000 ∧ ∀ x ∈ xs, 0 ≤ x ∧ x ≤ 255
theorem rd_rng {xs : List Int} (h : Bytes xs) (i : Int) : 0 ≤ rd xs i ∧ rd xs i ≤ 255 := by
  unfold rd
  rw [List.getD_eq_getElem?_getD]
  cases hx : xs[i.toNat]? with
  | none => simp
  | some x => exact h.2 x (List.mem_of_getElem? hx)
theorem u8_rng {x : Int} (h : (Lit.int .u8 x).wf = true) : 0 ≤ x ∧ x ≤ 255 := by
  simpa [Lit.wf, IntKind.min, IntKind.max, IntKind.bits, IntKind.signed] using h
/-- Opening what came: its first 2000 bytes. -/
theorem open_at (l : List Int) (hl : l.length ≤ 140737488351232) (h : ∀ x ∈ l, (Lit.int .u8 x).wf = true) : spec_l1Open.f l = some (l.take 2000, 0) ∧ Bytes (l.take 2000) := by
  refine ⟨?_, by rw [List.length_take]; omega, fun x hx => u8_rng (h x (List.mem_of_mem_take hx))⟩
  unfold spec_l1Open.f
  by_cases h2 : (l.length : Int) > 2000
  · rw [if_pos h2, if_pos (by omega)]
  · rw [if_neg h2, List.take_of_length_le (by omega)]
theorem xor_rng {x y : Int} (hx0 : 0 ≤ x) (hx1 : x < 4611686018427387904) (hy0 : 0 ≤ y) (hy1 : y < 4611686018427387904) : 0 ≤ bits .xor .i64 x y ∧ bits .xor .i64 x y < 4611686018427387904 := by
  obtain ⟨a, rfl⟩ := Int.eq_ofNat_of_zero_le hx0
  obtain ⟨b, rfl⟩ := Int.eq_ofNat_of_zero_le hy0
  have h : a ^^^ b < 2 ^ 62 := Nat.xor_lt_two_pow (by omega) (by omega)
  have e : bits .xor .i64 (a : Int) (b : Int) = ((a ^^^ b : Nat) : Int) := by
    show IntKind.i64.wrap ((BitVec.ofInt 64 (a : Int) ^^^ BitVec.ofInt 64 (b : Int)).toNat : Int) = _
    rw [BitVec.toNat_xor, BitVec.ofInt_natCast, BitVec.ofInt_natCast, BitVec.toNat_ofNat, BitVec.toNat_ofNat, Nat.mod_eq_of_lt (by omega), Nat.mod_eq_of_lt (by omega)]
    exact wraps_i64 _ (by omega) (by omega)
  rw [e]
  omega
/-- The number that is reckoned where what came is at its end. -/
theorem mix_rng {a b p q : Int} (ha0 : 0 ≤ a) (ha1 : a ≤ 255) (hb0 : 0 ≤ b) (hb1 : b ≤ 255) (hp0 : 0 ≤ p) (hp1 : p ≤ 1099511627776) (hq0 : 0 ≤ q) (hq1 : q ≤ 1099511627776) :
    ∃ v, wrap64 (wrap64 (wrap64 (wrap64 (wrap64 a * 131) + wrap64 (wrap64 b * 1117)) + wrap64 (p * 29)) + wrap64 (wrap64 q * 53)) = v ∧ 0 ≤ v ∧ v < 4611686018427387904 := by
  refine ⟨a * 131 + b * 1117 + p * 29 + q * 53, ?_, by omega, by omega⟩
  rw [w64 (x := a) (by omega) (by omega), w64 (x := b) (by omega) (by omega), w64 (x := q) (by omega) (by omega), w64 (x := a * 131) (by omega) (by omega), w64 (x := b * 1117) (by omega) (by omega), w64 (x := p * 29) (by omega) (by omega), w64 (x := q * 53) (by omega) (by omega),
    w64 (x := a * 131 + b * 1117) (by omega) (by omega), w64 (x := a * 131 + b * 1117 + p * 29) (by omega) (by omega), w64 (by omega) (by omega)]
theorem tmod_rng {x m : Int} (h0 : 0 ≤ x) (hm : 1 ≤ m) : 0 ≤ Int.tmod x m ∧ Int.tmod x m < m := by
  rw [tmodp h0]
  exact ⟨Int.emod_nonneg _ (by omega), Int.emod_lt_of_pos _ (by omega)⟩
/-- One pick: a number below m. -/
theorem pick_at {xs : List Int} (h : Bytes xs) (p m : Int) (hp0 : 0 ≤ p) (hp1 : p ≤ 1000000) (hm : 1 ≤ m) :
    ∃ r, 0 ≤ r ∧ r < m ∧ ∀ k, 2 ≤ k → spec_l1Rd_pick.f k xs p m = some (r, p + 1) := by
  have hlen := h.1
  have e1 : wrap64 (p + 1) = p + 1 := w64 (by omega) (by omega)
  have e2 : wrap64 (p + 1 - 1) = p := by rw [w64 (by omega) (by omega)]; omega
  have n1 : ¬ m < 1 := by omega
  have n2 : ¬ m = 0 := by omega
  by_cases hz : xs.length = 0
  · refine ⟨0, by omega, by omega, fun k hk => ?_⟩
    obtain ⟨k, rfl⟩ : ∃ q, k = q + 1 := ⟨k - 1, by omega⟩
    have hb : ((xs.length : Int) == 0) = true := by rw [hz]; rfl
    unfold spec_l1Rd_pick.f
    rw [if_neg n1, hb, e1]
    simp only [spec_l1Rd_pick.j0, if_true]
  have hb : ((xs.length : Int) == 0) = false := beq_eq_false_iff_ne.mpr (by omega)
  by_cases hlt : p < (xs.length : Int)
  · have hr := rd_rng h p
    have e3 : wrap64 (rd xs p) = rd xs p := w64 (by omega) (by omega)
    obtain ⟨t0, t1⟩ := tmod_rng (x := rd xs p) (m := m) hr.1 hm
    refine ⟨Int.tmod (rd xs p) m, t0, t1, fun k hk => ?_⟩
    obtain ⟨k, rfl⟩ : ∃ q, k = q + 1 := ⟨k - 1, by omega⟩
    unfold spec_l1Rd_pick.f
    rw [if_neg n1, hb, e1]
    simp only [spec_l1Rd_pick.j0, Bool.false_eq_true, if_false, e2]
    rw [if_pos hlt, if_pos hp0, if_neg n2, e3]
  · have hl1 : 1 ≤ (xs.length : Int) := by omega
    have m1 := tmod_rng (x := p) (m := (xs.length : Int)) hp0 hl1
    have e4 : wrap64 (wrap64 (p * 7) + 3) = p * 7 + 3 := by rw [w64 (x := p * 7) (by omega) (by omega), w64 (by omega) (by omega)]
    have m2 := tmod_rng (x := p * 7 + 3) (m := (xs.length : Int)) (by omega) hl1
    have r1 := rd_rng h (Int.tmod p (xs.length : Int))
    have r2 := rd_rng h (Int.tmod (p * 7 + 3) (xs.length : Int))
    have q0 : 0 ≤ Int.tdiv p (xs.length : Int) := by rw [tdivp hp0]; exact Int.ediv_nonneg hp0 (by omega)
    have q1 : Int.tdiv p (xs.length : Int) ≤ 1000000 := by rw [tdivp hp0]; exact Int.le_trans (Int.ediv_le_self _ hp0) hp1
    obtain ⟨v, hv, v0, v1⟩ := mix_rng (p := p) (q := Int.tdiv p (xs.length : Int)) r1.1 r1.2 r2.1 r2.2 hp0 (by omega) q0 (by omega)
    have d1 : wrap64 (Int.tdiv v 64) = v / 64 := by rw [tdivp v0, w64 (by omega) (by omega)]
    obtain ⟨x0, x1⟩ := xor_rng (x := v) (y := v / 64) v0 v1 (by omega) (by omega)
    obtain ⟨t0, t1⟩ := tmod_rng (x := bits .xor .i64 v (v / 64)) (m := m) x0 hm
    refine ⟨Int.tmod (bits .xor .i64 v (v / 64)) m, t0, t1, fun k hk => ?_⟩
    obtain ⟨k, rfl⟩ : ∃ q, k = q + 1 := ⟨k - 1, by omega⟩
    unfold spec_l1Rd_pick.f
    rw [if_neg n1, hb, e1]
    simp only [spec_l1Rd_pick.j0, Bool.false_eq_true, if_false, e2, e4]
    rw [if_neg hlt, if_neg (show ¬ (xs.length : Int) = 0 by omega), if_pos m1.1, if_pos m1.2, if_pos m2.1, if_pos m2.2, if_neg n2, hv, d1]
theorem text_l0 {xs : List Int} (h : Bytes xs) (d : Nat) : ∀ (acc : List Int) (p : Int), acc.length + d ≤ 1000 → 0 ≤ p → p + 3 * d ≤ 500000 →
    ∃ t q, t.size = acc.length + d ∧ p ≤ q ∧ q ≤ p + 3 * d ∧ ∀ k, d + 2 < k → spec_l15Text.l0 k acc (d : Int) xs p = some (t, q) := by
  induction d with
  | zero =>
    intro acc p ha hp0 hp1
    refine ⟨strOfNums acc, p, strOfNums_size acc, by omega, by omega, fun k hk => ?_⟩
    obtain ⟨k, rfl⟩ : ∃ m, k = m + 1 := ⟨k - 1, by omega⟩
    simp only [spec_l15Text.l0]
    rw [if_neg (by omega)]
  | succ d ih =>
    intro acc p ha hp0 hp1
    obtain ⟨r1, a1, b1, c1⟩ := pick_at h p 256 hp0 (by omega) (by omega)
    obtain ⟨r2, a2, b2, c2⟩ := pick_at h (p + 1) 4 (by omega) (by omega) (by omega)
    obtain ⟨r3, a3, b3, c3⟩ := pick_at h (p + 1 + 1) 5 (by omega) (by omega) (by omega)
    obtain ⟨t, q, ht, hq0, hq1, hk⟩ := ih (acc ++ [(rd [r1, r2, 85, 235, 144] r3) % 256]) (p + 1 + 1 + 1) (by rw [List.length_append, List.length_singleton]; omega) (by omega) (by omega)
    refine ⟨t, q, by rw [ht, List.length_append, List.length_singleton]; omega, by omega, by omega, fun k hkk => ?_⟩
    obtain ⟨k, rfl⟩ : ∃ m, k = m + 1 := ⟨k - 1, by omega⟩
    have e : wrap64 (((d + 1 : Nat) : Int) - 1) = (d : Int) := by rw [w64 (by omega) (by omega)]; omega
    simp only [spec_l15Text.l0]
    rw [if_pos (by omega), c1 k (by omega)]
    simp only [Option.bind_some]
    rw [c2 k (by omega)]
    simp only [Option.bind_some]
    rw [c3 k (by omega)]
    simp only [Option.bind_some]
    rw [if_pos a3, if_pos (by show r3 < 5; omega), if_pos (by omega), e]
    exact hk k (by omega)
/-- A text that is drawn: at most n bytes. -/
theorem text_at {xs : List Int} (h : Bytes xs) (p : Int) (n : Nat) (hp0 : 0 ≤ p) (hp1 : p ≤ 100000) (hn : n ≤ 900) :
    ∃ t q, t.size ≤ n ∧ p ≤ q ∧ q ≤ p + 1 + 3 * n ∧ ∀ k, n + 10 < k → spec_l15Text.f k xs p (n : Int) = some (t, q) := by
  obtain ⟨r, a, b, c⟩ := pick_at h p ((n : Int) + 1) hp0 (by omega) (by omega)
  obtain ⟨d, rfl⟩ := Int.eq_ofNat_of_zero_le a
  obtain ⟨t, q, ht, hq0, hq1, hk⟩ := text_l0 h d [] (p + 1) (by rw [List.length_nil]; omega) (by omega) (by omega)
  refine ⟨t, q, by rw [ht, List.length_nil]; omega, by omega, by omega, fun k hkk => ?_⟩
  unfold spec_l15Text.f
  rw [w64 (x := (n : Int) + 1) (by omega) (by omega), c k (by omega)]
  simp only [Option.bind_some]
  exact hk k (by omega)
theorem bnd {α β : Type} {o : Option α} {f : α → Option β} {b : β} (a : α) (h : o = some a) (h2 : f a = some b) : o.bind f = some b := Option.bind_eq_some_iff.2 ⟨a, h, h2⟩
theorem many_half {n : Int} (h0 : 0 ≤ n) (h1 : n ≤ 1000000) : wrap64 (Int.tdiv n 2) = n / 2 := by rw [tdivp h0, w64 (by omega) (by omega)]
theorem many_l0 (d : Nat) : ∀ (x acc : ByteArray) (n : Int), 0 ≤ n → n < 2 ^ d → n ≤ 1000000 → acc.size + x.size * 2 ^ (d + 1) ≤ 1000000000 + x.size → ∃ r, r.size = acc.size + n.toNat * x.size ∧ ∀ k, d < k → spec_l1Many.l0 k x n acc = some r := by
  induction d with
  | zero =>
    intro x acc n h0 h1 _ hB
    obtain rfl : n = 0 := by rw [Int.pow_zero] at h1; omega
    refine ⟨acc, by simp, fun k hk => ?_⟩
    obtain ⟨k, rfl⟩ : ∃ m, k = m + 1 := ⟨k - 1, by omega⟩
    simp only [spec_l1Many.l0]
    rw [if_neg (by decide)]
  | succ d ih =>
    intro x acc n h0 h1 hm hB
    have hp : (2 : Int) ^ (d + 1) = 2 ^ d * 2 := Int.pow_succ _ _
    have hx : x.size ≤ x.size * 2 ^ (d + 1) := Nat.le_mul_of_pos_right _ (Nat.pow_pos (by decide))
    have hq : x.size * 2 ^ (d + 1 + 1) = x.size * 2 ^ (d + 1) + x.size * 2 ^ (d + 1) := by rw [Nat.pow_succ 2 (d + 1), ← Nat.mul_assoc]; omega
    have hs2 : (x ++ x).size = x.size + x.size := ByteArray.size_append
    have hxx : (x ++ x).size * 2 ^ (d + 1) = x.size * 2 ^ (d + 1) + x.size * 2 ^ (d + 1) := by rw [hs2, Nat.add_mul]
    have hsa : (acc ++ x).size = acc.size + x.size := ByteArray.size_append
    have g1 : x.size + x.size ≤ 9223372036854775807 := by omega
    have g2 : acc.size + x.size ≤ 9223372036854775807 := by omega
    have m1 : 0 ≤ n / 2 := by omega
    have m2 : n / 2 < 2 ^ d := by omega
    have m3 : n / 2 ≤ 1000000 := by omega
    by_cases ho : n % 2 = 1
    · have hn : n > 0 := by omega
      obtain ⟨r, hr, hk2⟩ := ih (x ++ x) (acc ++ x) (n / 2) m1 m2 m3 (by rw [hxx, hsa]; omega)
      refine ⟨r, ?_, fun k hk => ?_⟩
      · have e : n.toNat = 2 * (n / 2).toNat + 1 := by omega
        have e2 : (2 * (n / 2).toNat + 1) * x.size = (n / 2).toNat * (x.size + x.size) + x.size := by rw [Nat.add_mul, Nat.mul_add, Nat.mul_assoc, Nat.one_mul, Nat.two_mul]
        rw [hr, hs2, hsa, e, e2]
        omega
      · obtain ⟨k, rfl⟩ : ∃ m, k = m + 1 := ⟨k - 1, by omega⟩
        have gk : d < k := by omega
        simp only [spec_l1Many.l0]
        rw [if_pos hn, tmodp h0, if_pos ho, if_pos g2, if_pos g1, many_half h0 hm]
        exact hk2 k gk
    · by_cases hn : n > 0
      · obtain ⟨r, hr, hk2⟩ := ih (x ++ x) acc (n / 2) m1 m2 m3 (by rw [hxx]; omega)
        refine ⟨r, ?_, fun k hk => ?_⟩
        · have e : n.toNat = 2 * (n / 2).toNat := by omega
          have e2 : (2 * (n / 2).toNat) * x.size = (n / 2).toNat * (x.size + x.size) := by rw [Nat.mul_add, Nat.mul_assoc, Nat.two_mul]
          rw [hr, hs2, e, e2]
        · obtain ⟨k, rfl⟩ : ∃ m, k = m + 1 := ⟨k - 1, by omega⟩
          have gk : d < k := by omega
          simp only [spec_l1Many.l0]
          rw [if_pos hn, tmodp h0, if_neg ho, if_pos g1, many_half h0 hm]
          exact hk2 k gk
      · obtain rfl : n = 0 := by omega
        refine ⟨acc, by simp, fun k hk => ?_⟩
        obtain ⟨k, rfl⟩ : ∃ m, k = m + 1 := ⟨k - 1, by omega⟩
        simp only [spec_l1Many.l0]
        rw [if_neg hn]
/-- One byte, so many times. -/
theorem many_at (x : ByteArray) (hx : x.size = 1) (n : Int) (h0 : 0 ≤ n) (h1 : n ≤ 1000) : ∃ r, r.size = n.toNat ∧ ∀ k, 10 < k → spec_l1Many.f k x n = some r := by
  have e : (2 : Int) ^ 10 = 1024 := by decide
  obtain ⟨r, hr, hk⟩ := many_l0 10 x (⟨#[]⟩ : ByteArray) n h0 (by omega) (by omega) (by rw [hx]; decide)
  refine ⟨r, ?_, fun k hkk => hk k hkk⟩
  rw [hr, hx, Nat.mul_one]
  show 0 + _ = _
  omega
theorem rdS_le {B : Nat} (l : List ByteArray) (h : ∀ a ∈ l, a.size ≤ B) (i : Int) : (rdOf ByteArray.empty l i).size ≤ B := by
  unfold rdOf
  rw [List.getD_eq_getElem?_getD]
  cases hx : l[i.toNat]? with
  | none => exact Nat.zero_le _
  | some x => exact h x (List.mem_of_getElem? hx)
theorem div5 {r : Int} (h0 : 0 ≤ r) (h1 : r < 6) : wrap64 (Int.tdiv r 5) = r / 5 ∧ 0 ≤ r / 5 ∧ r / 5 < 2 := by
  rw [tdivp h0, w64 (by omega) (by omega)]
  omega
theorem sub106 {r : Int} (h0 : 0 ≤ r) (h1 : r < 22) : wrap64 (106 - r) = 106 - r ∧ 0 ≤ 106 - r ∧ 106 - r ≤ 1000 := by
  rw [w64 (by omega) (by omega)]
  omega
theorem join_at {xs : List Int} (h : Bytes xs) (p : Int) (hp0 : 0 ≤ p) (hp1 : p ≤ 1000) : ∃ o t q, p ≤ q ∧ q ≤ p + 200 ∧ ∀ k, 60 ≤ k → spec_l15Join.f k xs p = some (o, t, q) := by
  obtain ⟨r0, a0, b0, c0⟩ := pick_at h p 3 hp0 (by omega) (by decide)
  by_cases hz : r0 = 0
  · refine ⟨false, (⟨#[]⟩ : ByteArray), p + 1, by omega, by omega, fun k hk => ?_⟩
    unfold spec_l15Join.f
    exact bnd _ (c0 k (by omega)) ((if_pos hz).trans rfl)
  obtain ⟨t, q, ht, q0, q1, ck⟩ := text_at h (p + 1) 30 (by omega) (by omega) (by decide)
  obtain ⟨r1, a1, b1, c1⟩ := pick_at h q 22 (by omega) (by omega) (by decide)
  obtain ⟨e1, e2, e3⟩ := sub106 a1 b1
  obtain ⟨m, hm, cm⟩ := many_at (⟨#[122]⟩ : ByteArray) rfl (106 - r1) e2 e3
  obtain ⟨r2, a2, b2, c2⟩ := pick_at h (q + 1) 6 (by omega) (by omega) (by decide)
  obtain ⟨d1, d2, d3⟩ := div5 a2 b2
  refine ⟨true, rdOf ByteArray.empty [t, m] (r2 / 5), q + 1 + 1, by omega, by omega, fun k hk => ?_⟩
  have k2 : 2 ≤ k := by omega
  have k40 : 30 + 10 < k := by omega
  have k10 : 10 < k := by omega
  clear e2 e3
  unfold spec_l15Join.f
  refine bnd _ (c0 k k2) ((if_neg hz).trans (bnd _ (ck k k40) (bnd _ (c1 k k2) (bnd m (by rw [e1]; exact cm k k10) (bnd _ rfl (bnd _ (c2 k k2) ?_))))))
  rw [d1]
  exact (if_pos d2).trans (if_pos d3)
theorem joinOkDraw (l : List Int) (hl : l.length ≤ 140737488351232) (hw : ∀ x ∈ l, (Lit.int .u8 x).wf = true) : ∃ o t, ∀ k, 60 ≤ k → spec_DrawJoinOk.f k l = some (o, t) := by
  obtain ⟨ho, hB⟩ := open_at l hl hw
  obtain ⟨o, t, q, q0, q1, hk⟩ := join_at hB 0 (by decide) (by decide)
  obtain ⟨r, a, b, c⟩ := pick_at hB q 6 (by omega) (by omega) (by decide)
  by_cases h0 : r = 0
  · refine ⟨false, t, fun k hkk => ?_⟩
    unfold spec_DrawJoinOk.f
    exact bnd _ ho (bnd _ (hk k hkk) (bnd _ (c k (by omega)) ((if_pos h0).trans rfl)))
  by_cases h1 : r = 1
  · obtain ⟨m, hm, cm⟩ := many_at (⟨#[122]⟩ : ByteArray) rfl 107 (by decide) (by decide)
    refine ⟨o, m, fun k hkk => ?_⟩
    unfold spec_DrawJoinOk.f
    exact bnd _ ho (bnd _ (hk k hkk) (bnd _ (c k (by omega)) ((if_neg h0).trans ((if_pos h1).trans (bnd _ (cm k (by omega)) rfl)))))
  · refine ⟨o, t, fun k hkk => ?_⟩
    unfold spec_DrawJoinOk.f
    exact bnd _ ho (bnd _ (hk k hkk) (bnd _ (c k (by omega)) ((if_neg h0).trans ((if_neg h1).trans rfl))))
theorem flag64 {r : Int} (h0 : 0 ≤ r) (h1 : r < 4) : wrap64 (wrap64 (r * 64) + 3) = r * 64 + 3 ∧ 0 ≤ r * 64 + 3 ∧ r * 64 + 3 ≤ 1000 := by
  rw [w64 (x := r * 64) (by omega) (by omega), w64 (by omega) (by omega)]
  omega
theorem z20 {r : Int} (h0 : 0 ≤ r) (h1 : r < 2) : wrap64 (20 + r) = 20 + r ∧ 0 ≤ 20 + r ∧ 20 + r ≤ 1000 ∧ (20 + r).toNat ≤ 21 := by
  rw [w64 (by omega) (by omega)]
  omega
theorem twelfth {r : Int} (h0 : 0 ≤ r) (h1 : r < 12) : wrap64 (Int.tdiv (wrap64 (r * 3)) 12) = r * 3 / 12 ∧ 0 ≤ r * 3 / 12 ∧ r * 3 / 12 < 3 := by
  rw [w64 (x := r * 3) (by omega) (by omega), tdivp (by omega), w64 (by omega) (by omega)]
  omega
theorem hear_j (l : List Int) (hl : l.length ≤ 140737488351232) (hw : ∀ x ∈ l, (Lit.int .u8 x).wf = true) {xs : List Int} (h : Bytes xs) (v : Int) : ∃ o t p, ∀ k, 70 ≤ k → spec_DrawSegHear.j0 k l v xs 1 = some (o, t, p, v) := by
  obtain ⟨r0, a0, b0, c0⟩ := pick_at h 1 4 (by decide) (by decide) (by decide)
  obtain ⟨e0, e1, e2⟩ := flag64 a0 b0
  obtain ⟨t, q, ht, q0, q1, ck⟩ := text_at h (1 + 1) 19 (by decide) (by decide) (by decide)
  obtain ⟨r1, a1, b1, c1⟩ := pick_at h q 2 (by omega) (by omega) (by decide)
  obtain ⟨z0, z1, z2, z3⟩ := z20 a1 b1
  obtain ⟨m, hm, cm⟩ := many_at (⟨#[122]⟩ : ByteArray) rfl (20 + r1) z1 z2
  obtain ⟨r2, a2, b2, c2⟩ := pick_at h (q + 1) 12 (by omega) (by omega) (by decide)
  obtain ⟨g0, g1, g2⟩ := twelfth a2 b2
  obtain ⟨r3, a3, b3, c3⟩ := pick_at h (q + 1 + 1) 20 (by omega) (by omega) (by decide)
  have hsz : (rdOf ByteArray.empty [(⟨#[112]⟩ : ByteArray) ++ t, m, (⟨#[]⟩ : ByteArray)] (r2 * 3 / 12)).size ≤ 30 := by
    refine rdS_le _ ?_ _
    intro a ha
    rcases List.mem_cons.1 ha with rfl | ha
    · rw [ByteArray.size_append]
      show 1 + t.size ≤ 30
      omega
    rcases List.mem_cons.1 ha with rfl | ha
    · omega
    rcases List.mem_cons.1 ha with rfl | ha
    · decide
    · exact absurd ha (by simp)
  have hb : (strOfNums (be (1 : Int).toNat (r0 * 64 + 3))).size = 1 := by rw [strOfNums_size, be_length]; rfl
  have hs1 : 1 + t.size ≤ 9223372036854775807 := by omega
  have hs2 : (strOfNums (be (1 : Int).toNat (r0 * 64 + 3))).size + (rdOf ByteArray.empty [(⟨#[112]⟩ : ByteArray) ++ t, m, (⟨#[]⟩ : ByteArray)] (r2 * 3 / 12)).size ≤ 9223372036854775807 := by omega
  have hput : ∀ k, 5 ≤ k → spec_l1Put.f k (wrap64 (wrap64 (r0 * 64) + 3)) 1 = some (strOfNums (be (1 : Int).toNat (r0 * 64 + 3))) := by
    intro k hk
    rw [e0]
    exact l1Put_at k hk _ 1 e1 (by omega) (by decide) (by decide)
  obtain ⟨o1, t1, jd⟩ := joinOkDraw l hl hw
  obtain ⟨o2, t2, q2, _, _, jj⟩ := join_at h (q + 1 + 1 + 1) (by omega) (by omega)
  obtain ⟨P, hP⟩ : ∃ P, P = strOfNums (be (1 : Int).toNat (r0 * 64 + 3)) ++ rdOf ByteArray.empty [(⟨#[112]⟩ : ByteArray) ++ t, m, (⟨#[]⟩ : ByteArray)] (r2 * 3 / 12) := ⟨_, rfl⟩
  clear e1 e2 z1 z2 z3 hm q0 q1
  by_cases h0 : r3 = 0
  · refine ⟨o1, t1, P, fun k hk => ?_⟩
    obtain ⟨k, rfl⟩ : ∃ n, k = n + 1 := ⟨k - 1, by omega⟩
    have k2 : 2 ≤ k := by omega
    have k5 : 5 ≤ k := by omega
    have k30 : 19 + 10 < k := by omega
    have k10 : 10 < k := by omega
    have k60 : 60 ≤ k := by omega
    simp only [spec_DrawSegHear.j0]
    refine bnd _ (c0 k k2) (bnd _ (hput k k5) (bnd _ (ck k k30) ((if_pos hs1).trans (bnd _ (c1 k k2) (bnd m (by rw [z0]; exact cm k k10) (bnd _ rfl (bnd _ (c2 k k2) ?_)))))))
    rw [g0, hP]
    exact (if_pos g1).trans ((if_pos g2).trans ((if_pos hs2).trans (bnd _ (c3 k k2) ((if_pos h0).trans (bnd _ (jd k k60) rfl)))))
  · refine ⟨o2, t2, P, fun k hk => ?_⟩
    obtain ⟨k, rfl⟩ : ∃ n, k = n + 1 := ⟨k - 1, by omega⟩
    have k2 : 2 ≤ k := by omega
    have k5 : 5 ≤ k := by omega
    have k30 : 19 + 10 < k := by omega
    have k10 : 10 < k := by omega
    have k60 : 60 ≤ k := by omega
    simp only [spec_DrawSegHear.j0]
    refine bnd _ (c0 k k2) (bnd _ (hput k k5) (bnd _ (ck k k30) ((if_pos hs1).trans (bnd _ (c1 k k2) (bnd m (by rw [z0]; exact cm k k10) (bnd _ rfl (bnd _ (c2 k k2) ?_)))))))
    rw [g0, hP]
    exact (if_pos g1).trans ((if_pos g2).trans ((if_pos hs2).trans (bnd _ (c3 k k2) ((if_neg h0).trans (bnd _ (jj k k60) rfl)))))
theorem drawHear (l : List Int) (hl : l.length ≤ 140737488351232) (hw : ∀ x ∈ l, (Lit.int .u8 x).wf = true) : ∃ o t p v, 0 ≤ v ∧ v ≤ 4 ∧ ∀ k, 70 ≤ k → spec_DrawSegHear.f k l = some (o, t, p, v) := by
  obtain ⟨ho, hB⟩ := open_at l hl hw
  obtain ⟨r, a, b, c⟩ := pick_at hB 0 8 (by decide) (by decide) (by decide)
  by_cases h0 : r = 0
  · obtain ⟨o, t, p, hk⟩ := hear_j l hl hw hB 4
    refine ⟨o, t, p, 4, by decide, by decide, fun k hkk => ?_⟩
    unfold spec_DrawSegHear.f
    exact bnd _ ho (bnd _ (c k (by omega)) ((if_pos h0).trans (hk k hkk)))
  · obtain ⟨o, t, p, hk⟩ := hear_j l hl hw hB 3
    refine ⟨o, t, p, 3, by decide, by decide, fun k hkk => ?_⟩
    unfold spec_DrawSegHear.f
    exact bnd _ ho (bnd _ (c k (by omega)) ((if_neg h0).trans (hk k hkk)))
theorem empty_ok : joinOk false (⟨#[]⟩ : ByteArray) = true := by
  have h : (⟨#[]⟩ : ByteArray).toList = [] := by
    unfold ByteArray.toList ByteArray.toList.loop
    rfl
  unfold joinOk
  rw [h]
  rfl
theorem open_ok {t : ByteArray} (h : t.size ≤ 106) : joinOk true t = true := by
  unfold joinOk
  rw [decide_eq_true (by omega)]
  rfl
theorem hearV_ok (o f l : Bool) (t p : ByteArray) : joinOk (HSeg.hearV o f l t p).1 (HSeg.hearV o f l t p).2.1 = true ∧ (HSeg.hearV o f l t p).2.2.size ≤ 106 := by
  unfold HSeg.hearV
  split
  · split
    · rename_i hs
      cases l
      · exact ⟨open_ok hs, Nat.zero_le _⟩
      · exact ⟨empty_ok, hs⟩
    · exact ⟨empty_ok, Nat.zero_le _⟩
  · exact ⟨empty_ok, Nat.zero_le _⟩
theorem segHear_ok (o : Bool) (t p : ByteArray) (v : Int) (h : joinOk o t = true) : joinOk (segHear o t p v).1 (segHear o t p v).2.1 = true ∧ (segHear o t p v).2.2.size ≤ 106 := by
  unfold segHear
  rw [if_pos h]
  split
  · exact ⟨h, Nat.zero_le _⟩
  · split
    · exact hearV_ok _ _ _ _ _
    · exact ⟨h, Nat.zero_le _⟩
theorem segHear_other (o : Bool) (t p : ByteArray) (v : Int) (h : joinOk o t = true) (hv : bt p 0 % 64 ≠ v) : segHear o t p v = (o, t, (⟨#[]⟩ : ByteArray)) := by
  unfold segHear
  rw [if_pos h]
  by_cases h2 : p.size < 2 ∨ 21 < p.size
  · rw [if_pos h2]
  · rw [if_neg h2, if_neg hv]
theorem skJoin_at (o : Bool) (t : ByteArray) : laws_skJoin.f o t o t = some true := by
  unfold laws_skJoin.f
  rw [beq_self_eq_true, if_pos rfl, beq_self_eq_true]
theorem next_at {v : Int} (h0 : 0 ≤ v) (h1 : v ≤ 4) : Int.tmod (wrap64 (v + 1)) 64 = v + 1 := by
  rw [w64 (by omega) (by omega), tmodp (by omega)]
  omega
end FnSegOtherL
open FnSegOtherL

theorem FnSegOther : laws_FnSegOther.Pure := by
  intro l hl _ hw
  unfold maxLen at hl
  by_cases hbig : (l.length : Int) > 1048576
  · exact ⟨0, if_pos hbig⟩
  obtain ⟨o, t, p, v, v0, v1, hd⟩ := drawHear l (by omega) hw
  refine ⟨101, ?_⟩
  have e0 := hd 101 (by omega)
  have e1 := implSeg_at o t p v
  have e2 := specSeg_at 101 o t p v (by omega)
  have e3 := skJoin_at (segHear o t p v).1 (segHear o t p v).2.1
  have e4 := implJoinOk_at o t
  have e5 := specJoinOk_at o t
  unfold laws_FnSegOther.f
  rw [if_neg hbig]
  refine bnd _ e0 (bnd _ e1 (bnd _ e2 (bnd _ e3 ((if_pos rfl).trans ((if_pos rfl).trans (bnd _ e4 (bnd _ e5 ((if_neg (by rw [bne_self_eq_false]; decide)).trans (bnd _ e5 ?_)))))))))
  cases hok : joinOk o t with
  | false =>
    simp only [laws_FnSegOther.j0, Bool.not_false, if_true]
    exact bnd _ e3 ((if_pos rfl).trans (congrArg some (beq_self_eq_true _)))
  | true =>
    obtain ⟨k1, k2⟩ := segHear_ok o t p v hok
    have e6 := implJoinOk_at (segHear o t p v).1 (segHear o t p v).2.1
    rw [k1] at e6
    have hdec : decide (((segHear o t p v).2.2.size : Int) ≤ 106) = true := decide_eq_true (by omega)
    have last : ((impl_JoinOk.f (segHear o t p v).1 (segHear o t p v).2.1).bind fun t217 => (if t217 = true then (some (decide (((segHear o t p v).2.2.size : Int) ≤ 106))) else (some false))) = some true := bnd _ e6 ((if_pos rfl).trans (congrArg some hdec))
    have hnx := next_at v0 v1
    have e7 := implSeg_at o t p (v + 1)
    simp only [laws_FnSegOther.j0, Bool.not_true, Bool.false_eq_true, if_false]
    rw [hnx]
    refine bnd _ e7 ?_
    by_cases hp : (p.size : Int) > 0
    · obtain ⟨b1, b2, _⟩ := byte_at p
      rw [if_pos hp, if_pos (by omega), b1, b2]
      by_cases hv : bt p 0 % 64 = v + 1
      · rw [if_pos hv]
        exact last
      · rw [if_neg hv, segHear_other o t p (v + 1) hok hv]
        refine bnd _ (skJoin_at o t) ((if_pos rfl).trans ((if_pos ?_).trans last))
        show (⟨#[]⟩ : ByteArray).toList = []
        unfold ByteArray.toList ByteArray.toList.loop
        rfl
    · rw [if_neg hp]
      exact last

end Go.Proofs.YtondhdiipaijiaaDoor.Pure
