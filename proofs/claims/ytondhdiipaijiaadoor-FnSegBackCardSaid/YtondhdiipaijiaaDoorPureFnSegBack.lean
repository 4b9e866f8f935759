/- FnSegBack: a packet in parts is put together as it was. For all bytes from which a text and a way are drawn; no condition. -/
import Derived.Test.YtondhdiipaijiaaDoorPFnSegBackx5
import Derived.Test.YtondhdiipaijiaaDoorAux
import Derived.Test.YtondhdiipaijiaaDoorBt
namespace Go.Proofs.YtondhdiipaijiaaDoor.Pure
open Go Go.RowKit Go.Proofs.YtondhdiipaijiaaDoor.PFnSegBack Go.Proofs.YtondhdiipaijiaaDoorW.PrintWords Go.Proofs.YtondhdiipaijiaaDoorW.PrintLast Go.Proofs.YtondhdiipaijiaaDoorW.PrintMore Go.Proofs.YtondhdiipaijiaaDoor.Aux Go.Proofs.YtondhdiipaijiaaDoor.Bt

namespace FnSegBackL
theorem up {i n : Nat} (h : i < n ∧ n ≤ 9223372036854775807) : wrap64 ((i : Int) + 1) = ((i + 1 : Nat) : Int) := by rw [w64 (by omega) (by omega)]; omega
theorem bnd {α β : Type} {o : Option α} {f : α → Option β} {b : β} (a : α) (h : o = some a) (h2 : f a = some b) : o.bind f = some b := Option.bind_eq_some_iff.2 ⟨a, h, h2⟩
theorem l1In_at (a b c : Int) : spec_l1In.f a b c = some (decide (b ≤ a ∧ a ≤ c)) := by
  unfold spec_l1In.f
  by_cases h : b ≤ a
  · rw [if_pos h]
    simp [h]
  · rw [if_neg h]
    simp [h]
theorem l1Put_l0 (d : Nat) : ∀ (k : Nat) (n size i : Int) (out : ByteArray), d < k → 0 ≤ n → n ≤ 9223372036854775807 → 0 ≤ i → size ≤ 4 → size - i = d → out.size ≤ 4 - d →
    spec_l1Put.l0 k n size out i = some (strOfNums (be d n) ++ out) := by
  induction d with
  | zero =>
    intro k n size i out hk h0 h1 hi hs hd ho
    obtain ⟨k, rfl⟩ : ∃ m, k = m + 1 := ⟨k - 1, by omega⟩
    simp only [spec_l1Put.l0]
    rw [if_neg (by omega)]
    show some out = some ((⟨#[]⟩ : ByteArray) ++ out)
    rw [str_nil_append]
  | succ d ih =>
    intro k n size i out hk h0 h1 hi hs hd ho
    obtain ⟨k, rfl⟩ : ∃ m, k = m + 1 := ⟨k - 1, by omega⟩
    have hsz : (strOfNums [(Int.tmod n 256) % 256]).size = 1 := by rw [strOfNums_size]; rfl
    simp only [spec_l1Put.l0]
    rw [if_pos (by omega)]
    simp only [Option.bind_some]
    rw [if_pos (by omega), w64 (x := i + 1) (by omega) (by omega), tdivp h0, w64 (x := n / 256) (by omega) (by omega)]
    rw [ih _ _ _ _ _ (by omega) (by omega) (by omega) (by omega) hs (by omega) (by rw [ByteArray.size_append]; omega)]
    have e : (Int.tmod n 256) % 256 = n % 256 := by rw [tmodp h0]; omega
    rw [e, be, strOfNums_append, ByteArray.append_assoc]
theorem l1Put_at (k : Nat) (hk : 5 ≤ k) (n size : Int) (h0 : 0 ≤ n) (h1 : n ≤ 9223372036854775807) (hs0 : 0 ≤ size) (hs : size ≤ 4) :
    spec_l1Put.f k n size = some (strOfNums (be size.toNat n)) := by
  unfold spec_l1Put.f
  rw [l1Put_l0 size.toNat k n size 0 _ (by omega) h0 h1 (by omega) hs (by omega) (by show 0 ≤ _; omega), str_append_nil]
theorem implPut_l0 (d : Nat) : ∀ (k : Nat) (n : Int) (xs : List Int), d < k → 0 ≤ n → n ≤ 9223372036854775807 → d ≤ xs.length → xs.length ≤ 4 →
    impl_NumPut.l0 k n xs ((d : Int) - 1) = some (strOfNums (be d n ++ xs.drop d)) := by
  induction d with
  | zero =>
    intro k n xs hk h0 h1 hd hx
    obtain ⟨k, rfl⟩ : ∃ m, k = m + 1 := ⟨k - 1, by omega⟩
    simp only [impl_NumPut.l0]
    rw [if_neg (by omega)]
    simp [be]
  | succ d ih =>
    intro k n xs hk h0 h1 hd hx
    obtain ⟨k, rfl⟩ : ∃ m, k = m + 1 := ⟨k - 1, by omega⟩
    simp only [impl_NumPut.l0]
    have e1 : ((d + 1 : Nat) : Int) - 1 = d := by omega
    rw [e1, if_pos (by omega), if_pos (by omega), if_pos (by omega), and255 h0 (by omega), w64 (x := (d : Int) - 1) (by omega) (by omega)]
    have e2 : ((d : Int)).toNat = d := by omega
    rw [e2, ih _ _ _ (by omega) (by omega) (by omega) (by rw [List.length_set]; omega) (by rw [List.length_set]; omega)]
    have hl : d < (xs.set d (n % 256 % 256)).length := by rw [List.length_set]; omega
    rw [List.drop_eq_getElem_cons hl, List.getElem_set_self, List.drop_set_of_lt (by omega)]
    have e3 : n % 256 % 256 = n % 256 := by omega
    rw [e3, be, List.append_assoc]
    rfl
theorem implPut_at (k : Nat) (hk : 7 ≤ k) (n size : Int) (h1 : n ≤ 9223372036854775807) : impl_NumPut.f k n size = some (numPut n size) := by
  obtain ⟨k, rfl⟩ : ∃ m, k = m + 1 := ⟨k - 1, by omega⟩
  have j0t : ∀ a0 a1, impl_NumPut.j0 (k + 1) a0 a1 true = some (⟨#[]⟩ : ByteArray) := fun a0 a1 => by simp only [impl_NumPut.j0, if_true]
  unfold impl_NumPut.f numPut
  by_cases ha : size < 1
  · rw [if_pos ha, j0t, if_neg (by omega)]
  rw [if_neg ha]
  by_cases hb : size > 4
  · rw [if_pos hb, j0t, if_neg (by omega)]
  rw [if_neg hb]
  by_cases hc : n < 0
  · rw [if_pos hc, j0t, if_neg (by omega)]
  rw [if_neg hc, if_pos (by rw [w64 (by omega) (by omega)]; omega)]
  have hs : shr .i64 n (wrap64 (8 * size)) = n / 256 ^ size.toNat := by
    have h : size = 1 ∨ size = 2 ∨ size = 3 ∨ size = 4 := by omega
    unfold shr
    rcases h with rfl | rfl | rfl | rfl <;> exact congrArg (fun m => n / m) (by decide +kernel)
  have hp : (0 : Int) < 256 ^ size.toNat := Int.pow_pos (by decide)
  rw [hs]
  by_cases h : n < 256 ^ size.toNat
  · rw [if_pos ⟨by omega, by omega, by omega, h⟩, Int.ediv_eq_zero_of_lt (by omega) h]
    simp only [impl_NumPut.j0, bne_self_eq_false, Bool.false_eq_true, if_false]
    rw [if_pos (by omega), if_pos (by omega), w64 (by omega) (by omega)]
    have e : size - 1 = ((size.toNat : Nat) : Int) - 1 := by omega
    rw [e, implPut_l0 size.toNat k n _ (by omega) (by omega) h1 (by rw [List.length_replicate]; omega) (by rw [List.length_replicate]; omega)]
    rw [List.drop_eq_nil_of_le (by rw [List.length_replicate]; omega), List.append_nil]
  · have h2 : 1 ≤ n / 256 ^ size.toNat := Int.le_ediv_of_mul_le hp (by omega)
    have h3 : (n / 256 ^ size.toNat != 0) = true := by simp; omega
    rw [h3, j0t, if_neg (by omega)]
theorem rounds {m k : Nat} (h : m < k) : ∃ q, k = q + 1 := ⟨k - 1, by omega⟩
theorem cut_snoc (t : ByteArray) (via : Int) (j : Nat) : HSegCut.outOf via (HSegCut.upto t (j + 1)) = HSegCut.outOf via (HSegCut.upto t j) ++ [HSegCut.one (HSegCut.mark t (20 * j) + via) ++ HSegCut.text t (20 * j)] := by
  rw [HSegCut.upto_succ, HSegCut.outOf_snoc]
  rfl
theorem put_one (k : Nat) (hk : 5 ≤ k) (x y : Int) (e : wrap64 x = y) (h0 : 0 ≤ y) (h1 : y ≤ 255) : spec_l1Put.f k (wrap64 x) 1 = some (HSegCut.one y) := by
  rw [e, l1Put_at k hk y 1 h0 (by omega) (by decide) (by decide)]
  rfl
theorem mark_00 {t : ByteArray} {a : Nat} (h0 : a = 0) (h2 : t.size ≤ a + 20) : HSegCut.mark t a = 192 := by unfold HSegCut.mark; rw [if_pos h0, if_pos h2]; rfl
theorem mark_01 {t : ByteArray} {a : Nat} (h0 : a = 0) (h2 : ¬ t.size ≤ a + 20) : HSegCut.mark t a = 64 := by unfold HSegCut.mark; rw [if_pos h0, if_neg h2]; rfl
theorem mark_10 {t : ByteArray} {a : Nat} (h0 : ¬ a = 0) (h2 : t.size ≤ a + 20) : HSegCut.mark t a = 128 := by unfold HSegCut.mark; rw [if_neg h0, if_pos h2]; rfl
theorem mark_11 {t : ByteArray} {a : Nat} (h0 : ¬ a = 0) (h2 : ¬ t.size ≤ a + 20) : HSegCut.mark t a = 0 := by unfold HSegCut.mark; rw [if_neg h0, if_neg h2]; rfl
theorem spec_step (k j : Nat) (hk : 5 ≤ k) (t : ByteArray) (via : Int) (ht : t.size ≤ 106) (v0 : 0 ≤ via) (v1 : via ≤ 63) (hj : 20 * j < t.size) :
    spec_SegCut.l0 (k + 1) t via (HSegCut.outOf via (HSegCut.upto t j)) ((20 * j : Nat) : Int) = spec_SegCut.l0 k t via (HSegCut.outOf via (HSegCut.upto t (j + 1))) ((20 * (j + 1) : Nat) : Int) := by
  have e1 : wrap64 (((20 * j : Nat) : Int) + 20) = ((20 * (j + 1) : Nat) : Int) := by rw [w64 (by omega) (by omega)]; omega
  have g1 : ((20 * j : Nat) : Int) < (t.size : Int) := by omega
  have g2 : 0 ≤ ((20 * j : Nat) : Int) := by omega
  have g3 : ((20 * j : Nat) : Int) ≤ (t.size : Int) := by omega
  have g4 : ((20 * j : Nat) : Int) ≤ ((20 * (j + 1) : Nat) : Int) := by omega
  have hl : (HSegCut.outOf via (HSegCut.upto t j)).length < 8796093022208 := by rw [HSegCut.outOf_len, HSegCut.upto_len]; omega
  have hz : ∀ y : Int, ∀ b c : Nat, (HSegCut.one y).size + (t.extract b c).size ≤ 9223372036854775807 := fun y b c => by
    show 1 + _ ≤ _
    rw [ByteArray.size_extract]
    omega
  rw [cut_snoc]
  generalize hA : HSegCut.outOf via (HSegCut.upto t j) = A at hl ⊢
  simp only [spec_SegCut.l0]
  rw [if_pos g1, e1]
  by_cases h2 : t.size ≤ 20 * j + 20
  · have c2 : ((20 * (j + 1) : Nat) : Int) ≥ (t.size : Int) := by omega
    have ht2 : HSegCut.text t (20 * j) = t.extract (20 * j) t.size := by unfold HSegCut.text; rw [if_pos h2]
    by_cases h0 : 20 * j = 0
    · have c0 : ((20 * j : Nat) : Int) = 0 := by omega
      rw [if_pos c0, if_pos c2, put_one k hk _ (192 + via) (by rw [w64 (by omega) (by omega)]; rfl) (by omega) (by omega)]
      simp only [Option.bind_some]
      rw [if_pos g2, if_pos g3, if_pos (Int.le_refl _), Int.toNat_natCast, Int.toNat_natCast, if_pos (hz _ _ _), if_pos hl, mark_00 h0 h2, ht2]
    · have c0 : ¬ ((20 * j : Nat) : Int) = 0 := by omega
      rw [if_neg c0, if_pos c2, put_one k hk _ (128 + via) (by rw [w64 (by omega) (by omega)]; rfl) (by omega) (by omega)]
      simp only [Option.bind_some]
      rw [if_pos g2, if_pos g3, if_pos (Int.le_refl _), Int.toNat_natCast, Int.toNat_natCast, if_pos (hz _ _ _), if_pos hl, mark_10 h0 h2, ht2]
  · have c2 : ¬ ((20 * (j + 1) : Nat) : Int) ≥ (t.size : Int) := by omega
    have g5 : ((20 * (j + 1) : Nat) : Int) ≤ (t.size : Int) := by omega
    have ht2 : HSegCut.text t (20 * j) = t.extract (20 * j) (20 * (j + 1)) := by unfold HSegCut.text; rw [if_neg h2]; rfl
    by_cases h0 : 20 * j = 0
    · have c0 : ((20 * j : Nat) : Int) = 0 := by omega
      rw [if_pos c0, if_neg c2, put_one k hk _ (64 + via) (by rw [w64 (by omega) (by omega)]; rfl) (by omega) (by omega)]
      simp only [Option.bind_some]
      rw [if_pos g2, if_pos g4, if_pos g5, Int.toNat_natCast, Int.toNat_natCast, if_pos (hz _ _ _), if_pos hl, mark_01 h0 h2, ht2]
    · have c0 : ¬ ((20 * j : Nat) : Int) = 0 := by omega
      rw [if_neg c0, if_neg c2, put_one k hk _ (0 + via) (by rw [w64 (by omega) (by omega)]; rfl) (by omega) (by omega)]
      simp only [Option.bind_some]
      rw [if_pos g2, if_pos g4, if_pos g5, Int.toNat_natCast, Int.toNat_natCast, if_pos (hz _ _ _), if_pos hl, mark_11 h0 h2, ht2]
theorem specCut_l0 (d : Nat) : ∀ (k j : Nat) (t : ByteArray) (via : Int), d + 6 ≤ k → t.size ≤ 106 → 0 ≤ via → via ≤ 63 → j + d = HSegCut.count t →
    spec_SegCut.l0 k t via (HSegCut.outOf via (HSegCut.upto t j)) ((20 * j : Nat) : Int) = some (HSegCut.cut t via) := by
  induction d with
  | zero =>
    intro k j t via hk ht v0 v1 hj
    obtain ⟨k, rfl⟩ : ∃ m, k = m + 1 := ⟨k - 1, by omega⟩
    have hc : ¬ ((20 * j : Nat) : Int) < (t.size : Int) := by unfold HSegCut.count at hj; omega
    simp only [spec_SegCut.l0]
    rw [if_neg hc]
    unfold HSegCut.cut HSegCut.pieces
    rw [← hj]
    rfl
  | succ d ih =>
    intro k j t via hk ht v0 v1 hj
    obtain ⟨k, rfl⟩ : ∃ m, k = m + 1 := ⟨k - 1, by omega⟩
    have hc : 20 * j < t.size := by unfold HSegCut.count at hj; omega
    rw [spec_step k j (by omega) t via ht v0 v1 hc]
    exact ih k (j + 1) t via (by omega) ht v0 v1 (by omega)
/-- SegCut's answer, at any arguments. -/
def segCut (t : ByteArray) (via : Int) : List ByteArray := if t.size ≤ 106 ∧ 0 ≤ via ∧ via ≤ 63 then HSegCut.cut t via else []
theorem segCut_len (t : ByteArray) (via : Int) : (segCut t via).length ≤ 6 := by
  unfold segCut
  split
  · unfold HSegCut.cut HSegCut.pieces
    rw [HSegCut.outOf_len, HSegCut.upto_len]
    unfold HSegCut.count
    omega
  · exact Nat.zero_le _
theorem specCut_at (k : Nat) (hk : 20 ≤ k) (t : ByteArray) (via : Int) (ht : t.size ≤ 140737488351232) : spec_SegCut.f k t via = some (segCut t via) := by
  obtain ⟨k, rfl⟩ : ∃ m, k = m + 1 := ⟨k - 1, by omega⟩
  unfold spec_SegCut.f spec_l7Most.f segCut
  simp only [Option.bind_some, l1In_at]
  by_cases h1 : (1 : Int) ≤ (t.size : Int) ∧ (t.size : Int) ≤ 106
  · rw [if_pos (decide_eq_true h1)]
    simp only [spec_SegCut.j0]
    by_cases h2 : (0 : Int) ≤ via ∧ via ≤ 63
    · have hm : HSegCut.count t ≤ 6 := by unfold HSegCut.count; omega
      rw [decide_eq_true h2, if_neg (by decide), if_pos ⟨by omega, h2⟩]
      exact specCut_l0 (HSegCut.count t) k 0 t via (by omega) (by omega) h2.1 h2.2 (by omega)
    · rw [decide_eq_false h2, if_pos (by decide), if_neg (fun h => h2 h.2)]
  · rw [if_neg (by simpa using h1)]
    simp only [spec_SegCut.j0, if_true]
    by_cases h2 : t.size ≤ 106 ∧ 0 ≤ via ∧ via ≤ 63
    · rw [if_pos h2]
      have hz : HSegCut.count t = 0 := by unfold HSegCut.count; omega
      unfold HSegCut.cut HSegCut.pieces
      rw [hz]
      rfl
    · rw [if_neg h2]
theorem implCut_at (k : Nat) (hk : 7 ≤ k) (t : ByteArray) (via : Int) : impl_SegCut.f k t via = some (segCut t via) := by
  unfold impl_SegCut.f segCut
  have hn : ∀ n : Int, 0 ≤ n → n ≤ 255 → impl_NumPut.f k n 1 = some (HSegCut.one n) := fun n h0 h1 => by
    rw [implPut_at k hk n 1 (by omega)]
    unfold numPut
    rw [if_pos ⟨by decide, by decide, h0, by show n < 256; omega⟩]
    rfl
  by_cases h : t.size ≤ 106 ∧ 0 ≤ via ∧ via ≤ 63
  · rw [if_pos h, if_pos h, if_pos hn]
  · rw [if_neg h, if_neg h]
theorem skTexts_l0 (d : Nat) : ∀ (k i : Nat) (l : List ByteArray), d < k → l.length ≤ 9223372036854775807 → i + d = l.length → laws_skTexts.l0 k l l (i : Int) = some true := by
  induction d with
  | zero =>
    intro k i l hk hl hi
    obtain ⟨k, rfl⟩ : ∃ m, k = m + 1 := ⟨k - 1, by omega⟩
    simp only [laws_skTexts.l0]
    rw [if_neg (by omega)]
  | succ d ih =>
    intro k i l hk hl hi
    obtain ⟨k, rfl⟩ : ∃ m, k = m + 1 := ⟨k - 1, by omega⟩
    simp only [laws_skTexts.l0]
    rw [if_pos (by omega), if_pos (by omega), if_pos (by omega), if_pos trivial, up (n := l.length) (by omega)]
    exact ih k (i + 1) l (by omega) hl (by omega)
theorem skTexts_at (k : Nat) (l : List ByteArray) (hk : l.length < k) (hl : l.length ≤ 9223372036854775807) : laws_skTexts.f k l l = some true := by
  unfold laws_skTexts.f
  rw [if_pos rfl]
  exact skTexts_l0 l.length k 0 l hk hl (by omega)
/-- JoinOk's answer. -/
def joinOk (o : Bool) (t : ByteArray) : Bool := decide ((t.size : Int) ≤ 106) && (o || t.toList == ([] : List UInt8))
theorem implJoinOk_at (o : Bool) (t : ByteArray) : impl_JoinOk.f o t = some (joinOk o t) := by
  unfold impl_JoinOk.f joinOk
  by_cases h : (t.size : Int) ≤ 106
  · rw [if_pos h, decide_eq_true h]
    cases o <;> rfl
  · rw [if_neg h, decide_eq_false h]
    rfl
theorem byte_fin : ∀ b : Fin 256, wrap64 (b.1 : Int) = b.1 ∧ (b.1 : Int).tmod 64 = (b.1 : Int) % 64 ∧ wrap64 (Int.tdiv (b.1 : Int) 64) = (b.1 : Int) / 64 ∧ (bits .and .i64 (b.1 : Int) 64 != 0) = decide (((b.1 : Int) / 64).tmod 2 = 1) ∧ (bits .and .i64 (b.1 : Int) 128 != 0) = decide ((b.1 : Int) / 64 ≥ 2) := by decide +kernel
theorem bt_byte (s : ByteArray) (i : Int) : 0 ≤ bt s i ∧ bt s i < 256 := by
  have := bt_range s i
  omega
theorem byte_at (s : ByteArray) : wrap64 (bt s 0) = bt s 0 ∧ (bt s 0).tmod 64 = bt s 0 % 64 ∧ wrap64 (Int.tdiv (bt s 0) 64) = bt s 0 / 64 ∧ (bits .and .i64 (bt s 0) 64 != 0) = decide ((bt s 0 / 64).tmod 2 = 1) ∧ (bits .and .i64 (bt s 0) 128 != 0) = decide (bt s 0 / 64 ≥ 2) := by
  have hb := bt_byte s 0
  have h := byte_fin ⟨(bt s 0).toNat, by omega⟩
  have e : (((bt s 0).toNat : Nat) : Int) = bt s 0 := by omega
  simp only [e] at h
  exact h
/-- SegHear's answer. -/
def segHear (o : Bool) (t p : ByteArray) (v : Int) : Bool × ByteArray × ByteArray :=
  if joinOk o t = true then (if p.size < 2 ∨ 21 < p.size then (o, t, (⟨#[]⟩ : ByteArray)) else (if bt p 0 % 64 = v then HSeg.hearV o (decide ((bt p 0 / 64).tmod 2 = 1)) (decide (bt p 0 / 64 ≥ 2)) t p else (o, t, (⟨#[]⟩ : ByteArray)))) else (false, (⟨#[]⟩ : ByteArray), (⟨#[]⟩ : ByteArray))
theorem joinOk_size {o : Bool} {t : ByteArray} (h : joinOk o t = true) : t.size ≤ 106 := by
  simp only [joinOk, Bool.and_eq_true, decide_eq_true_eq] at h
  omega
theorem implSeg_at (o : Bool) (t p : ByteArray) (v : Int) : impl_SegHear.f o t p v = some (segHear o t p v) := by
  obtain ⟨e1, e2, e3, e4, e5⟩ := byte_at p
  unfold impl_SegHear.f segHear
  rw [implJoinOk_at, e1, e2, e4, e5]
  simp only [Option.bind_some]
  cases hj : joinOk o t with
  | false => rfl
  | true =>
    simp only [if_true]
    by_cases h2 : p.size < 2 ∨ 21 < p.size
    · rw [if_pos h2, if_pos h2]
    · rw [if_neg h2, if_neg h2]
      by_cases hv : bt p 0 % 64 = v
      · rw [if_pos hv, hv, bne_self_eq_false, if_neg (by decide), if_pos (joinOk_size hj)]
      · rw [if_neg hv, bne_iff_ne.mpr hv, if_pos rfl]
/-- What is read from: at most 2000 bytes. -/
def Bytes (xs : List Int) : Prop := xs.length ≤ 2000 ∧ ∀ x ∈ xs, 0 ≤ x ∧ x ≤ 255
theorem rd_rng {xs : List Int} (h : Bytes xs) (i : Int) : 0 ≤ rd xs i ∧ rd xs i ≤ 255 := by
  unfold rd
  rw [List.getD_eq_getElem?_getD]
  cases hx : xs[i.toNat]? with
  | none => simp
  | some x => exact h.2 x (List.mem_of_getElem? hx)
theorem u8_rng {x : Int} (h : (Lit.int .u8 x).wf = true) : 0 ≤ x ∧ x ≤ 255 := by
  simpa [Lit.wf, IntKind.min, IntKind.max, IntKind.bits, IntKind.signed] using h
/-- Opening what came: its first 2000 bytes. -/
theorem open_at (l : List Int) (hl : l.length ≤ 140737488351232) (h : ∀ x ∈ l, (Lit.int .u8 x).wf = true) : spec_l1Open.f l = some (l.take 2000, 0) ∧ Bytes (l.take 2000) := by
  refine ⟨?_, by rw [List.length_take]; omega, fun x hx => u8_rng (h x (List.mem_of_mem_take hx))⟩
  unfold spec_l1Open.f
  by_cases h2 : (l.length : Int) > 2000
  · rw [if_pos h2, if_pos (by omega)]
  · rw [if_neg h2, List.take_of_length_le (by omega)]
theorem xor_rng {x y : Int} (hx0 : 0 ≤ x) (hx1 : x < 4611686018427387904) (hy0 : 0 ≤ y) (hy1 : y < 4611686018427387904) : 0 ≤ bits .xor .i64 x y ∧ bits .xor .i64 x y < 4611686018427387904 := by
  obtain ⟨a, rfl⟩ := Int.eq_ofNat_of_zero_le hx0
  obtain ⟨b, rfl⟩ := Int.eq_ofNat_of_zero_le hy0
  have h : a ^^^ b < 2 ^ 62 := Nat.xor_lt_two_pow (by omega) (by omega)
  have e : bits .xor .i64 (a : Int) (b : Int) = ((a ^^^ b : Nat) : Int) := by
    show IntKind.i64.wrap ((BitVec.ofInt 64 (a : Int) ^^^ BitVec.ofInt 64 (b : Int)).toNat : Int) = _
    rw [BitVec.toNat_xor, BitVec.ofInt_natCast, BitVec.ofInt_natCast, BitVec.toNat_ofNat, BitVec.toNat_ofNat, Nat.mod_eq_of_lt (by omega), Nat.mod_eq_of_lt (by omega)]
    exact wraps_i64 _ (by omega) (by omega)
  rw [e]
  omega
/-- The number that is reckoned where what came is at its end. -/
theorem mix_rng {a b p q : Int} (ha0 : 0 ≤ a) (ha1 : a ≤ 255) (hb0 : 0 ≤ b) (hb1 : b ≤ 255) (hp0 : 0 ≤ p) (hp1 : p ≤ 1099511627776) (hq0 : 0 ≤ q) (hq1 : q ≤ 1099511627776) :
    ∃ v, wrap64 (wrap64 (wrap64 (wrap64 (wrap64 a * 131) + wrap64 (wrap64 b * 1117)) + wrap64 (p * 29)) + wrap64 (wrap64 q * 53)) = v ∧ 0 ≤ v ∧ v < 4611686018427387904 := by
  refine ⟨a * 131 + b * 1117 + p * 29 + q * 53, ?_, by omega, by omega⟩
  rw [w64 (x := a) (by omega) (by omega), w64 (x := b) (by omega) (by omega), w64 (x := q) (by omega) (by omega), w64 (x := a * 131) (by omega) (by omega), w64 (x := b * 1117) (by omega) (by omega), w64 (x := p * 29) (by omega) (by omega), w64 (x := q * 53) (by omega) (by omega),
    w64 (x := a * 131 + b * 1117) (by omega) (by omega), w64 (x := a * 131 + b * 1117 + p * 29) (by omega) (by omega), w64 (by omega) (by omega)]
theorem tmod_rng {x m : Int} (h0 : 0 ≤ x) (hm : 1 ≤ m) : 0 ≤ Int.tmod x m ∧ Int.tmod x m < m := by
  rw [tmodp h0]
  exact ⟨Int.emod_nonneg _ (by omega), Int.emod_lt_of_pos _ (by omega)⟩
/-- One pick: a number below m. -/
theorem pick_at {xs : List Int} (h : Bytes xs) (p m : Int) (hp0 : 0 ≤ p) (hp1 : p ≤ 1000000) (hm : 1 ≤ m) :
    ∃ r, 0 ≤ r ∧ r < m ∧ ∀ k, 2 ≤ k → spec_l1Rd_pick.f k xs p m = some (r, p + 1) := by
  have hlen := h.1
  have e1 : wrap64 (p + 1) = p + 1 := w64 (by omega) (by omega)
  have e2 : wrap64 (p + 1 - 1) = p := by rw [w64 (by omega) (by omega)]; omega
  have n1 : ¬ m < 1 := by omega
  have n2 : ¬ m = 0 := by omega
  by_cases hz : xs.length = 0
  · refine ⟨0, by omega, by omega, fun k hk => ?_⟩
    obtain ⟨k, rfl⟩ : ∃ q, k = q + 1 := ⟨k - 1, by omega⟩
    have hb : ((xs.length : Int) == 0) = true := by rw [hz]; rfl
    unfold spec_l1Rd_pick.f
    rw [if_neg n1, hb, e1]
    simp only [spec_l1Rd_pick.j0, if_true]
  have hb : ((xs.length : Int) == 0) = false := beq_eq_false_iff_ne.mpr (by omega)
  by_cases hlt : p < (xs.length : Int)
  · have hr := rd_rng h p
    have e3 : wrap64 (rd xs p) = rd xs p := w64 (by omega) (by omega)
    obtain ⟨t0, t1⟩ := tmod_rng (x := rd xs p) (m := m) hr.1 hm
    refine ⟨Int.tmod (rd xs p) m, t0, t1, fun k hk => ?_⟩
    obtain ⟨k, rfl⟩ : ∃ q, k = q + 1 := ⟨k - 1, by omega⟩
    unfold spec_l1Rd_pick.f
    rw [if_neg n1, hb, e1]
    simp only [spec_l1Rd_pick.j0, Bool.false_eq_true, if_false, e2]
    rw [if_pos hlt, if_pos hp0, if_neg n2, e3]
  · have hl1 : 1 ≤ (xs.length : Int) := by omega
    have m1 := tmod_rng (x := p) (m := (xs.length : Int)) hp0 hl1
    have e4 : wrap64 (wrap64 (p * 7) + 3) = p * 7 + 3 := by rw [w64 (x := p * 7) (by omega) (by omega), w64 (by omega) (by omega)]
    have m2 := tmod_rng (x := p * 7 + 3) (m := (xs.length : Int)) (by omega) hl1
    have r1 := rd_rng h (Int.tmod p (xs.length : Int))
    have r2 := rd_rng h (Int.tmod (p * 7 + 3) (xs.length : Int))
    have q0 : 0 ≤ Int.tdiv p (xs.length : Int) := by rw [tdivp hp0]; exact Int.ediv_nonneg hp0 (by omega)
    have q1 : Int.tdiv p (xs.length : Int) ≤ 1000000 := by rw [tdivp hp0]; exact Int.le_trans (Int.ediv_le_self _ hp0) hp1
    obtain ⟨v, hv, v0, v1⟩ := mix_rng (p := p) (q := Int.tdiv p (xs.length : Int)) r1.1 r1.2 r2.1 r2.2 hp0 (by omega) q0 (by omega)
    have d1 : wrap64 (Int.tdiv v 64) = v / 64 := by rw [tdivp v0, w64 (by omega) (by omega)]
    obtain ⟨x0, x1⟩ := xor_rng (x := v) (y := v / 64) v0 v1 (by omega) (by omega)
    obtain ⟨t0, t1⟩ := tmod_rng (x := bits .xor .i64 v (v / 64)) (m := m) x0 hm
    refine ⟨Int.tmod (bits .xor .i64 v (v / 64)) m, t0, t1, fun k hk => ?_⟩
    obtain ⟨k, rfl⟩ : ∃ q, k = q + 1 := ⟨k - 1, by omega⟩
    unfold spec_l1Rd_pick.f
    rw [if_neg n1, hb, e1]
    simp only [spec_l1Rd_pick.j0, Bool.false_eq_true, if_false, e2, e4]
    rw [if_neg hlt, if_neg (show ¬ (xs.length : Int) = 0 by omega), if_pos m1.1, if_pos m1.2, if_pos m2.1, if_pos m2.2, if_neg n2, hv, d1]
theorem text_l0 {xs : List Int} (h : Bytes xs) (d : Nat) : ∀ (acc : List Int) (p : Int), acc.length + d ≤ 1000 → 0 ≤ p → p + 3 * d ≤ 500000 →
    ∃ t q, t.size = acc.length + d ∧ p ≤ q ∧ q ≤ p + 3 * d ∧ ∀ k, d + 2 < k → spec_l15Text.l0 k acc (d : Int) xs p = some (t, q) := by
  induction d with
  | zero =>
    intro acc p ha hp0 hp1
    refine ⟨strOfNums acc, p, strOfNums_size acc, by omega, by omega, fun k hk => ?_⟩
    obtain ⟨k, rfl⟩ : ∃ m, k = m + 1 := ⟨k - 1, by omega⟩
    simp only [spec_l15Text.l0]
    rw [if_neg (by omega)]
  | succ d ih =>
    intro acc p ha hp0 hp1
    obtain ⟨r1, a1, b1, c1⟩ := pick_at h p 256 hp0 (by omega) (by omega)
    obtain ⟨r2, a2, b2, c2⟩ := pick_at h (p + 1) 4 (by omega) (by omega) (by omega)
    obtain ⟨r3, a3, b3, c3⟩ := pick_at h (p + 1 + 1) 5 (by omega) (by omega) (by omega)
    obtain ⟨t, q, ht, hq0, hq1, hk⟩ := ih (acc ++ [(rd [r1, r2, 85, 235, 144] r3) % 256]) (p + 1 + 1 + 1) (by rw [List.length_append, List.length_singleton]; omega) (by omega) (by omega)
    refine ⟨t, q, by rw [ht, List.length_append, List.length_singleton]; omega, by omega, by omega, fun k hkk => ?_⟩
    obtain ⟨k, rfl⟩ : ∃ m, k = m + 1 := ⟨k - 1, by omega⟩
    have e : wrap64 (((d + 1 : Nat) : Int) - 1) = (d : Int) := by rw [w64 (by omega) (by omega)]; omega
    simp only [spec_l15Text.l0]
    rw [if_pos (by omega), c1 k (by omega)]
    simp only [Option.bind_some]
    rw [c2 k (by omega)]
    simp only [Option.bind_some]
    rw [c3 k (by omega)]
    simp only [Option.bind_some]
    rw [if_pos a3, if_pos (by show r3 < 5; omega), if_pos (by omega), e]
    exact hk k (by omega)
/-- A text that is drawn: at most n bytes. -/
theorem text_at {xs : List Int} (h : Bytes xs) (p : Int) (n : Nat) (hp0 : 0 ≤ p) (hp1 : p ≤ 100000) (hn : n ≤ 900) :
    ∃ t q, t.size ≤ n ∧ p ≤ q ∧ q ≤ p + 1 + 3 * n ∧ ∀ k, n + 10 < k → spec_l15Text.f k xs p (n : Int) = some (t, q) := by
  obtain ⟨r, a, b, c⟩ := pick_at h p ((n : Int) + 1) hp0 (by omega) (by omega)
  obtain ⟨d, rfl⟩ := Int.eq_ofNat_of_zero_le a
  obtain ⟨t, q, ht, hq0, hq1, hk⟩ := text_l0 h d [] (p + 1) (by rw [List.length_nil]; omega) (by omega) (by omega)
  refine ⟨t, q, by rw [ht, List.length_nil]; omega, by omega, by omega, fun k hkk => ?_⟩
  unfold spec_l15Text.f
  rw [w64 (x := (n : Int) + 1) (by omega) (by omega), c k (by omega)]
  simp only [Option.bind_some]
  exact hk k (by omega)
theorem many_half {n : Int} (h0 : 0 ≤ n) (h1 : n ≤ 1000000) : wrap64 (Int.tdiv n 2) = n / 2 := by rw [tdivp h0, w64 (by omega) (by omega)]
theorem many_l0 (d : Nat) : ∀ (x acc : ByteArray) (n : Int), 0 ≤ n → n < 2 ^ d → n ≤ 1000000 → acc.size + x.size * 2 ^ (d + 1) ≤ 1000000000 + x.size → ∃ r, r.size = acc.size + n.toNat * x.size ∧ ∀ k, d < k → spec_l1Many.l0 k x n acc = some r := by
  induction d with
  | zero =>
    intro x acc n h0 h1 _ hB
    obtain rfl : n = 0 := by rw [Int.pow_zero] at h1; omega
    refine ⟨acc, by simp, fun k hk => ?_⟩
    obtain ⟨k, rfl⟩ : ∃ m, k = m + 1 := ⟨k - 1, by omega⟩
    simp only [spec_l1Many.l0]
    rw [if_neg (by decide)]
  | succ d ih =>
    intro x acc n h0 h1 hm hB
    have hp : (2 : Int) ^ (d + 1) = 2 ^ d * 2 := Int.pow_succ _ _
    have hx : x.size ≤ x.size * 2 ^ (d + 1) := Nat.le_mul_of_pos_right _ (Nat.pow_pos (by decide))
    have hq : x.size * 2 ^ (d + 1 + 1) = x.size * 2 ^ (d + 1) + x.size * 2 ^ (d + 1) := by rw [Nat.pow_succ 2 (d + 1), ← Nat.mul_assoc]; omega
    have hs2 : (x ++ x).size = x.size + x.size := ByteArray.size_append
    have hxx : (x ++ x).size * 2 ^ (d + 1) = x.size * 2 ^ (d + 1) + x.size * 2 ^ (d + 1) := by rw [hs2, Nat.add_mul]
    have hsa : (acc ++ x).size = acc.size + x.size := ByteArray.size_append
    have g1 : x.size + x.size ≤ 9223372036854775807 := by omega
    have g2 : acc.size + x.size ≤ 9223372036854775807 := by omega
    have m1 : 0 ≤ n / 2 := by omega
    have m2 : n / 2 < 2 ^ d := by omega
    have m3 : n / 2 ≤ 1000000 := by omega
    by_cases ho : n % 2 = 1
    · have hn : n > 0 := by omega
      obtain ⟨r, hr, hk2⟩ := ih (x ++ x) (acc ++ x) (n / 2) m1 m2 m3 (by rw [hxx, hsa]; omega)
      refine ⟨r, ?_, fun k hk => ?_⟩
      · have e : n.toNat = 2 * (n / 2).toNat + 1 := by omega
        have e2 : (2 * (n / 2).toNat + 1) * x.size = (n / 2).toNat * (x.size + x.size) + x.size := by rw [Nat.add_mul, Nat.mul_add, Nat.mul_assoc, Nat.one_mul, Nat.two_mul]
        rw [hr, hs2, hsa, e, e2]
        omega
      · obtain ⟨k, rfl⟩ : ∃ m, k = m + 1 := ⟨k - 1, by omega⟩
        have gk : d < k := by omega
        simp only [spec_l1Many.l0]
        rw [if_pos hn, tmodp h0, if_pos ho, if_pos g2, if_pos g1, many_half h0 hm]
        exact hk2 k gk
    · by_cases hn : n > 0
      · obtain ⟨r, hr, hk2⟩ := ih (x ++ x) acc (n / 2) m1 m2 m3 (by rw [hxx]; omega)
        refine ⟨r, ?_, fun k hk => ?_⟩
        · have e : n.toNat = 2 * (n / 2).toNat := by omega
          have e2 : (2 * (n / 2).toNat) * x.size = (n / 2).toNat * (x.size + x.size) := by rw [Nat.mul_add, Nat.mul_assoc, Nat.two_mul]
          rw [hr, hs2, e, e2]
        · obtain ⟨k, rfl⟩ : ∃ m, k = m + 1 := ⟨k - 1, by omega⟩
          have gk : d < k := by omega
          simp only [spec_l1Many.l0]
          rw [if_pos hn, tmodp h0, if_neg ho, if_pos g1, many_half h0 hm]
          exact hk2 k gk
      · obtain rfl : n = 0 := by omega
        refine ⟨acc, by simp, fun k hk => ?_⟩
        obtain ⟨k, rfl⟩ : ∃ m, k = m + 1 := ⟨k - 1, by omega⟩
        simp only [spec_l1Many.l0]
        rw [if_neg hn]
/-- One byte, so many times. -/
theorem many_at (x : ByteArray) (hx : x.size = 1) (n : Int) (h0 : 0 ≤ n) (h1 : n ≤ 1000) : ∃ r, r.size = n.toNat ∧ ∀ k, 10 < k → spec_l1Many.f k x n = some r := by
  have e : (2 : Int) ^ 10 = 1024 := by decide
  obtain ⟨r, hr, hk⟩ := many_l0 10 x (⟨#[]⟩ : ByteArray) n h0 (by omega) (by omega) (by rw [hx]; decide)
  refine ⟨r, ?_, fun k hkk => hk k hkk⟩
  rw [hr, hx, Nat.mul_one]
  show 0 + _ = _
  omega
theorem rdS_le {B : Nat} (l : List ByteArray) (h : ∀ a ∈ l, a.size ≤ B) (i : Int) : (rdOf ByteArray.empty l i).size ≤ B := by
  unfold rdOf
  rw [List.getD_eq_getElem?_getD]
  cases hx : l[i.toNat]? with
  | none => exact Nat.zero_le _
  | some x => exact h x (List.mem_of_getElem? hx)
theorem drawSegCut (l : List Int) (hl : l.length ≤ 140737488351232) (hw : ∀ x ∈ l, (Lit.int .u8 x).wf = true) : ∃ t via, t.size ≤ 1000 ∧ ∀ k, 200 ≤ k → spec_DrawSegCut.f k l = some (t, via) := by
  obtain ⟨ho, hB⟩ := open_at l hl hw
  obtain ⟨t, q, ht, q0, q1, ck⟩ := text_at hB 0 105 (by decide) (by decide) (by decide)
  obtain ⟨r1, a1, b1, c1⟩ := pick_at hB q 2 (by omega) (by omega) (by decide)
  obtain ⟨z1, hz1, m1⟩ := many_at (⟨#[122]⟩ : ByteArray) rfl (106 + r1) (by omega) (by omega)
  obtain ⟨r2, a2, b2, c2⟩ := pick_at hB (q + 1) 3 (by omega) (by omega) (by decide)
  obtain ⟨z2, hz2, m2⟩ := many_at (⟨#[121]⟩ : ByteArray) rfl (20 * (1 + r2)) (by omega) (by omega)
  obtain ⟨r3, a3, b3, c3⟩ := pick_at hB (q + 1 + 1) 12 (by omega) (by omega) (by decide)
  obtain ⟨r4, a4, b4, c4⟩ := pick_at hB (q + 1 + 1 + 1) 12 (by omega) (by omega) (by decide)
  have e1 : wrap64 (106 + r1) = 106 + r1 := w64 (by omega) (by omega)
  have e2 : wrap64 (20 * wrap64 (1 + r2)) = 20 * (1 + r2) := by rw [w64 (x := 1 + r2) (by omega) (by omega), w64 (by omega) (by omega)]
  have e3 : wrap64 (Int.tdiv (wrap64 (r3 * 4)) 12) = r3 * 4 / 12 := by rw [w64 (x := r3 * 4) (by omega) (by omega), tdivp (by omega), w64 (by omega) (by omega)]
  have e4 : wrap64 (Int.tdiv (wrap64 (r4 * 4)) 12) = r4 * 4 / 12 := by rw [w64 (x := r4 * 4) (by omega) (by omega), tdivp (by omega), w64 (by omega) (by omega)]
  have g3 : 0 ≤ r3 * 4 / 12 ∧ r3 * 4 / 12 < 4 := by omega
  have g4 : 0 ≤ r4 * 4 / 12 ∧ r4 * 4 / 12 < 4 := by omega
  have h1 : (⟨#[120]⟩ : ByteArray).size = 1 := rfl
  refine ⟨rdOf ByteArray.empty [(⟨#[120]⟩ : ByteArray) ++ t, z1, (⟨#[]⟩ : ByteArray), z2] (r3 * 4 / 12), rd [3, 0, 63, 64] (r4 * 4 / 12), ?_, fun k hk => ?_⟩
  · refine rdS_le _ ?_ _
    intro a ha
    rcases List.mem_cons.1 ha with rfl | ha
    · rw [ByteArray.size_append, h1]
      omega
    rcases List.mem_cons.1 ha with rfl | ha
    · omega
    rcases List.mem_cons.1 ha with rfl | ha
    · exact Nat.zero_le _
    rcases List.mem_cons.1 ha with rfl | ha
    · omega
    exact absurd ha (by simp)
  · have k2 : 2 ≤ k := by omega
    have k10 : 10 < k := by omega
    have h105 := ck k (by omega)
    have e105 : ((105 : Nat) : Int) = 105 := rfl
    rw [e105] at h105
    have s1 : 1 + t.size ≤ 9223372036854775807 := by omega
    unfold spec_DrawSegCut.f
    refine bnd _ ho (bnd _ h105 ((if_pos s1).trans (bnd _ (c1 k k2) (bnd z1 (by rw [e1]; exact m1 k k10) (bnd _ (c2 k k2) (bnd z2 (by rw [e2]; exact m2 k k10) (bnd _ rfl (bnd _ (c3 k k2) ?_))))))))
    rw [e3]
    refine (if_pos g3.1).trans ((if_pos (by show _ < (4 : Int); exact g3.2)).trans (bnd _ rfl (bnd _ (c4 k k2) ?_)))
    rw [e4]
    exact (if_pos g4.1).trans ((if_pos (by show _ < (4 : Int); exact g4.2)).trans rfl)
theorem cut_left (a b : ByteArray) (n : Nat) (h : a.size = n) : (a ++ b).extract 0 n = a := ByteArray.extract_append_eq_left h.symm
theorem cut_right (a b : ByteArray) (n : Nat) (h : a.size = n) : (a ++ b).extract n (a ++ b).size = b := ByteArray.extract_append_eq_right h.symm ByteArray.size_append
/-- Part i. -/
def part (t : ByteArray) (via : Int) (i : Nat) : ByteArray := HSegCut.one (HSegCut.mark t (20 * i) + via) ++ HSegCut.text t (20 * i)
theorem cut_get (t : ByteArray) (via : Int) (i : Nat) (h : i < HSegCut.count t) : rdOf ByteArray.empty (HSegCut.cut t via) (i : Int) = part t via i := by
  have e : (HSegCut.cut t via)[i]? = some (part t via i) := by
    unfold HSegCut.cut HSegCut.outOf HSegCut.pieces HSegCut.upto
    rw [List.getElem?_map, List.getElem?_map, List.getElem?_range h]
    rfl
  unfold rdOf
  rw [List.getD_eq_getElem?_getD, Int.toNat_natCast, e]
  rfl
theorem cut_len (t : ByteArray) (via : Int) : (HSegCut.cut t via).length = HSegCut.count t := by
  unfold HSegCut.cut HSegCut.pieces
  rw [HSegCut.outOf_len, HSegCut.upto_len]
theorem part_bt (t : ByteArray) (via : Int) (i : Nat) (v0 : 0 ≤ via) (v1 : via ≤ 63) : bt (part t via i) 0 = HSegCut.mark t (20 * i) + via := by
  have hm := HSegCut.mark_rng t (20 * i)
  have h := bt_left (HSegCut.one (HSegCut.mark t (20 * i) + via)) (HSegCut.text t (20 * i)) 0 (by show 0 < 1; decide)
  have h2 : bt (HSegCut.one (HSegCut.mark t (20 * i) + via)) ((0 : Nat) : Int) = (HSegCut.mark t (20 * i) + via) % 256 := by
    unfold HSegCut.one
    rw [bt_str (fun y hy => by
      rw [List.mem_singleton] at hy
      rw [hy]
      omega)]
    rfl
  have h3 : bt (part t via i) 0 = (HSegCut.mark t (20 * i) + via) % 256 := h.trans h2
  rw [h3]
  omega
theorem part_tail (t : ByteArray) (via : Int) (i : Nat) : (part t via i).extract 1 (part t via i).size = HSegCut.text t (20 * i) := cut_right _ _ 1 rfl
theorem part_size (t : ByteArray) (via : Int) (i : Nat) (h : 20 * i < t.size) : 2 ≤ (part t via i).size ∧ (part t via i).size ≤ 21 := by
  have h1 := HSegCut.text_size t (20 * i)
  have h2 : (part t via i).size = 1 + (HSegCut.text t (20 * i)).size := ByteArray.size_append
  have h3 : 1 ≤ (HSegCut.text t (20 * i)).size := by
    unfold HSegCut.text
    rw [ByteArray.size_extract]
    split <;> omega
  omega
theorem text_last {t : ByteArray} {i : Nat} (h : t.size ≤ 20 * i + 20) : HSegCut.text t (20 * i) = t.extract (20 * i) t.size := by unfold HSegCut.text; rw [if_pos h]
theorem text_mid {t : ByteArray} {i : Nat} (h : ¬ t.size ≤ 20 * i + 20) : HSegCut.text t (20 * i) = t.extract (20 * i) (20 * (i + 1)) := by unfold HSegCut.text; rw [if_neg h]; rfl
theorem mark_at (t : ByteArray) (via : Int) (i : Nat) (v0 : 0 ≤ via) (v1 : via ≤ 63) : (HSegCut.mark t (20 * i) + via) % 64 = via ∧ decide (((HSegCut.mark t (20 * i) + via) / 64).tmod 2 = 1) = decide (i = 0) ∧ decide ((HSegCut.mark t (20 * i) + via) / 64 ≥ 2) = decide (t.size ≤ 20 * i + 20) := by
  have key : ∃ m : Int, HSegCut.mark t (20 * i) = 64 * m ∧ (m = 0 ∨ m = 1 ∨ m = 2 ∨ m = 3) ∧ (m % 2 = 1 ↔ i = 0) ∧ (m ≥ 2 ↔ t.size ≤ 20 * i + 20) := by
    unfold HSegCut.mark
    by_cases h0 : i = 0 <;> by_cases h2 : t.size ≤ 20 * i + 20
    · exact ⟨3, by rw [if_pos (by omega), if_pos h2]; rfl, by omega, by omega, by omega⟩
    · exact ⟨1, by rw [if_pos (by omega), if_neg h2]; rfl, by omega, by omega, by omega⟩
    · exact ⟨2, by rw [if_neg (by omega), if_pos h2]; rfl, by omega, by omega, by omega⟩
    · exact ⟨0, by rw [if_neg (by omega), if_neg h2]; rfl, by omega, by omega, by omega⟩
  obtain ⟨m, hm, hm4, h0, h2⟩ := key
  rw [hm]
  have hd : (64 * m + via) / 64 = m := by omega
  have ht : m.tmod 2 = m % 2 := tmodp (by omega)
  rw [hd, ht]
  refine ⟨by omega, ?_, ?_⟩
  · by_cases h : i = 0
    · rw [decide_eq_true h, decide_eq_true (h0.2 h)]
    · rw [decide_eq_false h, decide_eq_false (fun c => h (h0.1 c))]
  · by_cases h : t.size ≤ 20 * i + 20
    · rw [decide_eq_true h, decide_eq_true (h2.2 h)]
    · rw [decide_eq_false h, decide_eq_false (fun c => h (h2.1 c))]
/-- What came ahead of part i. -/
def st (t : ByteArray) (i : Nat) : ByteArray := if i = 0 then (⟨#[108, 101, 102, 116]⟩ : ByteArray) else t.extract 0 (20 * i)
theorem empty_toList : (⟨#[]⟩ : ByteArray).toList = [] := ByteArray.toList_eq _
theorem toList_inj {a b : ByteArray} (h : a.toList = b.toList) : a = b := by
  rw [ByteArray.toList_eq, ByteArray.toList_eq] at h
  apply ByteArray.ext
  exact Array.toList_inj.1 h
theorem st_ok (t : ByteArray) (i : Nat) (ht : t.size ≤ 106) : joinOk true (st t i) = true := by
  have h : (st t i).size ≤ 106 := by
    unfold st
    split
    · show 4 ≤ 106
      decide
    · rw [ByteArray.size_extract]
      omega
  unfold joinOk
  rw [decide_eq_true (by omega)]
  rfl
theorem came_at (t : ByteArray) (via : Int) (i : Nat) : HSeg.came (decide (i = 0)) (st t i) (part t via i) = t.extract 0 (20 * i) ++ HSegCut.text t (20 * i) := by
  unfold HSeg.came st
  rw [part_tail]
  by_cases h : i = 0
  · rw [decide_eq_true h, if_pos rfl, h]
    have e : t.extract 0 (20 * 0) = (⟨#[]⟩ : ByteArray) := by
      apply ByteArray.ext
      apply Array.eq_empty_of_size_eq_zero
      show (t.extract 0 (20 * 0)).size = 0
      rw [ByteArray.size_extract]
      omega
    rw [e]
  · rw [decide_eq_false h, if_neg (by decide), if_neg h]
theorem hear_round (t : ByteArray) (via : Int) (i : Nat) (ht : t.size ≤ 106) (v0 : 0 ≤ via) (v1 : via ≤ 63) (h : 20 * i < t.size) :
    segHear true (st t i) (part t via i) via = if t.size ≤ 20 * i + 20 then (false, (⟨#[]⟩ : ByteArray), t) else (true, t.extract 0 (20 * (i + 1)), (⟨#[]⟩ : ByteArray)) := by
  obtain ⟨s1, s2⟩ := part_size t via i h
  obtain ⟨m1, m2, m3⟩ := mark_at t via i v0 v1
  have hb := part_bt t via i v0 v1
  unfold segHear
  rw [st_ok t i ht, if_pos rfl, if_neg (by omega), hb, m1, if_pos rfl, m2, m3]
  unfold HSeg.hearV
  rw [Bool.true_or, if_pos rfl, came_at]
  by_cases hl : t.size ≤ 20 * i + 20
  · have e : t.extract 0 (20 * i) ++ HSegCut.text t (20 * i) = t := by
      rw [text_last hl, ← ByteArray.extract_eq_extract_append_extract (20 * i) (by omega) (by omega)]
      exact ByteArray.extract_zero_size
    rw [e, if_pos ht, if_pos (decide_eq_true hl), if_pos hl]
  · have e : t.extract 0 (20 * i) ++ HSegCut.text t (20 * i) = t.extract 0 (20 * (i + 1)) := by
      rw [text_mid hl, ← ByteArray.extract_eq_extract_append_extract (20 * i) (by omega) (by omega)]
    have hs : (t.extract 0 (20 * (i + 1))).size ≤ 106 := by rw [ByteArray.size_extract]; omega
    rw [e, if_pos hs, if_neg (by simpa using hl), if_neg hl]
theorem ne_empty {t : ByteArray} (h : 1 ≤ t.size) : ¬ t.toList = ([] : List UInt8) := by
  rw [ByteArray.toList_eq]
  intro e
  have h3 : t.data.size = 0 := by
    have := congrArg List.length e
    simpa using this
  have : t.size = t.data.size := rfl
  omega
theorem loop_at (t : ByteArray) (via : Int) (ht : t.size ≤ 106) (v0 : 0 ≤ via) (v1 : via ≤ 63) (d : Nat) : ∀ (k i : Nat), d + 3 ≤ k → i + (d + 1) = HSegCut.count t →
    laws_FnSegBack.l0 k t via (HSegCut.cut t via) (i : Int) true (st t i) = some true := by
  induction d with
  | zero =>
    intro k i hk hi
    obtain ⟨k, rfl⟩ : ∃ m, k = m + 1 + 1 := ⟨k - 2, by omega⟩
    have hc : HSegCut.count t = (t.size + 19) / 20 := rfl
    have h1 : 20 * i < t.size := by omega
    have h2 : t.size ≤ 20 * i + 20 := by omega
    have hr := hear_round t via i ht v0 v1 h1
    rw [if_pos h2] at hr
    obtain ⟨s1, s2⟩ := part_size t via i h1
    have hl := cut_len t via
    have ew : wrap64 ((i : Int) + 1) = ((i + 1 : Nat) : Int) := by rw [w64 (by omega) (by omega)]; omega
    have g1 : (i : Int) < ((HSegCut.cut t via).length : Int) := by omega
    have g2 : 0 ≤ (i : Int) := by omega
    have g3 : ¬ ((part t via i).size : Int) > 21 := by omega
    have g4 : (((i + 1 : Nat) : Int) == ((HSegCut.cut t via).length : Int)) = true := beq_iff_eq.mpr (by omega)
    have g5 : (t.toList != ([] : List UInt8)) = true := bne_iff_ne.mpr (ne_empty (by omega))
    have g6 : ¬ (((i + 1 : Nat) : Int) < ((HSegCut.cut t via).length : Int)) := by omega
    have e1 : wrap64 (Int.tdiv (wrap64 (wrap64 ((t.size : Int) + 20) - 1)) 20) = ((i + 1 : Nat) : Int) := by
      rw [w64 (x := (t.size : Int) + 20) (by omega) (by omega), w64 (x := (t.size : Int) + 20 - 1) (by omega) (by omega), tdivp (by omega), w64 (by omega) (by omega)]
      omega
    rw [laws_FnSegBack.l0, if_pos g1, if_pos g2, cut_get t via i (by omega)]
    refine bnd _ ((implSeg_at true (st t i) (part t via i) via).trans (congrArg some hr)) ?_
    refine (if_neg g3).trans ?_
    rw [ew]
    have gt : ¬ t.toList = ([] : List UInt8) := ne_empty (by omega)
    have gz : ((HSegCut.cut t via).length : Int) = ((i + 1 : Nat) : Int) := by omega
    show (if ((t.toList != ([] : List UInt8)) != (((i + 1 : Nat) : Int) == ((HSegCut.cut t via).length : Int))) = true then some false else (if t.toList = ([] : List UInt8) then laws_FnSegBack.l0 (k + 1) t via (HSegCut.cut t via) ((i + 1 : Nat) : Int) false (⟨#[]⟩ : ByteArray) else (if t.toList = t.toList then laws_FnSegBack.l0 (k + 1) t via (HSegCut.cut t via) ((i + 1 : Nat) : Int) false (⟨#[]⟩ : ByteArray) else some false))) = some true
    rw [g4, g5, if_neg (by decide), if_neg gt, if_pos rfl, laws_FnSegBack.l0, if_neg g6, if_neg (by decide), if_pos empty_toList, e1]
    exact congrArg some (beq_iff_eq.mpr gz)
  | succ d ih =>
    intro k i hk hi
    obtain ⟨k, rfl⟩ : ∃ m, k = m + 1 := ⟨k - 1, by omega⟩
    have hc : HSegCut.count t = (t.size + 19) / 20 := rfl
    have h1 : 20 * i < t.size := by omega
    have h2 : ¬ t.size ≤ 20 * i + 20 := by omega
    have hr := hear_round t via i ht v0 v1 h1
    rw [if_neg h2] at hr
    obtain ⟨s1, s2⟩ := part_size t via i h1
    have hl := cut_len t via
    have ew : wrap64 ((i : Int) + 1) = ((i + 1 : Nat) : Int) := by rw [w64 (by omega) (by omega)]; omega
    have g1 : (i : Int) < ((HSegCut.cut t via).length : Int) := by omega
    have g2 : 0 ≤ (i : Int) := by omega
    have g3 : ¬ ((part t via i).size : Int) > 21 := by omega
    have g4 : (((i + 1 : Nat) : Int) == ((HSegCut.cut t via).length : Int)) = false := beq_eq_false_iff_ne.mpr (by omega)
    have g5 : ((⟨#[]⟩ : ByteArray).toList != ([] : List UInt8)) = false := by rw [empty_toList]; rfl
    have hst : t.extract 0 (20 * (i + 1)) = st t (i + 1) := (if_neg (by omega)).symm
    have ih' := ih k (i + 1) (by omega) (by omega)
    rw [laws_FnSegBack.l0, if_pos g1, if_pos g2, cut_get t via i (by omega)]
    refine bnd _ ((implSeg_at true (st t i) (part t via i) via).trans (congrArg some hr)) ?_
    refine (if_neg g3).trans ?_
    rw [ew]
    show (if (((⟨#[]⟩ : ByteArray).toList != ([] : List UInt8)) != (((i + 1 : Nat) : Int) == ((HSegCut.cut t via).length : Int))) = true then some false else (if (⟨#[]⟩ : ByteArray).toList = ([] : List UInt8) then laws_FnSegBack.l0 k t via (HSegCut.cut t via) ((i + 1 : Nat) : Int) true (t.extract 0 (20 * (i + 1))) else (if (⟨#[]⟩ : ByteArray).toList = t.toList then laws_FnSegBack.l0 k t via (HSegCut.cut t via) ((i + 1 : Nat) : Int) true (t.extract 0 (20 * (i + 1))) else some false))) = some true
    rw [g4, g5, if_neg (by decide), if_pos empty_toList, hst]
    exact ih'
end FnSegBackL
open FnSegBackL

theorem FnSegBack : laws_FnSegBack.Pure := by
  intro l h0 h1 hw
  refine ⟨1000, ?_⟩
  unfold laws_FnSegBack.f
  by_cases c : (l.length : Int) > 1048576
  · rw [if_pos c]
  rw [if_neg c]
  obtain ⟨t, via, hz, hd⟩ := drawSegCut l (by omega) hw
  have hl := segCut_len t via
  have hs := specCut_at 1000 (by decide) t via (by omega)
  have hs9 := specCut_at 999 (by decide) t via (by omega)
  have hi := implCut_at 1000 (by decide) t via
  have he := skTexts_at 1000 (segCut t via) (by omega) (by omega)
  have he9 := skTexts_at 999 (segCut t via) (by omega) (by omega)
  refine bnd _ (hd 1000 (by decide)) (bnd _ hi (bnd _ hs (bnd _ he ((if_pos rfl).trans ?_))))
  show laws_FnSegBack.j0 (999 + 1) t via (segCut t via) (((segCut t via).length : Int) == 0) = some true
  by_cases h : t.size ≤ 106 ∧ 0 ≤ via ∧ via ≤ 63
  · have hA : segCut t via = HSegCut.cut t via := if_pos h
    by_cases h0 : t.size = 0
    · have e : (((segCut t via).length : Int) == 0) = true := by
        rw [hA, cut_len]
        unfold HSegCut.count
        rw [h0]
        rfl
      rw [e, laws_FnSegBack.j0, if_pos rfl]
      exact bnd _ hs9 (bnd _ he9 rfl)
    · have hc : HSegCut.count t = (t.size + 19) / 20 := rfl
      have e : (((segCut t via).length : Int) == 0) = false := by
        rw [hA, cut_len]
        exact beq_eq_false_iff_ne.mpr (by omega)
      rw [e, laws_FnSegBack.j0, if_neg (by decide), hA]
      exact loop_at t via h.1 h.2.1 h.2.2 (HSegCut.count t - 1) 999 0 (by omega) (by omega)
  · have hA : segCut t via = [] := if_neg h
    have e : (((segCut t via).length : Int) == 0) = true := by rw [hA]; rfl
    rw [e, laws_FnSegBack.j0, if_pos rfl]
    exact bnd _ hs9 (bnd _ he9 rfl)

end Go.Proofs.YtondhdiipaijiaaDoor.Pure
