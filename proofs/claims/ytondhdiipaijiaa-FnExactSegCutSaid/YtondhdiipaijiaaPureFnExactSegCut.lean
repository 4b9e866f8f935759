/- FnExactSegCut: the program's SegCut and the reference's answer alike, and the program's answer is its own memory. No conditions but that the number is an int and the text is such as a machine holds. -/
import Derived.Test.YtondhdiipaijiaaPFnExactSegCutx4
import Derived.Test.YtondhdiipaijiaaAux
namespace Go.Proofs.Ytondhdiipaijiaa.Pure
open Go Go.RowKit Go.Proofs.Ytondhdiipaijiaa.PFnExactSegCut Go.Proofs.YtondhdiipaijiaaW.PrintWords Go.Proofs.YtondhdiipaijiaaW.PrintLast Go.Proofs.YtondhdiipaijiaaW.PrintMore Go.Proofs.Ytondhdiipaijiaa.Aux

namespace FnExactSegCutL
theorem up {i n : Nat} (h : i < n ∧ n ≤ 9223372036854775807) : wrap64 ((i : Int) + 1) = ((i + 1 : Nat) : Int) := by rw [w64 (by omega) (by omega)]; omega
theorem bnd {α β : Type} {o : Option α} {f : α → Option β} {b : β} (a : α) (h : o = some a) (h2 : f a = some b) : o.bind f = some b := Option.bind_eq_some_iff.2 ⟨a, h, h2⟩
theorem l1In_at (a b c : Int) : spec_l1In.f a b c = some (decide (b ≤ a ∧ a ≤ c)) := by
  unfold spec_l1In.f
  by_cases h : b ≤ a
  · rw [if_pos h]
    simp [h]
  · rw [if_neg h]
    simp [h]
theorem l1Put_l0 (d : Nat) : ∀ (k : Nat) (n size i : Int) (out : ByteArray), d < k → 0 ≤ n → n ≤ 9223372036854775807 → 0 ≤ i → size ≤ 4 → size - i = d → out.size ≤ 4 - d →
    spec_l1Put.l0 k n size out i = some (strOfNums (be d n) ++ out) := by
  induction d with
  | zero =>
    intro k n size i out hk h0 h1 hi hs hd ho
    obtain ⟨k, rfl⟩ : ∃ m, k = m + 1 := ⟨k - 1, by omega⟩
    simp only [spec_l1Put.l0]
    rw [if_neg (by omega)]
    show some out = some ((⟨#[]⟩ : ByteArray) ++ out)
    rw [str_nil_append]
  | succ d ih =>
    intro k n size i out hk h0 h1 hi hs hd ho
    obtain ⟨k, rfl⟩ : ∃ m, k = m + 1 := ⟨k - 1, by omega⟩
    have hsz : (strOfNums [(Int.tmod n 256) % 256]).size = 1 := by rw [strOfNums_size]; rfl
    simp only [spec_l1Put.l0]
    rw [if_pos (by omega)]
    simp only [Option.bind_some]
    rw [if_pos (by omega), w64 (x := i + 1) (by omega) (by omega), tdivp h0, w64 (x := n / 256) (by omega) (by omega)]
    rw [ih _ _ _ _ _ (by omega) (by omega) (by omega) (by omega) hs (by omega) (by rw [ByteArray.size_append]; omega)]
    have e : (Int.tmod n 256) % 256 = n % 256 := by rw [tmodp h0]; omega
    rw [e, be, strOfNums_append, ByteArray.append_assoc]
theorem l1Put_at (k : Nat) (hk : 5 ≤ k) (n size : Int) (h0 : 0 ≤ n) (h1 : n ≤ 9223372036854775807) (hs0 : 0 ≤ size) (hs : size ≤ 4) :
    spec_l1Put.f k n size = some (strOfNums (be size.toNat n)) := by
  unfold spec_l1Put.f
  rw [l1Put_l0 size.toNat k n size 0 _ (by omega) h0 h1 (by omega) hs (by omega) (by show 0 ≤ _; omega), str_append_nil]
theorem implPut_l0 (d : Nat) : ∀ (k : Nat) (n : Int) (xs : List Int), d < k → 0 ≤ n → n ≤ 9223372036854775807 → d ≤ xs.length → xs.length ≤ 4 →
    impl_NumPut.l0 k n xs ((d : Int) - 1) = some (strOfNums (be d n ++ xs.drop d)) := by
  induction d with
  | zero =>
    intro k n xs hk h0 h1 hd hx
    obtain ⟨k, rfl⟩ : ∃ m, k = m + 1 := ⟨k - 1, by omega⟩
    simp only [impl_NumPut.l0]
    rw [if_neg (by omega)]
    simp [be]
  | succ d ih =>
    intro k n xs hk h0 h1 hd hx
    obtain ⟨k, rfl⟩ : ∃ m, k = m + 1 := ⟨k - 1, by omega⟩
    simp only [impl_NumPut.l0]
    have e1 : ((d + 1 : Nat) : Int) - 1 = d := by omega
    rw [e1, if_pos (by omega), if_pos (by omega), if_pos (by omega), and255 h0 (by omega), w64 (x := (d : Int) - 1) (by omega) (by omega)]
    have e2 : ((d : Int)).toNat = d := by omega
    rw [e2, ih _ _ _ (by omega) (by omega) (by omega) (by rw [List.length_set]; omega) (by rw [List.length_set]; omega)]
    have hl : d < (xs.set d (n % 256 % 256)).length := by rw [List.length_set]; omega
    rw [List.drop_eq_getElem_cons hl, List.getElem_set_self, List.drop_set_of_lt (by omega)]
    have e3 : n % 256 % 256 = n % 256 := by omega
    rw [e3, be, List.append_assoc]
    rfl
theorem implPut_at (k : Nat) (hk : 7 ≤ k) (n size : Int) (h1 : n ≤ 9223372036854775807) : impl_NumPut.f k n size = some (numPut n size) := by
  obtain ⟨k, rfl⟩ : ∃ m, k = m + 1 := ⟨k - 1, by omega⟩
  have j0t : ∀ a0 a1, impl_NumPut.j0 (k + 1) a0 a1 true = some (⟨#[]⟩ : ByteArray) := fun a0 a1 => by simp only [impl_NumPut.j0, if_true]
  unfold impl_NumPut.f numPut
  by_cases ha : size < 1
  · rw [if_pos ha, j0t, if_neg (by omega)]
  rw [if_neg ha]
  by_cases hb : size > 4
  · rw [if_pos hb, j0t, if_neg (by omega)]
  rw [if_neg hb]
  by_cases hc : n < 0
  · rw [if_pos hc, j0t, if_neg (by omega)]
  rw [if_neg hc, if_pos (by rw [w64 (by omega) (by omega)]; omega)]
  have hs : shr .i64 n (wrap64 (8 * size)) = n / 256 ^ size.toNat := by
    have h : size = 1 ∨ size = 2 ∨ size = 3 ∨ size = 4 := by omega
    unfold shr
    rcases h with rfl | rfl | rfl | rfl <;> exact congrArg (fun m => n / m) (by decide +kernel)
  have hp : (0 : Int) < 256 ^ size.toNat := Int.pow_pos (by decide)
  rw [hs]
  by_cases h : n < 256 ^ size.toNat
  · rw [if_pos ⟨by omega, by omega, by omega, h⟩, Int.ediv_eq_zero_of_lt (by omega) h]
    simp only [impl_NumPut.j0, bne_self_eq_false, Bool.false_eq_true, if_false]
    rw [if_pos (by omega), if_pos (by omega), w64 (by omega) (by omega)]
    have e : size - 1 = ((size.toNat : Nat) : Int) - 1 := by omega
    rw [e, implPut_l0 size.toNat k n _ (by omega) (by omega) h1 (by rw [List.length_replicate]; omega) (by rw [List.length_replicate]; omega)]
    rw [List.drop_eq_nil_of_le (by rw [List.length_replicate]; omega), List.append_nil]
  · have h2 : 1 ≤ n / 256 ^ size.toNat := Int.le_ediv_of_mul_le hp (by omega)
    have h3 : (n / 256 ^ size.toNat != 0) = true := by simp; omega
    rw [h3, j0t, if_neg (by omega)]
theorem rounds {m k : Nat} (h : m < k) : ∃ q, k = q + 1 := ⟨k - 1, by omega⟩
theorem cut_snoc (t : ByteArray) (via : Int) (j : Nat) : HSegCut.outOf via (HSegCut.upto t (j + 1)) = HSegCut.outOf via (HSegCut.upto t j) ++ [HSegCut.one (HSegCut.mark t (20 * j) + via) ++ HSegCut.text t (20 * j)] := by
  rw [HSegCut.upto_succ, HSegCut.outOf_snoc]
  rfl
theorem put_one (k : Nat) (hk : 5 ≤ k) (x y : Int) (e : wrap64 x = y) (h0 : 0 ≤ y) (h1 : y ≤ 255) : spec_l1Put.f k (wrap64 x) 1 = some (HSegCut.one y) := by
  rw [e, l1Put_at k hk y 1 h0 (by omega) (by decide) (by decide)]
  rfl
theorem mark_00 {t : ByteArray} {a : Nat} (h0 : a = 0) (h2 : t.size ≤ a + 20) : HSegCut.mark t a = 192 := by unfold HSegCut.mark; rw [if_pos h0, if_pos h2]; rfl
theorem mark_01 {t : ByteArray} {a : Nat} (h0 : a = 0) (h2 : ¬ t.size ≤ a + 20) : HSegCut.mark t a = 64 := by unfold HSegCut.mark; rw [if_pos h0, if_neg h2]; rfl
theorem mark_10 {t : ByteArray} {a : Nat} (h0 : ¬ a = 0) (h2 : t.size ≤ a + 20) : HSegCut.mark t a = 128 := by unfold HSegCut.mark; rw [if_neg h0, if_pos h2]; rfl
theorem mark_11 {t : ByteArray} {a : Nat} (h0 : ¬ a = 0) (h2 : ¬ t.size ≤ a + 20) : HSegCut.mark t a = 0 := by unfold HSegCut.mark; rw [if_neg h0, if_neg h2]; rfl
theorem spec_step (k j : Nat) (hk : 5 ≤ k) (t : ByteArray) (via : Int) (ht : t.size ≤ 106) (v0 : 0 ≤ via) (v1 : via ≤ 63) (hj : 20 * j < t.size) :
    spec_SegCut.l0 (k + 1) t via (HSegCut.outOf via (HSegCut.upto t j)) ((20 * j : Nat) : Int) = spec_SegCut.l0 k t via (HSegCut.outOf via (HSegCut.upto t (j + 1))) ((20 * (j + 1) : Nat) : Int) := by
  have e1 : wrap64 (((20 * j : Nat) : Int) + 20) = ((20 * (j + 1) : Nat) : Int) := by rw [w64 (by omega) (by omega)]; omega
  have g1 : ((20 * j : Nat) : Int) < (t.size : Int) := by omega
  have g2 : 0 ≤ ((20 * j : Nat) : Int) := by omega
  have g3 : ((20 * j : Nat) : Int) ≤ (t.size : Int) := by omega
  have g4 : ((20 * j : Nat) : Int) ≤ ((20 * (j + 1) : Nat) : Int) := by omega
  have hl : (HSegCut.outOf via (HSegCut.upto t j)).length < 8796093022208 := by rw [HSegCut.outOf_len, HSegCut.upto_len]; omega
  have hz : ∀ y : Int, ∀ b c : Nat, (HSegCut.one y).size + (t.extract b c).size ≤ 9223372036854775807 := fun y b c => by
    show 1 + _ ≤ _
    rw [ByteArray.size_extract]
    omega
  rw [cut_snoc]
  generalize hA : HSegCut.outOf via (HSegCut.upto t j) = A at hl ⊢
  simp only [spec_SegCut.l0]
  rw [if_pos g1, e1]
  by_cases h2 : t.size ≤ 20 * j + 20
  · have c2 : ((20 * (j + 1) : Nat) : Int) ≥ (t.size : Int) := by omega
    have ht2 : HSegCut.text t (20 * j) = t.extract (20 * j) t.size := by unfold HSegCut.text; rw [if_pos h2]
    by_cases h0 : 20 * j = 0
    · have c0 : ((20 * j : Nat) : Int) = 0 := by omega
      rw [if_pos c0, if_pos c2, put_one k hk _ (192 + via) (by rw [w64 (by omega) (by omega)]; rfl) (by omega) (by omega)]
      simp only [Option.bind_some]
      rw [if_pos g2, if_pos g3, if_pos (Int.le_refl _), Int.toNat_natCast, Int.toNat_natCast, if_pos (hz _ _ _), if_pos hl, mark_00 h0 h2, ht2]
    · have c0 : ¬ ((20 * j : Nat) : Int) = 0 := by omega
      rw [if_neg c0, if_pos c2, put_one k hk _ (128 + via) (by rw [w64 (by omega) (by omega)]; rfl) (by omega) (by omega)]
      simp only [Option.bind_some]
      rw [if_pos g2, if_pos g3, if_pos (Int.le_refl _), Int.toNat_natCast, Int.toNat_natCast, if_pos (hz _ _ _), if_pos hl, mark_10 h0 h2, ht2]
  · have c2 : ¬ ((20 * (j + 1) : Nat) : Int) ≥ (t.size : Int) := by omega
    have g5 : ((20 * (j + 1) : Nat) : Int) ≤ (t.size : Int) := by omega
    have ht2 : HSegCut.text t (20 * j) = t.extract (20 * j) (20 * (j + 1)) := by unfold HSegCut.text; rw [if_neg h2]; rfl
    by_cases h0 : 20 * j = 0
    · have c0 : ((20 * j : Nat) : Int) = 0 := by omega
      rw [if_pos c0, if_neg c2, put_one k hk _ (64 + via) (by rw [w64 (by omega) (by omega)]; rfl) (by omega) (by omega)]
      simp only [Option.bind_some]
      rw [if_pos g2, if_pos g4, if_pos g5, Int.toNat_natCast, Int.toNat_natCast, if_pos (hz _ _ _), if_pos hl, mark_01 h0 h2, ht2]
    · have c0 : ¬ ((20 * j : Nat) : Int) = 0 := by omega
      rw [if_neg c0, if_neg c2, put_one k hk _ (0 + via) (by rw [w64 (by omega) (by omega)]; rfl) (by omega) (by omega)]
      simp only [Option.bind_some]
      rw [if_pos g2, if_pos g4, if_pos g5, Int.toNat_natCast, Int.toNat_natCast, if_pos (hz _ _ _), if_pos hl, mark_11 h0 h2, ht2]
theorem specCut_l0 (d : Nat) : ∀ (k j : Nat) (t : ByteArray) (via : Int), d + 6 ≤ k → t.size ≤ 106 → 0 ≤ via → via ≤ 63 → j + d = HSegCut.count t →
    spec_SegCut.l0 k t via (HSegCut.outOf via (HSegCut.upto t j)) ((20 * j : Nat) : Int) = some (HSegCut.cut t via) := by
  induction d with
  | zero =>
    intro k j t via hk ht v0 v1 hj
    obtain ⟨k, rfl⟩ : ∃ m, k = m + 1 := ⟨k - 1, by omega⟩
    have hc : ¬ ((20 * j : Nat) : Int) < (t.size : Int) := by unfold HSegCut.count at hj; omega
    simp only [spec_SegCut.l0]
    rw [if_neg hc]
    unfold HSegCut.cut HSegCut.pieces
    rw [← hj]
    rfl
  | succ d ih =>
    intro k j t via hk ht v0 v1 hj
    obtain ⟨k, rfl⟩ : ∃ m, k = m + 1 := ⟨k - 1, by omega⟩
    have hc : 20 * j < t.size := by unfold HSegCut.count at hj; omega
    rw [spec_step k j (by omega) t via ht v0 v1 hc]
    exact ih k (j + 1) t via (by omega) ht v0 v1 (by omega)
/-- SegCut's answer, at any arguments. -/
def segCut (t : ByteArray) (via : Int) : List ByteArray := if t.size ≤ 106 ∧ 0 ≤ via ∧ via ≤ 63 then HSegCut.cut t via else []
theorem segCut_len (t : ByteArray) (via : Int) : (segCut t via).length ≤ 6 := by
  unfold segCut
  split
  · unfold HSegCut.cut HSegCut.pieces
    rw [HSegCut.outOf_len, HSegCut.upto_len]
    unfold HSegCut.count
    omega
  · exact Nat.zero_le _
theorem specCut_at (k : Nat) (hk : 20 ≤ k) (t : ByteArray) (via : Int) (ht : t.size ≤ 140737488351232) : spec_SegCut.f k t via = some (segCut t via) := by
  obtain ⟨k, rfl⟩ : ∃ m, k = m + 1 := ⟨k - 1, by omega⟩
  unfold spec_SegCut.f spec_l7Most.f segCut
  simp only [Option.bind_some, l1In_at]
  by_cases h1 : (1 : Int) ≤ (t.size : Int) ∧ (t.size : Int) ≤ 106
  · rw [if_pos (decide_eq_true h1)]
    simp only [spec_SegCut.j0]
    by_cases h2 : (0 : Int) ≤ via ∧ via ≤ 63
    · have hm : HSegCut.count t ≤ 6 := by unfold HSegCut.count; omega
      rw [decide_eq_true h2, if_neg (by decide), if_pos ⟨by omega, h2⟩]
      exact specCut_l0 (HSegCut.count t) k 0 t via (by omega) (by omega) h2.1 h2.2 (by omega)
    · rw [decide_eq_false h2, if_pos (by decide), if_neg (fun h => h2 h.2)]
  · rw [if_neg (by simpa using h1)]
    simp only [spec_SegCut.j0, if_true]
    by_cases h2 : t.size ≤ 106 ∧ 0 ≤ via ∧ via ≤ 63
    · rw [if_pos h2]
      have hz : HSegCut.count t = 0 := by unfold HSegCut.count; omega
      unfold HSegCut.cut HSegCut.pieces
      rw [hz]
      rfl
    · rw [if_neg h2]
theorem implCut_at (k : Nat) (hk : 7 ≤ k) (t : ByteArray) (via : Int) : impl_SegCut.f k t via = some (segCut t via) := by
  unfold impl_SegCut.f segCut
  have hn : ∀ n : Int, 0 ≤ n → n ≤ 255 → impl_NumPut.f k n 1 = some (HSegCut.one n) := fun n h0 h1 => by
    rw [implPut_at k hk n 1 (by omega)]
    unfold numPut
    rw [if_pos ⟨by decide, by decide, h0, by show n < 256; omega⟩]
    rfl
  by_cases h : t.size ≤ 106 ∧ 0 ≤ via ∧ via ≤ 63
  · rw [if_pos h, if_pos h, if_pos hn]
  · rw [if_neg h, if_neg h]
theorem eqStringS_l0 (d : Nat) : ∀ (k i : Nat) (l : List ByteArray), d < k → l.length ≤ 9223372036854775807 → i + d = l.length → laws_eqStringS.l0 k l l (i : Int) = some true := by
  induction d with
  | zero =>
    intro k i l hk hl hi
    obtain ⟨k, rfl⟩ : ∃ m, k = m + 1 := ⟨k - 1, by omega⟩
    simp only [laws_eqStringS.l0]
    rw [if_neg (by omega)]
  | succ d ih =>
    intro k i l hk hl hi
    obtain ⟨k, rfl⟩ : ∃ m, k = m + 1 := ⟨k - 1, by omega⟩
    simp only [laws_eqStringS.l0]
    rw [if_pos (by omega), if_pos (by omega), if_pos (by omega), if_pos trivial, up (n := l.length) (by omega)]
    exact ih k (i + 1) l (by omega) hl (by omega)
theorem eqStringS_at (k : Nat) (l : List ByteArray) (hk : l.length < k) (hl : l.length ≤ 9223372036854775807) : laws_eqStringS.f k l l = some true := by
  unfold laws_eqStringS.f
  rw [if_pos rfl]
  exact eqStringS_l0 l.length k 0 l hk hl (by omega)
theorem markText_l0 (m : Nat) : ∀ (n : Int) (s : ByteArray), n.toNat ≤ m → n ≤ 4611686018427387904 → s.size + n.toNat ≤ 4611686018427387904 → ∃ r, laws_markText.l0 (m + 1) n s = some r := by
  induction m with
  | zero =>
    intro n s hm h1 hs
    simp only [laws_markText.l0]
    rw [if_neg (by omega), if_pos (by omega)]
    exact ⟨_, rfl⟩
  | succ m ih =>
    intro n s hm h1 hs
    have hsz : (strOfNums [(wrap64 (48 + (Int.tmod n 10))) % 256]).size = 1 := by rw [strOfNums_size]; rfl
    rw [laws_markText.l0]
    by_cases h : n > 0
    · rw [if_pos h]
      simp only [Option.bind_some]
      rw [if_pos (by omega), tdivp (by omega), w64 (x := n / 10) (by omega) (by omega)]
      exact ih _ _ (by omega) (by omega) (by rw [ByteArray.size_append]; omega)
    · rw [if_neg h, if_pos (by omega)]
      exact ⟨_, rfl⟩
/-- The text that stands for a number in a mark. -/
def markT (n : Int) : ByteArray := (laws_markText.f (n.toNat + 1) n).getD ⟨#[]⟩
theorem markText_at (k : Nat) (n : Int) (hk : n.toNat + 1 ≤ k) (h1 : n ≤ 4611686018427387904) : laws_markText.f k n = some (markT n) := by
  refine at_rounds (laws_markText.mono n) hk ?_
  have h : ∃ r, laws_markText.f (n.toNat + 1) n = some r := by
    unfold laws_markText.f
    by_cases h : n ≤ 0
    · rw [if_pos h]
      exact ⟨_, rfl⟩
    · rw [if_neg h]
      exact markText_l0 n.toNat n _ (Nat.le_refl _) h1 (by show 0 + _ ≤ _; omega)
  obtain ⟨r, hr⟩ := h
  rw [markT, hr]
  rfl
theorem mark_all (d : Nat) : ∀ (k i : Nat) (l : List ByteArray), i + 2 * d + 6 ≤ k → l.length ≤ 1000 → i + d = l.length → (∀ j, j < i → l[j]? = some (markT (1 + (j : Int)))) →
    ∃ ys, laws_markStringS.l0 k l (1 + (i : Int)) (i : Int) = some (1 + (l.length : Int), ys) ∧ ys.length = l.length ∧ ∀ j, j < l.length → ys[j]? = some (markT (1 + (j : Int))) := by
  induction d with
  | zero =>
    intro k i l hk hl hi hj
    obtain ⟨k, rfl⟩ : ∃ m, k = m + 1 := ⟨k - 1, by omega⟩
    have e : i = l.length := by omega
    refine ⟨l, ?_, rfl, fun j h => hj j (by omega)⟩
    simp only [laws_markStringS.l0]
    rw [if_neg (by omega), e]
  | succ d ih =>
    intro k i l hk hl hi hj
    obtain ⟨k, rfl⟩ : ∃ m, k = m + 1 := ⟨k - 1, by omega⟩
    have e1 : wrap64 (1 + (i : Int) + 1) = 1 + ((i + 1 : Nat) : Int) := by rw [w64 (by omega) (by omega)]; omega
    have e2 : wrap64 ((i : Int) + 1) = ((i + 1 : Nat) : Int) := by rw [w64 (by omega) (by omega)]; omega
    obtain ⟨ys, h1, h2, h3⟩ := ih k (i + 1) (l.set i (markT (1 + (i : Int)))) (by omega) (by rw [List.length_set]; exact hl) (by rw [List.length_set]; omega) (fun j h => by
      by_cases e : i = j
      · subst e
        rw [List.getElem?_set_self (by omega)]
      · rw [List.getElem?_set_ne e]
        exact hj j (by omega))
    rw [List.length_set] at h1 h2 h3
    refine ⟨ys, ?_, h2, h3⟩
    simp only [laws_markStringS.l0]
    rw [if_pos (by omega), markText_at k (1 + (i : Int)) (by omega) (by omega)]
    simp only [Option.bind_some]
    rw [if_pos (by omega), Int.toNat_natCast, e1, e2]
    exact h1
theorem held_all (d : Nat) : ∀ (k i : Nat) (ys : List ByteArray), i + 2 * d + 6 ≤ k → ys.length ≤ 1000 → i + d = ys.length → (∀ j, j < ys.length → ys[j]? = some (markT (1 + (j : Int)))) →
    laws_heldStringS.l0 k ys (1 + (i : Int)) (i : Int) = some (1 + (ys.length : Int)) := by
  induction d with
  | zero =>
    intro k i l hk hl hi hj
    obtain ⟨k, rfl⟩ : ∃ m, k = m + 1 := ⟨k - 1, by omega⟩
    have e : i = l.length := by omega
    simp only [laws_heldStringS.l0]
    rw [if_neg (by omega), e]
  | succ d ih =>
    intro k i l hk hl hi hj
    obtain ⟨k, rfl⟩ : ∃ m, k = m + 1 := ⟨k - 1, by omega⟩
    have e1 : wrap64 (1 + (i : Int) + 1) = 1 + ((i + 1 : Nat) : Int) := by rw [w64 (by omega) (by omega)]; omega
    have e2 : wrap64 ((i : Int) + 1) = ((i + 1 : Nat) : Int) := by rw [w64 (by omega) (by omega)]; omega
    have hr : rdOf ByteArray.empty l (i : Int) = markT (1 + (i : Int)) := by
      unfold rdOf
      rw [List.getD_eq_getElem?_getD, Int.toNat_natCast, hj i (by omega)]
      rfl
    simp only [laws_heldStringS.l0]
    rw [if_pos (by omega), if_pos (by omega), markText_at k (1 + (i : Int)) (by omega) (by omega)]
    simp only [Option.bind_some]
    rw [hr, if_pos rfl, e1, e2]
    exact ih k (i + 1) l (by omega) hl (by omega) hj
/-- What was marked is held. -/
theorem mark_held (l : List ByteArray) (hl : l.length ≤ 1000) : ∃ ys, ∀ k, 2 * l.length + 6 ≤ k → laws_markStringS.f k l 1 = some (1 + (l.length : Int), ys) ∧ laws_heldStringS.f k ys 1 = some (1 + (l.length : Int)) := by
  obtain ⟨ys, h1, h2, h3⟩ := mark_all l.length (2 * l.length + 6) 0 l (by omega) hl (by omega) (fun j h => by omega)
  refine ⟨ys, fun k hk => ⟨?_, ?_⟩⟩
  · refine at_rounds (laws_markStringS.mono l 1) hk ?_
    exact h1
  · have h := held_all ys.length k 0 ys (by omega) (by omega) (by omega) (fun j hj => h3 j (by omega))
    rw [h2] at h
    exact h
end FnExactSegCutL
open FnExactSegCutL

theorem FnExactSegCut : laws_FnExactSegCut.Pure := by
  intro t via ht hw
  refine ⟨1000, ?_⟩
  unfold laws_FnExactSegCut.f
  by_cases c : (t.size : Int) > 1048576
  · rw [if_pos c]
  rw [if_neg c]
  have hl := segCut_len t via
  have hs := specCut_at 1000 (by decide) t via ht
  have hi := implCut_at 1000 (by decide) t via
  generalize segCut t via = A at hl hs hi
  have he := eqStringS_at 1000 A (by omega) (by omega)
  obtain ⟨ys, hm⟩ := mark_held A (by omega)
  obtain ⟨m1, m2⟩ := hm 1000 (by omega)
  refine bnd _ hs (bnd _ hi (bnd _ he ((if_pos rfl).trans (bnd _ m1 (bnd _ m2 ((if_neg (by omega)).trans ((if_pos rfl).trans (bnd _ hi (bnd _ he ((if_pos rfl).trans (bnd _ m2 ((if_neg (by omega)).trans (if_pos rfl)))))))))))))

end Go.Proofs.Ytondhdiipaijiaa.Pure
