/- FnExactFopAgain: the program's FopAgain and the reference's answer alike, the program's answer is its own memory. No conditions but that the numbers are ints and the texts are such as a machine holds. -/
import Derived.Test.YtlioeidipcdkcaaPFnExactFopAgainx7
import Derived.Test.YtlioeidipcdkcaaAux
namespace Go.Proofs.Ytlioeidipcdkcaa.Pure
open Go Go.RowKit Go.Proofs.Ytlioeidipcdkcaa.PFnExactFopAgain Go.Proofs.YtlioeidipcdkcaaW.PrintWords Go.Proofs.YtlioeidipcdkcaaW.PrintLast Go.Proofs.YtlioeidipcdkcaaW.PrintMore Go.Proofs.Ytlioeidipcdkcaa.Aux

namespace FnExactFopAgainL
theorem l1In_at (a b c : Int) : spec_l1In.f a b c = some (decide (b ≤ a ∧ a ≤ c)) := by
  unfold spec_l1In.f
  by_cases h : b ≤ a
  · rw [if_pos h]
    simp [h]
  · rw [if_neg h]
    simp [h]
theorem within_at (a c : Int) : impl_within.f a c = some (decide (0 ≤ a ∧ a ≤ c)) := by
  unfold impl_within.f
  by_cases h : 0 ≤ a
  · rw [if_pos h]
    simp [h]
  · rw [if_neg h]
    simp [h]
theorem frameDataOk_at (s : ByteArray) : impl_frameDataOk.f s = some (decide (1 ≤ (s.size : Int) ∧ (s.size : Int) ≤ 53)) := by
  unfold impl_frameDataOk.f
  by_cases h : 1 ≤ (s.size : Int)
  · rw [if_pos h]
    simp [h]
  · rw [if_neg h]
    simp [h]
/-- FrameOk's answer. -/
def frameOk (past govern : Bool) (craft via seq : Int) (s : ByteArray) : Bool :=
  decide (0 ≤ craft ∧ craft ≤ 1023) && (decide (0 ≤ via ∧ via ≤ 63) && (decide (0 ≤ seq ∧ seq ≤ 255) && (decide (1 ≤ (s.size : Int) ∧ (s.size : Int) ≤ 53) && (past || !govern))))
theorem specFrameOk_at (past govern : Bool) (craft via seq : Int) (s : ByteArray) : spec_FrameOk.f past govern craft via seq s = some (frameOk past govern craft via seq s) := by
  simp only [spec_FrameOk.f, l1In_at, Option.bind_some, frameOk]
  generalize decide (0 ≤ craft ∧ craft ≤ 1023) = b1
  generalize decide (0 ≤ via ∧ via ≤ 63) = b2
  generalize decide (0 ≤ seq ∧ seq ≤ 255) = b3
  generalize decide (1 ≤ (s.size : Int) ∧ (s.size : Int) ≤ 53) = b4
  cases b1 <;> cases b2 <;> cases b3 <;> cases b4 <;> cases past <;> cases govern <;> rfl
theorem implFrameOk_at (past govern : Bool) (craft via seq : Int) (s : ByteArray) : impl_FrameOk.f past govern craft via seq s = some (frameOk past govern craft via seq s) := by
  simp only [impl_FrameOk.f, within_at, frameDataOk_at, Option.bind_some, frameOk]
  generalize decide (0 ≤ craft ∧ craft ≤ 1023) = b1
  generalize decide (0 ≤ via ∧ via ≤ 63) = b2
  generalize decide (0 ≤ seq ∧ seq ≤ 255) = b3
  generalize decide (1 ≤ (s.size : Int) ∧ (s.size : Int) ≤ 53) = b4
  cases b1 <;> cases b2 <;> cases b3 <;> cases b4 <;> cases past <;> cases govern <;> rfl
theorem up {i : Nat} (h : i < 9223372036854775807) : wrap64 ((i : Int) + 1) = ((i + 1 : Nat) : Int) := by
  rw [w64 (by omega) (by omega)]
  omega
theorem rdOf_at {α : Type} (d : α) (l : List α) (i : Nat) (h : i < l.length) : rdOf d l (i : Int) = l[i] := by
  unfold rdOf
  rw [Int.toNat_natCast, List.getD_eq_getElem?_getD, List.getElem?_eq_getElem h]
  rfl
/-- A list that is filled from its begin on. -/
theorem fill_take {α : Type} (l ys : List α) (i : Nat) (hi : i < l.length) (hl : ys.length = l.length) (h : ys.take i = l.take i) : (ys.set i l[i]).take (i + 1) = l.take (i + 1) := by
  have h1 : i < (ys.set i l[i]).length := by rw [List.length_set]; omega
  rw [List.take_succ_eq_append_getElem h1, List.take_succ_eq_append_getElem hi, List.getElem_set_self, List.take_set_of_le (Nat.le_refl _), h]
theorem szStringS_l0 (d : Nat) : ∀ (i : Nat) (l : List ByteArray) (x : Int), l.length ≤ 9223372036854775807 → (∀ a ∈ l, a.size ≤ 9223372036854775807) → i + d = l.length → 0 ≤ x → x ≤ 1048576 →
    ∃ t, t ≤ 1048576 ∧ ∀ j, d < j → laws_szStringS.l0 j l x (i : Int) = some t := by
  induction d with
  | zero =>
    intro i l x hl hg hi h0 h1
    refine ⟨x, h1, fun j hj => ?_⟩
    obtain ⟨j, rfl⟩ : ∃ m, j = m + 1 := ⟨j - 1, by omega⟩
    simp only [laws_szStringS.l0]
    rw [if_neg (by omega)]
  | succ d ih =>
    intro i l x hl hg hi h0 h1
    have hil : i < l.length := by omega
    have hs := hg _ (List.getElem_mem hil)
    by_cases h : x - (l[i].size : Int) < 0
    · refine ⟨-1, by omega, fun j hj => ?_⟩
      obtain ⟨j, rfl⟩ : ∃ m, j = m + 1 := ⟨j - 1, by omega⟩
      simp only [laws_szStringS.l0]
      rw [if_pos (by omega), if_pos (by omega), rdOf_at _ _ _ hil, w64 (by omega) (by omega), if_pos h]
    · obtain ⟨t, ht, hj⟩ := ih (i + 1) l (x - (l[i].size : Int)) hl hg (by omega) (by omega) (by omega)
      refine ⟨t, ht, fun j hk => ?_⟩
      obtain ⟨j, rfl⟩ : ∃ m, j = m + 1 := ⟨j - 1, by omega⟩
      simp only [laws_szStringS.l0]
      rw [if_pos (by omega), if_pos (by omega), rdOf_at _ _ _ hil, w64 (by omega) (by omega), if_neg h, up (by omega)]
      exact hj j (by omega)
theorem szStringS_at (l : List ByteArray) (hl : l.length ≤ 9223372036854775807) (hg : ∀ a ∈ l, a.size ≤ 9223372036854775807) :
    ∃ t, t ≤ 1048576 ∧ (0 ≤ t → l.length ≤ 1048576) ∧ ∀ k, l.length < k → laws_szStringS.f k l 1048576 = some t := by
  by_cases h : (1048576 : Int) - (l.length : Int) < 0
  · refine ⟨-1, by omega, by omega, fun k _ => ?_⟩
    unfold laws_szStringS.f
    rw [w64 (by omega) (by omega), if_pos h]
  · obtain ⟨t, ht, hj⟩ := szStringS_l0 l.length 0 l (1048576 - (l.length : Int)) hl hg (by omega) (by omega) (by omega)
    refine ⟨t, ht, fun _ => by omega, fun k hk => ?_⟩
    unfold laws_szStringS.f
    rw [w64 (by omega) (by omega), if_neg h]
    exact hj k hk
theorem toStringS_l0 (d : Nat) : ∀ (k i : Nat) (l ys : List ByteArray), d < k → l.length ≤ 1048576 → i + d = l.length → ys.length = l.length → ys.take i = l.take i →
    laws_toStringS.l0 k l ys (i : Int) = some l := by
  induction d with
  | zero =>
    intro k i l ys hk hl hi hy ht
    obtain ⟨k, rfl⟩ : ∃ m, k = m + 1 := ⟨k - 1, by omega⟩
    simp only [laws_toStringS.l0]
    rw [if_neg (by omega)]
    rw [List.take_of_length_le (by omega), List.take_of_length_le (by omega)] at ht
    rw [ht]
  | succ d ih =>
    intro k i l ys hk hl hi hy ht
    obtain ⟨k, rfl⟩ : ∃ m, k = m + 1 := ⟨k - 1, by omega⟩
    have hil : i < l.length := by omega
    simp only [laws_toStringS.l0]
    rw [if_pos (by omega), if_pos (by omega), if_pos (by omega), rdOf_at _ _ _ hil, Int.toNat_natCast, up (by omega)]
    exact ih k (i + 1) l _ (by omega) hl (by omega) (by rw [List.length_set, hy]) (fill_take l ys i hil hy ht)
theorem toStringS_at (k : Nat) (l : List ByteArray) (hk : l.length < k) (hl : l.length ≤ 1048576) : laws_toStringS.f k l = some l := by
  unfold laws_toStringS.f
  rw [if_pos (by omega), if_pos (by omega)]
  exact toStringS_l0 l.length k 0 l _ hk hl (by omega) (by rw [List.length_replicate, Int.toNat_natCast]) rfl
theorem eqStringS_l0 (d : Nat) : ∀ (k i : Nat) (l : List ByteArray), d < k → l.length ≤ 9223372036854775807 → i + d = l.length → laws_eqStringS.l0 k l l (i : Int) = some true := by
  induction d with
  | zero =>
    intro k i l hk hl hi
    obtain ⟨k, rfl⟩ : ∃ m, k = m + 1 := ⟨k - 1, by omega⟩
    simp only [laws_eqStringS.l0]
    rw [if_neg (by omega)]
  | succ d ih =>
    intro k i l hk hl hi
    obtain ⟨k, rfl⟩ : ∃ m, k = m + 1 := ⟨k - 1, by omega⟩
    simp only [laws_eqStringS.l0]
    rw [if_pos (by omega), if_pos (by omega), if_pos (by omega), if_pos trivial, up (by omega)]
    exact ih k (i + 1) l (by omega) hl (by omega)
theorem eqStringS_at (k : Nat) (l : List ByteArray) (hk : l.length < k) (hl : l.length ≤ 9223372036854775807) : laws_eqStringS.f k l l = some true := by
  unfold laws_eqStringS.f
  rw [if_pos rfl]
  exact eqStringS_l0 l.length k 0 l hk hl (by omega)
theorem markText_l0 (m : Nat) : ∀ (n : Int) (s : ByteArray), n.toNat ≤ m → n ≤ 4611686018427387904 → s.size + n.toNat ≤ 4611686018427387904 → ∃ r, laws_markText.l0 (m + 1) n s = some r := by
  induction m with
  | zero =>
    intro n s hm h1 hs
    simp only [laws_markText.l0]
    rw [if_neg (by omega), if_pos (by omega)]
    exact ⟨_, rfl⟩
  | succ m ih =>
    intro n s hm h1 hs
    have hsz : (strOfNums [(wrap64 (48 + (Int.tmod n 10))) % 256]).size = 1 := by rw [strOfNums_size]; rfl
    rw [laws_markText.l0]
    by_cases h : n > 0
    · rw [if_pos h]
      simp only [Option.bind_some]
      rw [if_pos (by omega), tdivp (by omega), w64 (x := n / 10) (by omega) (by omega)]
      exact ih _ _ (by omega) (by omega) (by rw [ByteArray.size_append]; omega)
    · rw [if_neg h, if_pos (by omega)]
      exact ⟨_, rfl⟩
/-- The text that stands for a number in a mark. -/
def markT (n : Int) : ByteArray := (laws_markText.f (n.toNat + 1) n).getD ⟨#[]⟩
theorem markText_at (k : Nat) (n : Int) (hk : n.toNat + 1 ≤ k) (h1 : n ≤ 4611686018427387904) : laws_markText.f k n = some (markT n) := by
  refine at_rounds (laws_markText.mono n) hk ?_
  have h : ∃ r, laws_markText.f (n.toNat + 1) n = some r := by
    unfold laws_markText.f
    by_cases h : n ≤ 0
    · rw [if_pos h]
      exact ⟨_, rfl⟩
    · rw [if_neg h]
      exact markText_l0 n.toNat n _ (Nat.le_refl _) h1 (by show 0 + _ ≤ _; omega)
  obtain ⟨r, hr⟩ := h
  rw [markT, hr]
  rfl
/-- Marking ends, and tells a number that is not below the one it began with. -/
theorem markStringS_l0 (d : Nat) : ∀ (k i : Nat) (l : List ByteArray) (x : Int), x.toNat + 2 * d + 2 ≤ k → l.length ≤ 1048576 → i + d = l.length → 0 ≤ x → x ≤ 2000000 - d →
    ∃ ys, laws_markStringS.l0 k l x (i : Int) = some (x + d, ys) := by
  induction d with
  | zero =>
    intro k i l x hk hl hi h0 h1
    obtain ⟨k, rfl⟩ : ∃ m, k = m + 1 := ⟨k - 1, by omega⟩
    simp only [laws_markStringS.l0]
    rw [if_neg (by omega)]
    exact ⟨l, by simp⟩
  | succ d ih =>
    intro k i l x hk hl hi h0 h1
    obtain ⟨k, rfl⟩ : ∃ m, k = m + 1 := ⟨k - 1, by omega⟩
    simp only [laws_markStringS.l0]
    rw [if_pos (by omega), markText_at k x (by omega) (by omega)]
    simp only [Option.bind_some]
    rw [if_pos (by omega), up (by omega), w64 (by omega) (by omega)]
    obtain ⟨ys, hy⟩ := ih k (i + 1) (l.set ((i : Int)).toNat (markT x)) (x + 1) (by omega) (by rw [List.length_set]; exact hl) (by rw [List.length_set]; omega) (by omega) (by omega)
    refine ⟨ys, ?_⟩
    rw [hy]
    congr 2
    omega
theorem eqFrame_same (a b : Bool) (c d e : Int) (s : ByteArray) : laws_eqFrame.f a b c d e s a b c d e s = some true := by
  simp [laws_eqFrame.f]
theorem eqFrameS_l0 (d : Nat) : ∀ (k i : Nat) (l : List (S43)), d < k → l.length ≤ 9223372036854775807 → i + d = l.length → laws_eqFrameS.l0 k l l (i : Int) = some true := by
  induction d with
  | zero =>
    intro k i l hk hl hi
    obtain ⟨k, rfl⟩ : ∃ m, k = m + 1 := ⟨k - 1, by omega⟩
    simp only [laws_eqFrameS.l0]
    rw [if_neg (by omega)]
  | succ d ih =>
    intro k i l hk hl hi
    obtain ⟨k, rfl⟩ : ∃ m, k = m + 1 := ⟨k - 1, by omega⟩
    simp only [laws_eqFrameS.l0]
    rw [if_pos (by omega), if_pos (by omega), if_pos (by omega), eqFrame_same]
    simp only [Option.bind_some, if_true]
    rw [up (by omega)]
    exact ih k (i + 1) l (by omega) hl (by omega)
theorem eqFrameS_at (k : Nat) (l : List (S43)) (hk : l.length < k) (hl : l.length ≤ 9223372036854775807) : laws_eqFrameS.f k l l = some true := by
  unfold laws_eqFrameS.f
  rw [if_pos rfl]
  exact eqFrameS_l0 l.length k 0 l hk hl (by omega)
/-- The marked frame that a number stands for. -/
def mkF (c : Int) : S43 := ⟨(Int.tmod c 3 == 0), (Int.tmod (c + 1) 3 == 0), c + 2, c + 3, c + 4, markT (c + 5)⟩
theorem rdT_set (l : List (S43)) (i : Nat) (e : S43) (h : i < l.length) : rd_T43 (l.set i e) (i : Int) = e := by
  unfold rd_T43
  rw [Int.toNat_natCast, List.getD_eq_getElem?_getD, List.getElem?_set_self h]
  rfl
theorem rdT_at (l : List (S43)) (i : Nat) (h : i < l.length) : rd_T43 l (i : Int) = l[i] := by
  unfold rd_T43
  rw [Int.toNat_natCast, List.getD_eq_getElem?_getD, List.getElem?_eq_getElem h]
  rfl
theorem six (c : Int) (h0 : 0 ≤ c) (h1 : c ≤ 100000000) : wrap64 (c + 1) = c + 1 ∧ wrap64 (c + 1 + 1) = c + 2 ∧ wrap64 (c + 2 + 1) = c + 3 ∧ wrap64 (c + 3 + 1) = c + 4 ∧ wrap64 (c + 4 + 1) = c + 5 ∧ wrap64 (c + 5 + 1) = c + 6 := by
  refine ⟨?_, ?_, ?_, ?_, ?_, ?_⟩ <;> (rw [w64 (by omega) (by omega)]; try omega)
theorem markFrameS_step (k i : Nat) (l : List (S43)) (c : Int) (hi : i < l.length) (hl : l.length ≤ 1048577) (h0 : 0 ≤ c) (h1 : c ≤ 100000000) (hk : c.toNat + 10 ≤ k) :
    laws_markFrameS.l0 (k + 1) l c (i : Int) = laws_markFrameS.l0 k (l.set i (mkF c)) (c + 6) ((i + 1 : Nat) : Int) := by
  obtain ⟨s1, s2, s3, s4, s5, s6⟩ := six c h0 h1
  simp only [laws_markFrameS.l0]
  rw [if_pos (by omega), if_pos (by omega)]
  simp only [s1, s2, s3, s4, s5, s6, Int.toNat_natCast, Option.bind_some, rdT_set _ _ _ hi, List.set_set]
  rw [markText_at k (c + 5) (by omega) (by omega)]
  simp only [Option.bind_some, up (show i < 9223372036854775807 by omega)]
  rfl
theorem heldFrameS_step (k i : Nat) (l : List (S43)) (c : Int) (hi : i < l.length) (hl : l.length ≤ 1048577) (h0 : 0 ≤ c) (h1 : c ≤ 100000000) (hk : c.toNat + 10 ≤ k) (he : l[i] = mkF c) :
    laws_heldFrameS.l0 (k + 1) l c (i : Int) = laws_heldFrameS.l0 k l (c + 6) ((i + 1 : Nat) : Int) := by
  obtain ⟨s1, s2, s3, s4, s5, s6⟩ := six c h0 h1
  simp only [laws_heldFrameS.l0]
  rw [if_pos (by omega), if_pos (by omega), rdT_at l i hi, he]
  simp only [s1, s2, s3, s4, s5, s6, mkF, bne_self_eq_false, Bool.false_eq_true, if_false, if_true]
  rw [markText_at k (c + 5) (by omega) (by omega)]
  simp only [Option.bind_some, if_true, up (show i < 9223372036854775807 by omega)]
/-- Marked frames, one behind the other. -/
def mkFs : Nat → Int → List (S43)
  | 0, _ => []
  | d + 1, c => mkF c :: mkFs d (c + 6)
theorem mkFs_length (d : Nat) : ∀ c, (mkFs d c).length = d := by
  induction d with
  | zero => intro c; rfl
  | succ d ih => intro c; simp [mkFs, ih]
theorem markFrameS_l0 (d : Nat) : ∀ (k i : Nat) (l : List (S43)) (c : Int), c.toNat + 7 * d + 20 ≤ k → l.length ≤ 1048577 → i + d = l.length → 0 ≤ c → c ≤ 100000000 - 6 * d →
    laws_markFrameS.l0 k l c (i : Int) = some (c + 6 * d, l.take i ++ mkFs d c) := by
  induction d with
  | zero =>
    intro k i l c hk hl hi h0 h1
    obtain ⟨k, rfl⟩ : ∃ m, k = m + 1 := ⟨k - 1, by omega⟩
    simp only [laws_markFrameS.l0]
    rw [if_neg (by omega), List.take_of_length_le (by omega)]
    simp [mkFs]
  | succ d ih =>
    intro k i l c hk hl hi h0 h1
    obtain ⟨k, rfl⟩ : ∃ m, k = m + 1 := ⟨k - 1, by omega⟩
    have hil : i < l.length := by omega
    rw [markFrameS_step k i l c hil hl h0 (by omega) (by omega)]
    rw [ih k (i + 1) _ (c + 6) (by omega) (by rw [List.length_set]; exact hl) (by rw [List.length_set]; omega) (by omega) (by omega)]
    have h2 : (l.set i (mkF c)).take (i + 1) = l.take i ++ [mkF c] := by
      rw [List.take_succ_eq_append_getElem (by rw [List.length_set]; exact hil), List.getElem_set_self, List.take_set_of_le (Nat.le_refl _)]
    rw [h2, mkFs, List.append_assoc]
    congr 2
    omega
theorem heldFrameS_l0 (d : Nat) : ∀ (k i : Nat) (l : List (S43)) (c : Int), c.toNat + 7 * d + 20 ≤ k → l.length ≤ 1048577 → i + d = l.length → 0 ≤ c → c ≤ 100000000 - 6 * d → l.drop i = mkFs d c →
    laws_heldFrameS.l0 k l c (i : Int) = some (c + 6 * d) := by
  induction d with
  | zero =>
    intro k i l c hk hl hi h0 h1 he
    obtain ⟨k, rfl⟩ : ∃ m, k = m + 1 := ⟨k - 1, by omega⟩
    simp only [laws_heldFrameS.l0]
    rw [if_neg (by omega)]
    simp
  | succ d ih =>
    intro k i l c hk hl hi h0 h1 he
    obtain ⟨k, rfl⟩ : ∃ m, k = m + 1 := ⟨k - 1, by omega⟩
    have hil : i < l.length := by omega
    rw [List.drop_eq_getElem_cons hil, mkFs, List.cons.injEq] at he
    rw [heldFrameS_step k i l c hil hl h0 (by omega) (by omega) he.1]
    rw [ih k (i + 1) l (c + 6) (by omega) hl (by omega) (by omega) (by omega) he.2]
    congr 1
    omega
/-- What is marked is held. -/
theorem markHeld (l : List (S43)) (hl : l.length ≤ 1048577) : ∃ g, g.length = l.length ∧ ∀ k, 7 * l.length + 30 ≤ k → laws_markFrameS.f k l 1 = some (1 + 6 * (l.length : Int), g) ∧ laws_heldFrameS.f k g 1 = some (1 + 6 * (l.length : Int)) := by
  refine ⟨mkFs l.length 1, mkFs_length _ _, fun k hk => ⟨?_, ?_⟩⟩
  · unfold laws_markFrameS.f
    have h := markFrameS_l0 l.length k 0 l 1 (by omega) hl (by omega) (by omega) (by omega)
    simpa using h
  · unfold laws_heldFrameS.f
    have h := heldFrameS_l0 l.length k 0 (mkFs l.length 1) 1 (by omega) (by rw [mkFs_length]; exact hl) (by rw [mkFs_length]; omega) (by omega) (by omega) rfl
    simpa using h
/-- May a text be data of a frame? -/
def okd (s : ByteArray) : Bool := decide (1 ≤ (s.size : Int) ∧ (s.size : Int) ≤ 53)
/-- FopOk's answer. -/
def fopOk (c v n : Int) (l : List ByteArray) : Bool := l.all okd && (decide (0 ≤ c ∧ c ≤ 1023) && (decide (0 ≤ v ∧ v ≤ 63) && (decide (0 ≤ n ∧ n ≤ 255) && decide ((l.length : Int) ≤ 4))))
theorem specFopOk_l0 (d : Nat) : ∀ (k i : Nat) (c v n : Int) (l : List ByteArray) (sh : Bool), d < k → l.length ≤ 9223372036854775807 → i + d = l.length →
    spec_FopOk.l0 k (i : Int) c v n l sh = some ((l.drop i).all okd && (decide (0 ≤ c ∧ c ≤ 1023) && (decide (0 ≤ v ∧ v ≤ 63) && (decide (0 ≤ n ∧ n ≤ 255) && decide ((l.length : Int) ≤ 4))))) := by
  induction d with
  | zero =>
    intro k i c v n l sh hk hl hi
    obtain ⟨k, rfl⟩ : ∃ m, k = m + 1 := ⟨k - 1, by omega⟩
    simp only [spec_FopOk.l0, l1In_at, Option.bind_some]
    rw [if_neg (by omega), List.drop_eq_nil_of_le (by omega)]
    generalize decide (0 ≤ c ∧ c ≤ 1023) = b1
    generalize decide (0 ≤ v ∧ v ≤ 63) = b2
    generalize decide (0 ≤ n ∧ n ≤ 255) = b3
    cases b1 <;> cases b2 <;> cases b3 <;> simp
  | succ d ih =>
    intro k i c v n l sh hk hl hi
    obtain ⟨k, rfl⟩ : ∃ m, k = m + 1 := ⟨k - 1, by omega⟩
    have hil : i < l.length := by omega
    simp only [spec_FopOk.l0, l1In_at, Option.bind_some]
    rw [if_pos (by omega), if_pos (by omega), rdOf_at _ _ _ hil, List.drop_eq_getElem_cons hil, List.all_cons]
    change (if okd l[i] = true then _ else _) = _
    cases h : okd l[i] with
    | false => simp
    | true =>
      rw [if_pos rfl, up (by omega), ih k (i + 1) c v n l sh (by omega) hl (by omega)]
      simp
theorem specFopOk_at (k : Nat) (c v n : Int) (l : List ByteArray) (sh : Bool) (hk : l.length < k) (hl : l.length ≤ 9223372036854775807) : spec_FopOk.f k c v n l sh = some (fopOk c v n l) := by
  unfold spec_FopOk.f fopOk
  exact specFopOk_l0 l.length k 0 c v n l sh hk hl (by omega)
theorem implFopOk_l0 (d : Nat) : ∀ (k i : Nat) (l : List ByteArray), d < k → l.length ≤ 9223372036854775807 → i + d = l.length →
    impl_FopOk.l0 k l (l.length : Int) (i : Int) = some ((l.drop i).all okd) := by
  induction d with
  | zero =>
    intro k i l hk hl hi
    obtain ⟨k, rfl⟩ : ∃ m, k = m + 1 := ⟨k - 1, by omega⟩
    simp only [impl_FopOk.l0]
    rw [if_neg (by omega), List.drop_eq_nil_of_le (by omega)]
    rfl
  | succ d ih =>
    intro k i l hk hl hi
    obtain ⟨k, rfl⟩ : ∃ m, k = m + 1 := ⟨k - 1, by omega⟩
    have hil : i < l.length := by omega
    simp only [impl_FopOk.l0, frameDataOk_at, Option.bind_some]
    rw [if_pos (by omega), if_pos (by omega), if_pos (by omega), rdOf_at _ _ _ hil, List.drop_eq_getElem_cons hil, List.all_cons]
    change (if okd l[i] = true then _ else _) = _
    cases h : okd l[i] with
    | false => simp
    | true =>
      rw [if_pos rfl, up (by omega), ih k (i + 1) l (by omega) hl (by omega)]
      simp
theorem implFopOk_at (k : Nat) (c v n : Int) (l : List ByteArray) (sh : Bool) (hk : l.length + 1 < k) (hl : l.length ≤ 9223372036854775807) : impl_FopOk.f k c v n l sh = some (fopOk c v n l) := by
  obtain ⟨k, rfl⟩ : ∃ m, k = m + 1 := ⟨k - 1, by omega⟩
  have h0 := implFopOk_l0 l.length k 0 l (by omega) hl (by omega)
  have h1 : impl_FopOk.l0 k l (l.length : Int) 0 = some (l.all okd) := h0
  have e : decide ((l.length : Int) ≤ 4) = !decide ((l.length : Int) > 4) := by
    by_cases h : (l.length : Int) ≤ 4
    · rw [decide_eq_true h, decide_eq_false (by omega)]; rfl
    · rw [decide_eq_false h, decide_eq_true (by omega)]; rfl
  simp only [impl_FopOk.f, within_at, Option.bind_some, fopOk, impl_FopOk.j0, h1, e]
  generalize decide (0 ≤ c ∧ c ≤ 1023) = b1
  generalize decide (0 ≤ v ∧ v ≤ 63) = b2
  generalize decide (0 ≤ n ∧ n ≤ 255) = b3
  generalize decide ((l.length : Int) > 4) = b4
  generalize l.all okd = b5
  cases b1 <;> cases b2 <;> cases b3 <;> cases b4 <;> cases b5 <;> rfl
theorem fopOk_of {c v n : Int} {l : List ByteArray} (h : fopOk c v n l = true) : 0 ≤ n ∧ n ≤ 255 ∧ l.length ≤ 4 ∧ 0 ≤ c ∧ c ≤ 1023 ∧ 0 ≤ v ∧ v ≤ 63 ∧ l.all okd = true := by
  simp only [fopOk, Bool.and_eq_true, decide_eq_true_eq] at h
  obtain ⟨h1, h2, h3, h4, h5⟩ := h
  exact ⟨h4.1, h4.2, by omega, h2.1, h2.2, h3.1, h3.2, h1⟩
theorem implFirst_num {n : Int} {m : Nat} (h0 : 0 ≤ n) (h1 : n ≤ 255) (hm : m ≤ 4) : impl_goesRound_plus.f n (wrap64 (-(m : Int))) = some ((n - m + 256) % 256) := by
  unfold impl_goesRound_plus.f
  rw [w64 (x := -(m : Int)) (by omega) (by omega), Int.neg_tmod, tmodp (a := (m : Int)) (by omega), w64 (x := n + -((m : Int) % 256)) (by omega) (by omega), w64 (x := n + -((m : Int) % 256) + 256) (by omega) (by omega), tmodp (by omega)]
  congr 1
  omega
theorem specFirst_num {n : Int} {m : Nat} (h0 : 0 ≤ n) (h1 : n ≤ 255) (hm : m ≤ 4) : spec_l4Mod.f (wrap64 (n - (m : Int))) = some ((n - m + 256) % 256) := by
  unfold spec_l4Mod.f
  rw [w64 (x := n - (m : Int)) (by omega) (by omega), w64 (x := n - (m : Int) + 512) (by omega) (by omega), tmodp (by omega)]
  congr 1
  omega
/-- Frame i of what was sent, from the first that was not answered for on. -/
def again (c v n : Int) (l : List ByteArray) : Nat → Nat → List (S43)
  | 0, _ => []
  | d + 1, i => (⟨false, false, c, v, ((n - l.length + 256) % 256 + i) % 256, rdOf ByteArray.empty l (i : Int)⟩ : S43) :: again c v n l d (i + 1)
theorem again_length (c v n : Int) (l : List ByteArray) (d : Nat) : ∀ i, (again c v n l d i).length = d := by
  induction d with
  | zero => intro i; rfl
  | succ d ih => intro i; simp [again, ih]
theorem specAgain_l0 (d : Nat) : ∀ (k i : Nat) (acc : List (S43)) (c v n : Int) (l : List ByteArray) (sh : Bool), d < k → l.length ≤ 4 → 0 ≤ n → n ≤ 255 → i + d = l.length → acc.length ≤ 1 + i →
    spec_FopAgain.l0 k acc (i : Int) c v n l sh = some (acc ++ again c v n l d i) := by
  induction d with
  | zero =>
    intro k i acc c v n l sh hk hl h0 h1 hi ha
    obtain ⟨k, rfl⟩ : ∃ m, k = m + 1 := ⟨k - 1, by omega⟩
    simp only [spec_FopAgain.l0]
    rw [if_neg (by omega)]
    simp [again]
  | succ d ih =>
    intro k i acc c v n l sh hk hl h0 h1 hi ha
    obtain ⟨k, rfl⟩ : ∃ m, k = m + 1 := ⟨k - 1, by omega⟩
    have hs : spec_l4Mod.f (wrap64 ((n - l.length + 256) % 256 + i)) = some (((n - l.length + 256) % 256 + i) % 256) := by
      unfold spec_l4Mod.f
      rw [w64 (x := (n - l.length + 256) % 256 + i) (by omega) (by omega), w64 (x := (n - l.length + 256) % 256 + i + 512) (by omega) (by omega), tmodp (by omega)]
      congr 1
      omega
    simp only [spec_FopAgain.l0, spec_l5First.f, specFirst_num h0 h1 hl, Option.bind_some, hs, spec_l5Frame.f]
    rw [if_pos (by omega), if_pos (by omega), if_pos (by omega), up (by omega)]
    rw [ih k (i + 1) _ c v n l sh (by omega) hl h0 h1 (by omega) (by rw [List.length_append, List.length_singleton]; omega), again, List.append_assoc]
    rfl
theorem implAgain_l0 (d : Nat) : ∀ (k i : Nat) (acc : List (S43)) (c v n : Int) (l : List ByteArray) (sh : Bool), d < k → l.length ≤ 4 → 0 ≤ n → n ≤ 255 → i + d = l.length → acc.length ≤ 1 + i →
    impl_FopAgain.l0 k acc ((n - l.length + 256) % 256) l (l.length : Int) (i : Int) c v n l sh = some (acc ++ again c v n l d i) := by
  induction d with
  | zero =>
    intro k i acc c v n l sh hk hl h0 h1 hi ha
    obtain ⟨k, rfl⟩ : ∃ m, k = m + 1 := ⟨k - 1, by omega⟩
    simp only [impl_FopAgain.l0]
    rw [if_neg (by omega)]
    simp [again]
  | succ d ih =>
    intro k i acc c v n l sh hk hl h0 h1 hi ha
    obtain ⟨k, rfl⟩ : ∃ m, k = m + 1 := ⟨k - 1, by omega⟩
    have hs : impl_goesRound_plus.f ((n - l.length + 256) % 256) (i : Int) = some (((n - l.length + 256) % 256 + i) % 256) := by
      unfold impl_goesRound_plus.f
      rw [tmodp (a := (i : Int)) (by omega), w64 (x := (n - l.length + 256) % 256 + (i : Int) % 256) (by omega) (by omega), w64 (x := (n - l.length + 256) % 256 + (i : Int) % 256 + 256) (by omega) (by omega), tmodp (by omega)]
      congr 1
      omega
    simp only [impl_FopAgain.l0, hs, Option.bind_some, impl_Fop_frame.f]
    rw [if_pos (by omega), if_pos (by omega), if_pos (by omega), if_pos (by omega), up (by omega)]
    rw [ih k (i + 1) _ c v n l sh (by omega) hl h0 h1 (by omega) (by rw [List.length_append, List.length_singleton]; omega), again, List.append_assoc]
    rfl
/-- FarmOpen's answer, as a frame. -/
def farmOpen (c v : Int) : Bool × Bool × Int × Int × Int × ByteArray := if frameOk true true c v 0 (⟨#[0]⟩ : ByteArray) = true then (true, true, c, v, 0, (⟨#[0]⟩ : ByteArray)) else (false, false, 0, 0, 0, (⟨#[]⟩ : ByteArray))
theorem specOpen_at (c v : Int) : spec_FarmOpen.f c v = some (farmOpen c v) := by
  simp only [spec_FarmOpen.f, specFrameOk_at, Option.bind_some, farmOpen]
  cases frameOk true true c v 0 (⟨#[0]⟩ : ByteArray) <;> rfl
theorem implOpen_at (c v : Int) : impl_FarmOpen.f c v = some (farmOpen c v) := by
  simp only [impl_FarmOpen.f, impl_governs.f, implFrameOk_at, Option.bind_some, farmOpen]
  cases frameOk true true c v 0 (⟨#[0]⟩ : ByteArray) <;> rfl
def toS (x : Bool × Bool × Int × Int × Int × ByteArray) : S43 := ⟨x.1, x.2.1, x.2.2.1, x.2.2.2.1, x.2.2.2.2.1, x.2.2.2.2.2⟩
/-- FopAgain's answer. -/
def fopAgain (c v n : Int) (l : List ByteArray) (sh : Bool) : List (S43) :=
  if fopOk c v n l = true then (if sh = true then [toS (farmOpen c v)] else []) ++ again c v n l l.length 0 else []
theorem fopAgain_length (c v n : Int) (l : List ByteArray) (sh : Bool) : (fopAgain c v n l sh).length ≤ l.length + 1 := by
  unfold fopAgain
  cases fopOk c v n l <;> cases sh <;> simp [again_length] <;> omega
theorem specAgain_at (k : Nat) (c v n : Int) (l : List ByteArray) (sh : Bool) (hk : l.length + 10 ≤ k) (hl : l.length ≤ 1048576) : spec_FopAgain.f k c v n l sh = some (fopAgain c v n l sh) := by
  obtain ⟨k, rfl⟩ : ∃ m, k = m + 1 := ⟨k - 1, by omega⟩
  unfold spec_FopAgain.f fopAgain
  simp only [specFopOk_at (k + 1) c v n l sh (by omega) (by omega), Option.bind_some, specOpen_at]
  cases hok : fopOk c v n l with
  | false => rfl
  | true =>
    obtain ⟨h0, h1, h4, _⟩ := fopOk_of hok
    cases sh with
    | false =>
      simp only [Bool.false_eq_true, if_false, if_true, spec_FopAgain.j0]
      exact specAgain_l0 l.length k 0 [] c v n l false (by omega) h4 h0 h1 (by omega) (by simp)
    | true =>
      simp only [if_true, spec_FopAgain.j0]
      rw [if_pos (by simp)]
      exact specAgain_l0 l.length k 0 _ c v n l true (by omega) h4 h0 h1 (by omega) (by simp)
theorem implFirst_at (k : Nat) (c v n : Int) (l : List ByteArray) (sh : Bool) (hk : l.length + 1 < k) (hl : l.length ≤ 9223372036854775807) (hok : fopOk c v n l = true) : impl_FopFirst.f k c v n l sh = some ((n - l.length + 256) % 256) := by
  obtain ⟨h0, h1, h4, _⟩ := fopOk_of hok
  unfold impl_FopFirst.f
  simp only [implFopOk_at k c v n l sh hk hl, Option.bind_some, hok, if_true, implFirst_num h0 h1 h4]
theorem implAgain_at (k : Nat) (c v n : Int) (l : List ByteArray) (sh : Bool) (hk : l.length + 10 ≤ k) (hl : l.length ≤ 1048576) : impl_FopAgain.f k c v n l sh = some (fopAgain c v n l sh) := by
  obtain ⟨k, rfl⟩ : ∃ m, k = m + 1 := ⟨k - 1, by omega⟩
  unfold impl_FopAgain.f fopAgain
  simp only [implFopOk_at (k + 1) c v n l sh (by omega) (by omega), Option.bind_some, implOpen_at]
  cases hok : fopOk c v n l with
  | false => rfl
  | true =>
    obtain ⟨h0, h1, h4, _⟩ := fopOk_of hok
    have hf := implFirst_at k c v n l sh (by omega) (by omega) hok
    cases sh with
    | false =>
      simp only [Bool.false_eq_true, if_false, if_true, impl_FopAgain.j0, hf, Option.bind_some]
      exact implAgain_l0 l.length k 0 [] c v n l false (by omega) h4 h0 h1 (by omega) (by simp)
    | true =>
      simp only [if_true, impl_FopAgain.j0, hf, Option.bind_some]
      rw [if_pos (by simp)]
      exact implAgain_l0 l.length k 0 _ c v n l true (by omega) h4 h0 h1 (by omega) (by simp)
end FnExactFopAgainL
open FnExactFopAgainL

theorem FnExactFopAgain (c v n : Int) (l : List ByteArray) (sh : Bool) (_ : (Lit.int .i64 c).wf = true) (_ : (Lit.int .i64 v).wf = true) (_ : (Lit.int .i64 n).wf = true) (hl : l.length ≤ 9223372036854775807) (hg : ∀ a ∈ l, a.size ≤ 9223372036854775807) :
    ∃ k, laws_FnExactFopAgain.f k c v n l sh = some true := by
  obtain ⟨t, ht, hlen, hsz⟩ := szStringS_at l hl hg
  refine ⟨100 * l.length + 1000 + 1, ?_⟩
  generalize hk : 100 * l.length + 1000 = k
  unfold laws_FnExactFopAgain.f laws_szFop.f
  rw [hsz (k + 1) (by omega)]
  simp only [Option.bind_some]
  by_cases h0 : t < 0
  · rw [if_pos h0]
    rfl
  rw [if_neg h0]
  simp only [Option.bind_some]
  rw [if_neg h0]
  have hl' := hlen (by omega)
  have hfl := fopAgain_length c v n l sh
  obtain ⟨g, hgl, hmh⟩ := markHeld (fopAgain c v n l sh) (by omega)
  obtain ⟨ys, hms⟩ := markStringS_l0 l.length (k + 1) 0 l 1 (by omega) hl' (by omega) (by omega) (by omega)
  have e1 := toStringS_at (k + 1) l (by omega) hl'
  have e1' := toStringS_at k l (by omega) hl'
  have e2 := specAgain_at (k + 1) c v n l sh (by omega) hl'
  have e3 := implAgain_at (k + 1) c v n l sh (by omega) hl'
  have e3' := implAgain_at k c v n l sh (by omega) hl'
  have e4 := eqFrameS_at (k + 1) (fopAgain c v n l sh) (by omega) (by omega)
  have e4' := eqFrameS_at k (fopAgain c v n l sh) (by omega) (by omega)
  have e5 := eqStringS_at (k + 1) l (by omega) (by omega)
  have e6 := hmh k (by omega)
  have e7 : laws_markStringS.f (k + 1) l 1 = some (1 + (l.length : Int), ys) := hms
  simp only [laws_toFop.f, e1, e2, e3, e4, e5, e7, laws_eqFop.f, laws_markFop.f, Option.bind_some, if_true, Bool.not_true, bne_self_eq_false, Bool.false_eq_true, if_false]
  rw [if_neg (by omega)]
  simp only [laws_FnExactFopAgain.j0, laws_toFop.f, e1', e3', e4', e6.1, e6.2, Option.bind_some, if_true, Bool.false_eq_true, if_false]
  rw [if_neg (by omega)]
  rfl

end Go.Proofs.Ytlioeidipcdkcaa.Pure
