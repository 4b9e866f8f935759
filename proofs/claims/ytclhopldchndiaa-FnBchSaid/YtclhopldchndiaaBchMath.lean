/- The parity byte of seven bytes of which a few neighbouring bits are turned is another. No program. -/
import Derived.Test.YtclhopldchndiaaBt
namespace Go.Proofs.Ytclhopldchndiaa.BchMath
open Go Go.RowKit Go.Proofs.YtclhopldchndiaaW.PrintWords Go.Proofs.Ytclhopldchndiaa.Aux Go.Proofs.Ytclhopldchndiaa.Bt
/-- The parity's seven bits behind one more bit. -/
def bstep (s b : Nat) : Nat := if s / 64 = b then s * 2 % 128 else (s * 2 % 128) ^^^ 69
def bitAt (s : ByteArray) (t : Nat) : Nat := (bt s ((t / 8 : Nat) : Int)).toNat / 2 ^ (7 - t % 8) % 2
def bst (s : ByteArray) : Nat → Nat
  | 0 => 0
  | t + 1 => bstep (bst s t) (bitAt s t)
theorem bstep_lt : ∀ (s : Fin 128) (b : Fin 2), bstep s.1 b.1 < 128 := by decide +kernel
theorem bitAt_lt (s : ByteArray) (t : Nat) : bitAt s t < 2 := Nat.mod_lt _ (by decide)
theorem bst_lt (s : ByteArray) (t : Nat) : bst s t < 128 := by
  induction t with
  | zero => exact Nat.zero_lt_of_lt (Nat.lt_succ_self 127)
  | succ t ih => exact bstep_lt ⟨_, ih⟩ ⟨_, bitAt_lt s t⟩
/-- Two states behind the same bit. -/
theorem bstep_inj : ∀ (b : Fin 2) (s u : Fin 128), bstep s.1 b.1 = bstep u.1 b.1 → s = u := by decide +kernel
/-- Eight bits more. -/
def bbyte (s v : Nat) : Nat := bstep (bstep (bstep (bstep (bstep (bstep (bstep (bstep s (v / 128 % 2)) (v / 64 % 2)) (v / 32 % 2)) (v / 16 % 2)) (v / 8 % 2)) (v / 4 % 2)) (v / 2 % 2)) (v % 2)
theorem bbyte_shift : ∀ (s : Fin 128) (v : Fin 256), bbyte s.1 v.1 = bbyte 0 ((2 * s.1) ^^^ v.1) := by decide +kernel
theorem bbyte_turn : ∀ (u : Fin 256) (m : Fin 128), m.1 ≠ 0 → bbyte 0 u.1 ≠ bbyte 0 (u.1 ^^^ m.1) := by decide +kernel
theorem bbyte_ne (s v m : Nat) (hs : s < 128) (hv : v < 256) (h0 : 1 ≤ m) (h1 : m < 128) : bbyte s v ≠ bbyte s (v ^^^ m) := by
  have hx : v ^^^ m < 256 := Nat.xor_lt_two_pow (n := 8) hv (by omega)
  have h2 := bbyte_shift ⟨s, hs⟩ ⟨v, hv⟩
  have h3 := bbyte_shift ⟨s, hs⟩ ⟨v ^^^ m, hx⟩
  have hy : (2 * s) ^^^ v < 256 := Nat.xor_lt_two_pow (n := 8) (by omega) hv
  have h4 := bbyte_turn ⟨(2 * s) ^^^ v, hy⟩ ⟨m, h1⟩ (by show m ≠ 0; omega)
  dsimp only at h2 h3 h4
  rw [h2, h3, ← Nat.xor_assoc]
  exact h4
theorem bst_byte (s : ByteArray) (k : Nat) : bst s (8 * k + 8) = bbyte (bst s (8 * k)) (bt s (k : Int)).toNat := by
  have e : ∀ j, j < 8 → bitAt s (8 * k + j) = (bt s (k : Int)).toNat / 2 ^ (7 - j) % 2 := by
    intro j hj
    unfold bitAt
    rw [show (8 * k + j) / 8 = k by omega, show (8 * k + j) % 8 = j by omega]
  have e0 := e 0 (by decide)
  have e1 := e 1 (by decide)
  have e2 := e 2 (by decide)
  have e3 := e 3 (by decide)
  have e4 := e 4 (by decide)
  have e5 := e 5 (by decide)
  have e6 := e 6 (by decide)
  have e7 := e 7 (by decide)
  show bstep (bst s (8 * k + 7)) (bitAt s (8 * k + 7)) = _
  rw [e7]
  show bstep (bstep (bst s (8 * k + 6)) (bitAt s (8 * k + 6))) _ = _
  rw [e6]
  show bstep (bstep (bstep (bst s (8 * k + 5)) (bitAt s (8 * k + 5))) _) _ = _
  rw [e5]
  show bstep (bstep (bstep (bstep (bst s (8 * k + 4)) (bitAt s (8 * k + 4))) _) _) _ = _
  rw [e4]
  show bstep (bstep (bstep (bstep (bstep (bst s (8 * k + 3)) (bitAt s (8 * k + 3))) _) _) _) _ = _
  rw [e3]
  show bstep (bstep (bstep (bstep (bstep (bstep (bst s (8 * k + 2)) (bitAt s (8 * k + 2))) _) _) _) _) _ = _
  rw [e2]
  show bstep (bstep (bstep (bstep (bstep (bstep (bstep (bst s (8 * k + 1)) (bitAt s (8 * k + 1))) _) _) _) _) _) _ = _
  rw [e1]
  show bstep (bstep (bstep (bstep (bstep (bstep (bstep (bstep (bst s (8 * k)) (bitAt s (8 * k + 0))) _) _) _) _) _) _) _ = _
  rw [e0]
  unfold bbyte
  simp only [Nat.reducePow, Nat.reduceSub, Nat.div_one]
theorem bst_same (s u : ByteArray) (t d : Nat) (h : bst s t ≠ bst u t) (hb : ∀ i, t ≤ i → i < t + d → bitAt s i = bitAt u i) : bst s (t + d) ≠ bst u (t + d) := by
  induction d with
  | zero => exact h
  | succ d ih =>
    have ih' := ih (fun i h0 h1 => hb i h0 (by omega))
    intro e
    apply ih'
    have e2 : bstep (bst s (t + d)) (bitAt s (t + d)) = bstep (bst u (t + d)) (bitAt u (t + d)) := e
    rw [hb (t + d) (by omega) (by omega)] at e2
    exact congrArg Fin.val (bstep_inj ⟨bitAt u (t + d), bitAt_lt u (t + d)⟩ ⟨_, bst_lt s _⟩ ⟨_, bst_lt u _⟩ e2)
theorem bst_ahead (s u : ByteArray) (t : Nat) (hb : ∀ i, i < t → bitAt s i = bitAt u i) : bst s t = bst u t := by
  induction t with
  | zero => rfl
  | succ t ih => rw [bst, bst, ih (fun i hi => hb i (by omega)), hb t (by omega)]
/-- One byte turned, but its highest bit: another parity. -/
theorem bst_turned (s u : ByteArray) (k m : Nat) (h0 : 1 ≤ m) (h1 : m < 128) (hk : k < 7) (he : (bt u (k : Int)).toNat = (bt s (k : Int)).toNat ^^^ m) (ho : ∀ i, i < 7 → i ≠ k → bt u (i : Int) = bt s (i : Int)) : bst s 56 ≠ bst u 56 := by
  have hbt := bt_range s (k : Int)
  have hbit : ∀ i, i < 56 → i / 8 ≠ k → bitAt s i = bitAt u i := by
    intro i hi hne
    unfold bitAt
    rw [ho (i / 8) (by omega) hne]
  have ha : bst s (8 * k) = bst u (8 * k) := bst_ahead s u (8 * k) fun i hi => hbit i (by omega) (by omega)
  have hb : bst s (8 * k + 8) ≠ bst u (8 * k + 8) := by
    rw [bst_byte, bst_byte, ha, he]
    exact bbyte_ne _ _ m (bst_lt u _) (by omega) h0 h1
  have hc := bst_same s u (8 * k + 8) (48 - 8 * k) hb fun i h2 h3 => hbit i (by omega) (by omega)
  rw [show 8 * k + 8 + (48 - 8 * k) = 56 by omega] at hc
  exact hc
end Go.Proofs.Ytclhopldchndiaa.BchMath
