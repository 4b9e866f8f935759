-- written by a program of this session (tools/hprint.py, a turned copy of the kit print) out of the translation; Lean checks it
import Derived.Test.YtclhopldchndiaaPFnBchx0
import Derived.Test.YtclhopldchndiaaPFnBchx1
namespace Go.Proofs.Ytclhopldchndiaa.PFnBch
open Go.RowKit Go.Proofs.YtclhopldchndiaaW.PrintWords Go.Proofs.YtclhopldchndiaaW.PrintLast Go.Proofs.YtclhopldchndiaaW.PrintMore
attribute [local go_sem] max2_int min2_int max_two min_two max_three min_three max_four min_four   -- for this text's walks alone
set_option linter.unusedVariables false
set_option linter.unusedSimpArgs false

/-! ### spec_Bch: function 19 -/
def spec_Bch.l0 : Nat → ByteArray → Int → Int → Option (Int)
  | 0, _, _, _ => none
  | k + 1, x0, x3, x4 => if x4 < 56 then (if 0 ≤ (wrap64 (Int.tdiv x4 8)) then (if (wrap64 (Int.tdiv x4 8)) < (x0.size : Int) then (if 0 ≤ (wrap64 (7 - (Int.tmod x4 8))) then (if (Go.bits .xor .i64 (x3 / 64) (Go.bits .and .i64 (shr .i64 (wrap64 (bt x0 (wrap64 (Int.tdiv x4 8)))) (wrap64 (7 - (Int.tmod x4 8)))) 1)) = 1 then (spec_Bch.l0 k x0 (Go.bits .xor .i64 (Go.bits .and .i64 (wrap64 (x3 * 2)) 127) 69) (wrap64 (x4 + 1))) else (spec_Bch.l0 k x0 (Go.bits .and .i64 (wrap64 (x3 * 2)) 127) (wrap64 (x4 + 1)))) else (none)) else (none)) else (none)) else (some (wrap64 ((Go.bits .xor .i64 x3 127) * 2)))
def spec_Bch.f (k : Nat) (a0 : ByteArray) : Option (Int) := if (a0.size : Int) = 7 then (spec_Bch.l0 k a0 0 0) else (some (-1))
theorem spec_Bch.mono_l : ∀ k, (∀ y0 y1 y2, LeO (spec_Bch.l0 k y0 y1 y2) (spec_Bch.l0 (k + 1) y0 y1 y2))
  | 0 => fun _ _ _ r h => by simp [spec_Bch.l0] at h
  | k + 1 => by
    have ih0 := spec_Bch.mono_l k
    · intro y0 y1 y2
      unfold spec_Bch.l0
      repeat' first
      | (with_reducible exact ih0 _ _ _)
      | (with_reducible exact LeO.refl _)
      | (with_reducible exact LeO.none _)
      | (with_reducible refine LeO.ite ?_ ?_)
      | (with_reducible refine LeO.bind ?_ (fun _ => ?_))
      | exact ih0 _ _ _
      | exact LeO.none _
      | refine LeO.ite ?_ ?_
      | refine LeO.bind ?_ (fun _ => ?_)
theorem spec_Bch.mono : ∀ a0 k, LeO (spec_Bch.f k a0) (spec_Bch.f (k + 1) a0) := by
  intro a0 k
  have ih0 := spec_Bch.mono_l k
  unfold spec_Bch.f
  repeat' first
      | (with_reducible exact ih0 _ _ _)
      | (with_reducible exact LeO.refl _)
      | (with_reducible exact LeO.none _)
      | (with_reducible refine LeO.ite ?_ ?_)
      | (with_reducible refine LeO.bind ?_ (fun _ => ?_))
      | exact ih0 _ _ _
      | exact LeO.none _
      | refine LeO.ite ?_ ?_
      | refine LeO.bind ?_ (fun _ => ?_)
set_option maxHeartbeats 8000000 in
set_option maxRecDepth 100000 in
theorem spec_Bch.calls (k : Nat) (a0 : ByteArray) (r : Int) (w : World) (h : spec_Bch.f k a0 = some r) :
    Calls Try.prog 19 #[.string a0] w fun e w' => e = .returned (.int .i64 r) ∧ Drawn0 w w' := by
  have H : (if (a0.size : Int) = 7 then (spec_Bch.l0 k a0 0 0) else (some (-1))) = some r := h
  clear h
  by_cases c2 : (a0.size : Int) = 7
  · rw [if_pos c2] at H
    have c2b0 : ((a0.size : Int) == 7) = true := beq_iff_eq.mpr c2
    have c2b1 : ((a0.size : Int) != 7) = false := bne_eq_false_iff_eq.mpr c2
    clear c2
    have H' := Aside0.mk H
    clear H
    go_enter Try.func19, Try.ntmps19
    go_wp2
    go_loopg [3, 4] k (fun kq v3 v4 w' => ∃ (x3_1 : Int) (x4_1 : Int), v3 = .int .i64 x3_1 ∧ v4 = .int .i64 x4_1 ∧ Aside0 (spec_Bch.l0 kq a0 x3_1 x4_1 = some r) ∧ Aside0 (kq ≤ k) ∧ Drawn0 w w')
    case atStart => exact ⟨(0), (0), (by first | rfl | (simp; done) | (simp [*]; done)), (by first | rfl | (simp; done) | (simp [*]; done)), H', ⟨Nat.le_refl _⟩, by repeat (first | exact Drawn0.refl _ | apply Drawn0.step)⟩
    case round =>
      clear H'
      try clear c1
      try clear c2
      try clear c2b0
      try clear c2b1
      try clear p2
      obtain ⟨x3_1, x4_1, rfl, rfl, HA, HK1, ⟨m1, rfl⟩⟩ := hrel
      cases gk with
      | zero => exact absurd HA.out (by simp [spec_Bch.l0])
      | succ k1 =>
        have H := HA.out
        clear HA
        simp only [spec_Bch.l0] at H
        by_cases c3 : x4_1 < 56
        · rw [if_pos c3] at H
          have c3b0 : decide (x4_1 < 56) = true := decide_eq_true c3
          clear c3
          obtain ⟨ji4, hji4⟩ : ∃ j_ : Int, (wrap64 (Int.tdiv x4_1 8)) = j_ := ⟨_, rfl⟩
          replace H : (if 0 ≤ (ji4) then (if (ji4) < (a0.size : Int) then (if 0 ≤ (wrap64 (7 - (Int.tmod x4_1 8))) then (if (Go.bits .xor .i64 (x3_1 / 64) (Go.bits .and .i64 (shr .i64 (wrap64 (bt a0 (ji4))) (wrap64 (7 - (Int.tmod x4_1 8)))) 1)) = 1 then (spec_Bch.l0 k1 a0 (Go.bits .xor .i64 (Go.bits .and .i64 (wrap64 (x3_1 * 2)) 127) 69) (wrap64 (x4_1 + 1))) else (spec_Bch.l0 k1 a0 (Go.bits .and .i64 (wrap64 (x3_1 * 2)) 127) (wrap64 (x4_1 + 1)))) else (none)) else (none)) else (none)) = some r := by first | (rw [hji4] at H; exact H) | (simp only [hji4] at H ⊢; exact H)
          have hji4w : (IntKind.i64.wrap (Int.tdiv x4_1 8)) = ji4 := (i64_w _).trans hji4
          by_cases c5 : 0 ≤ (ji4)
          · rw [if_pos c5] at H
            have c5b0 : decide (0 ≤ (ji4)) = true := decide_eq_true c5
            clear c5
            by_cases c6 : (ji4) < (a0.size : Int)
            · rw [if_pos c6] at H
              have c6b0 : decide ((ji4) < (a0.size : Int)) = true := decide_eq_true c6
              clear c6
              obtain ⟨ji8, hji8⟩ : ∃ j_ : Int, (wrap64 (7 - (Int.tmod x4_1 8))) = j_ := ⟨_, rfl⟩
              replace H : (if 0 ≤ (ji8) then (if (Go.bits .xor .i64 (x3_1 / 64) (Go.bits .and .i64 (shr .i64 (wrap64 (bt a0 (ji4))) (ji8)) 1)) = 1 then (spec_Bch.l0 k1 a0 (Go.bits .xor .i64 (Go.bits .and .i64 (wrap64 (x3_1 * 2)) 127) 69) (wrap64 (x4_1 + 1))) else (spec_Bch.l0 k1 a0 (Go.bits .and .i64 (wrap64 (x3_1 * 2)) 127) (wrap64 (x4_1 + 1)))) else (none)) = some r := by first | (rw [hji8] at H; exact H) | (simp only [hji8] at H ⊢; exact H)
              have hji8w : (IntKind.i64.wrap (7 - (Int.tmod x4_1 8))) = ji8 := (i64_w _).trans hji8
              by_cases c9 : 0 ≤ (ji8)
              · rw [if_pos c9] at H
                have c9b0 := eq_true c9
                have c9b1 : decide (0 ≤ (ji8)) = true := decide_eq_true c9
                clear c9
                obtain ⟨ji10, hji10⟩ : ∃ j_ : Int, (shr .i64 (wrap64 (bt a0 (ji4))) (ji8)) = j_ := ⟨_, rfl⟩
                replace H : (if (Go.bits .xor .i64 (x3_1 / 64) (Go.bits .and .i64 (ji10) 1)) = 1 then (spec_Bch.l0 k1 a0 (Go.bits .xor .i64 (Go.bits .and .i64 (wrap64 (x3_1 * 2)) 127) 69) (wrap64 (x4_1 + 1))) else (spec_Bch.l0 k1 a0 (Go.bits .and .i64 (wrap64 (x3_1 * 2)) 127) (wrap64 (x4_1 + 1)))) = some r := by first | (rw [hji10] at H; exact H) | (simp only [hji10] at H ⊢; exact H)
                have hji10_ : ((wrap64 (bt a0 (ji4))) / 2 ^ min (ji8).toNat 64) = ji10 := hji10
                have hji10z : (ji8) ≤ 64 → ((wrap64 (bt a0 (ji4))) / 2 ^ (ji8).toNat) = ji10 := shr_small hji10
                by_cases c11 : (Go.bits .xor .i64 (x3_1 / 64) (Go.bits .and .i64 (ji10) 1)) = 1
                · rw [if_pos c11] at H
                  have c11b0 : ((Go.bits .xor .i64 (x3_1 / 64) (Go.bits .and .i64 (ji10) 1)) == 1) = true := beq_iff_eq.mpr c11
                  have c11b1 : ((Go.bits .xor .i64 (x3_1 / 64) (Go.bits .and .i64 (ji10) 1)) != 1) = false := bne_eq_false_iff_eq.mpr c11
                  clear c11
                  have H' := Aside0.mk H
                  clear H
                  have p7 : 0 ≤ ((ji4) : Int) := of_decide_eq_true (by first | (with_reducible assumption) | assumption)
                  have q7 : (ji4) < (a0.size : Int) := of_decide_eq_true (by first | (with_reducible assumption) | assumption)
                  have hx7 := bt_at a0 (ji4)
                  replace p7 := eq_true p7
                  replace q7 := eq_true q7
                  go_wp2
                  go_roundg k1
                  case measure => have := HK1.out; omega
                  case rel => exact ⟨(Go.bits .xor .i64 (Go.bits .and .i64 (wrap64 (x3_1 * 2)) 127) 69), (wrap64 (x4_1 + 1)), (by first | rfl | (simp; done) | (simp [*]; done)), (by first | rfl | (simp; done) | (simp [*]; done)), H', ⟨by have := HK1.out; omega⟩, by repeat (first | exact Drawn0.refl _ | apply Drawn0.step)⟩
                · rw [if_neg c11] at H
                  have c11b0 : ((Go.bits .xor .i64 (x3_1 / 64) (Go.bits .and .i64 (ji10) 1)) == 1) = false := beq_eq_false_iff_ne.mpr c11
                  have c11b1 : ((Go.bits .xor .i64 (x3_1 / 64) (Go.bits .and .i64 (ji10) 1)) != 1) = true := bne_iff_ne.mpr c11
                  have H' := Aside0.mk H
                  clear H
                  have p7 : 0 ≤ ((ji4) : Int) := of_decide_eq_true (by first | (with_reducible assumption) | assumption)
                  have q7 : (ji4) < (a0.size : Int) := of_decide_eq_true (by first | (with_reducible assumption) | assumption)
                  have hx7 := bt_at a0 (ji4)
                  replace p7 := eq_true p7
                  replace q7 := eq_true q7
                  go_wp2
                  go_roundg k1
                  case measure => have := HK1.out; omega
                  case rel => exact ⟨(Go.bits .and .i64 (wrap64 (x3_1 * 2)) 127), (wrap64 (x4_1 + 1)), (by first | rfl | (simp; done) | (simp [*]; done)), (by first | rfl | (simp; done) | (simp [*]; done)), H', ⟨by have := HK1.out; omega⟩, by repeat (first | exact Drawn0.refl _ | apply Drawn0.step)⟩
              · rw [if_neg c9] at H
                exact absurd H (by simp)
            · rw [if_neg c6] at H
              exact absurd H (by simp)
          · rw [if_neg c5] at H
            exact absurd H (by simp)
        · rw [if_neg c3] at H
          have c3b0 : decide (x4_1 < 56) = false := decide_eq_false c3
          clear c3
          obtain rfl := Option.some.inj H
          go_wp2
          go_ret
          exact ⟨by first | rfl | (simp; done) | (simp [*]; done), by repeat (first | exact Drawn0.refl _ | apply Drawn0.step)⟩
  · rw [if_neg c2] at H
    have c2b0 : ((a0.size : Int) == 7) = false := beq_eq_false_iff_ne.mpr c2
    have c2b1 : ((a0.size : Int) != 7) = true := bne_iff_ne.mpr c2
    obtain rfl := Option.some.inj H
    go_enter Try.func19, Try.ntmps19
    go_wp2
    go_ret
    exact ⟨by first | rfl | (simp; done) | (simp [*]; done), by repeat (first | exact Drawn0.refl _ | apply Drawn0.step)⟩

/-! ### laws_skIn: function 20 -/
def laws_skIn.f (a0 : Int) (a1 : Int) (a2 : Int) : Option (Bool) := if a0 ≥ a1 then (some (decide (a0 ≤ a2))) else (some false)
set_option maxHeartbeats 8000000 in
set_option maxRecDepth 100000 in
theorem laws_skIn.calls (a0 : Int) (a1 : Int) (a2 : Int) (r : Bool) (w : World) (h : laws_skIn.f a0 a1 a2 = some r) :
    Calls Try.prog 20 #[.int .i64 a0, .int .i64 a1, .int .i64 a2] w fun e w' => e = .returned (.bool r) ∧ Drawn0 w w' := by
  have H : (if a0 ≥ a1 then (some (decide (a0 ≤ a2))) else (some false)) = some r := h
  clear h
  by_cases c4 : a0 ≥ a1
  · rw [if_pos c4] at H
    have c4b0 : decide (a1 ≤ a0) = true := decide_eq_true c4
    clear c4
    obtain rfl := Option.some.inj H
    go_enter Try.func20, Try.ntmps20
    go_wp2
    go_ret
    exact ⟨by first | rfl | (simp; done) | (simp [*]; done), by repeat (first | exact Drawn0.refl _ | apply Drawn0.step)⟩
  · rw [if_neg c4] at H
    have c4b0 : decide (a1 ≤ a0) = false := decide_eq_false c4
    clear c4
    obtain rfl := Option.some.inj H
    go_enter Try.func20, Try.ntmps20
    go_wp2
    go_ret
    exact ⟨by first | rfl | (simp; done) | (simp [*]; done), by repeat (first | exact Drawn0.refl _ | apply Drawn0.step)⟩

/-! ### laws_FnBch: function 4 -/
def laws_FnBch.f (k : Nat) (l0 : List Int) (l1 : List Int) : Option (Bool) := if l0.length > 1048576 ∨ l1.length > 1048576 then (some true) else ((spec_DrawBch.f k l0).bind fun s => ((impl_Bch.f k s).bind fun n => ((spec_Bch.f k s).bind fun m => (if n = m then (if s.size = 7 then ((impl_Bch.f k (HSpoil.turned s (l1.length % 7) (1 + (l0.length : Int) % 127))).bind fun n2 => (if 0 ≤ n ∧ n ≤ 254 ∧ n % 2 = 0 ∧ ¬ n2 = n then (some true) else (none))) else (if n = -1 then (some true) else (none))) else (none)))))
theorem laws_FnBch.long (A0 : Option Addr) (c0 n0 : Nat) (A1 : Option Addr) (c1 n1 : Nat) (w : World) (h : n0 > 1048576 ∨ n1 > 1048576) :
    Calls Try.prog 4 #[.slice A0 n0 c0, .slice A1 n1 c1] w fun e w' => e = .returned (.bool true) ∧ Below w.heap.size w w' := by
  by_cases h0 : n0 > 1048576
  · have d0 : decide ((n0 : Int) > 1048576) = true := decide_eq_true (by omega)
    clear h h0
    go_enter Try.func4, Try.ntmps4
    go_wp2_with fail
    go_ret
    exact ⟨rfl, by repeat (first | exact Below.refl _ _ | apply Below.drew)⟩
  · have d0 : decide ((n0 : Int) > 1048576) = false := decide_eq_false (by omega)
    have d1 : decide ((n1 : Int) > 1048576) = true := decide_eq_true (by omega)
    clear h h0
    go_enter Try.func4, Try.ntmps4
    go_wp2_with fail
    go_ret
    exact ⟨rfl, by repeat (first | exact Below.refl _ _ | apply Below.drew)⟩
theorem laws_FnBch.skin (n : Int) (w : World) (h0 : 0 ≤ n) (h1 : n ≤ 254) :
    Calls Try.prog 20 #[.int .i64 n, .int .i64 0, .int .i64 254] w fun e w' => e = .returned (.bool true) ∧ w' = w := by
  have c1 : decide (n ≥ 0) = true := decide_eq_true h0
  have c2 : decide (n ≤ 254) = true := decide_eq_true h1
  go_enter Try.func20, Try.ntmps20
  go_wp2_with fail
  go_ret
  exact ⟨rfl, rfl⟩
theorem laws_FnBch.calls (k : Nat) (A0 : Option Addr) (c0 : Nat) (l0 : List Int) (A1 : Option Addr) (c1 : Nat) (l1 : List Int) (r : Bool) (w : World) (hr0 : Kd.C (Kd.int .u8) w A0 l0.length l0) (hc0 : l0.length ≤ c0) (hr1 : Kd.C (Kd.int .u8) w A1 l1.length l1) (hc1 : l1.length ≤ c1) (h : laws_FnBch.f k l0 l1 = some r) :
    Calls Try.prog 4 #[.slice A0 l0.length c0, .slice A1 l1.length c1] w fun e w' => e = .returned (.bool r) ∧ Below w.heap.size w w' := by
  unfold laws_FnBch.f at h
  by_cases hl : l0.length > 1048576 ∨ l1.length > 1048576
  · rw [if_pos hl] at h
    obtain rfl := Option.some.inj h
    exact laws_FnBch.long A0 c0 _ A1 c1 _ w hl
  rw [if_neg hl] at h
  obtain ⟨s, hA, h⟩ := Option.bind_eq_some_iff.1 h
  obtain ⟨n, hB, h⟩ := Option.bind_eq_some_iff.1 h
  obtain ⟨m, hC, h⟩ := Option.bind_eq_some_iff.1 h
  split at h
  · rename_i hnm
    subst hnm
    have d0 : decide ((l0.length : Int) > 1048576) = false := decide_eq_false (by omega)
    have d1 : decide ((l1.length : Int) > 1048576) = false := decide_eq_false (by omega)
    have e0 : (n != n) = false := bne_self_eq_false n
    have e1 : (n == n) = true := beq_self_eq_true n
    have HA := Aside0.mk hA
    have HB := Aside0.mk hB
    have HC := Aside0.mk hC
    have HR := Aside0.mk hr0
    have HC0 := Aside0.mk hc0
    clear hA hB hC hr0 hr1 hc0 hc1 hl
    split at h
    · rename_i h7
      obtain ⟨n2, hD, h⟩ := Option.bind_eq_some_iff.1 h
      obtain ⟨kk, hkk⟩ : ∃ kk, l1.length % 7 = kk := ⟨_, rfl⟩
      have hkl : kk < s.size := by omega
      rw [hkk] at hD
      have l0b : l0.length ≤ 1048576 := by have := of_decide_eq_false d0; omega
      have l1b : l1.length ≤ 1048576 := by have := of_decide_eq_false d1; omega
      have i0 : (0 : Int) ≤ (kk : Int) := by omega
      have i1 : (kk : Int) < (s.size : Int) := by omega
      have i2 : (kk : Int).toNat = kk := Int.toNat_natCast kk
      have ek : (l1.length : Int) % 7 = (kk : Int) := by omega
      have ey : ((l0.length : Int)).tmod 127 = (l0.length : Int) % 127 := Aux.tmodp (by omega)
      have b0 : 0 ≤ (l0.length : Int) % 127 ∧ (l0.length : Int) % 127 < 127 := by omega
      obtain ⟨q, hq⟩ : ∃ q, q = (l0.length : Int) % 127 := ⟨_, rfl⟩
      rw [← hq] at ey b0 hD
      have ew2 : (1 + q) % 256 = 1 + q := by omega
      have ew1 : wrap64 (1 + q) = 1 + q := Aux.w64 (by omega) (by omega)
      by_cases hc2 : 0 ≤ n ∧ n ≤ 254 ∧ n % 2 = 0 ∧ ¬ n2 = n
      rotate_left
      · rw [if_neg hc2] at h
        exact absurd h (by simp)
      rw [if_pos hc2] at h
      obtain rfl := Option.some.inj h
      obtain ⟨n0, n1, n3, n4⟩ := hc2
      have c1' : decide (n ≥ 0) = true := decide_eq_true n0
      have c2' : decide (n ≤ 254) = true := decide_eq_true n1
      have c3' : (n % 2 == 0) = true := beq_iff_eq.mpr n3
      have c4' : (n2 != n) = true := bne_iff_ne.mpr n4
      have e7 : ((s.size : Int) != 7) = false := by
        rw [h7]
        rfl
      have hs8 : s.size ≤ 8 := by omega
      clear h n3 n4 h7
      go_enter Try.func4, Try.ntmps4
      go_wp2_with fail
      refine (spec_DrawBch.calls k A0 c0 l0 s _ HR.out HC0.out HA.out).mono ?_
      rintro e w1 ⟨rfl, hb1⟩
      have H1 := Aside0.mk hb1
      clear hb1
      go_wp2_with fail
      refine (impl_Bch.calls k s n _ HB.out).mono ?_
      rintro e w2 ⟨rfl, hb2⟩
      have H2 := Aside0.mk hb2.below
      clear hb2
      go_wp2_with fail
      refine (spec_Bch.calls k s n _ HC.out).mono ?_
      rintro e w3 ⟨rfl, hb3⟩
      have H3 := Aside0.mk hb3.below
      clear hb3
      have hm := HSpoil.made_new w3 s
      have hlen := bytesOf_length s
      have hc := HSpoil.made_cell hm (j := kk) (by omega)
      have hf := HSpoil.made_frozen hm (j := kk) (by omega)
      have kc : ∀ (y : Int) (c : Nat), (convert 28 9 (.slice (some ⟨w3.heap.size, 0, none⟩) s.size c)).run Try.prog ((Lib.bytesWorld w3 5 s).setCell ⟨w3.heap.size, kk, none⟩ (.int .u8 y)) = .ok (.string (strOfNums ((bytesOf s).set kk y))) ((Lib.bytesWorld w3 5 s).setCell ⟨w3.heap.size, kk, none⟩ (.int .u8 y)) := by
        intro y c
        have h2 := HSpoil.made_reads (HSpoil.made_set hm kk (by omega) y) (by rw [List.length_set]; omega)
        rw [List.length_set, hlen] at h2
        exact string_of_reads Try.underlying28 Try.underlying5 Try.underlying9 h2
      clear hm hlen
      have kb := fun W => print_bytes (P := Try.prog) 9 28 5 Try.underlying9 Try.underlying28 Try.underlying5 s W
      go_wp2_with fail
      refine (laws_FnBch.skin n _ (of_decide_eq_true c1') (of_decide_eq_true c2')).mono ?_
      rintro e w4 ⟨rfl, rfl⟩
      go_wp2_with fail
      have hD' : impl_Bch.f k (strOfNums ((bytesOf s).set kk (bits .xor .u8 ((bytesOf s)[kk]?.getD 0) (1 + (l0.length : Int) % 127)))) = some n2 := by
        rw [← hD, hq]
        unfold HSpoil.turned
        rw [List.getD_eq_getElem?_getD]
      refine (impl_Bch.calls k _ n2 _ hD').mono ?_
      rintro e w5 ⟨rfl, hb5⟩
      have H5 := Aside0.mk hb5.below
      clear hb5
      go_wp2_with fail
      go_ret
      have hs3 := Nat.le_trans H1.out.size (Nat.le_trans H2.out.size H3.out.size)
      have hB3 := ((H1.out.trans (H2.out.mono H1.out.size)).trans (H3.out.mono (Nat.le_trans H1.out.size H2.out.size))).trans ((bytes_below (Below.refl w.heap.size w3) hs3 5 s).setCell (p := ⟨w3.heap.size, kk, none⟩) hs3 (.int .u8 (bits .xor .u8 ((bytesOf s)[kk]?.getD 0) (1 + (l0.length : Int) % 127))))
      exact ⟨rfl, hB3.trans (H5.out.mono hB3.size)⟩
    · rename_i h7
      split at h
      · rename_i hn
        obtain rfl := Option.some.inj h
        have e7 : ((s.size : Int) != 7) = true := bne_iff_ne.mpr (by omega)
        have en : (n == -1) = true := beq_iff_eq.mpr hn
        clear h h7 hn
        go_enter Try.func4, Try.ntmps4
        go_wp2_with fail
        refine (spec_DrawBch.calls k A0 c0 l0 s _ HR.out HC0.out HA.out).mono ?_
        rintro e w1 ⟨rfl, hb1⟩
        have H1 := Aside0.mk hb1
        clear hb1
        go_wp2_with fail
        refine (impl_Bch.calls k s n _ HB.out).mono ?_
        rintro e w2 ⟨rfl, hb2⟩
        have H2 := Aside0.mk hb2.below
        clear hb2
        go_wp2_with fail
        refine (spec_Bch.calls k s n _ HC.out).mono ?_
        rintro e w3 ⟨rfl, hb3⟩
        have H3 := Aside0.mk hb3.below
        clear hb3
        go_wp2_with fail
        refine (spec_Bch.calls k s n _ HC.out).mono ?_
        rintro e w4 ⟨rfl, hb4⟩
        have H4 := Aside0.mk hb4.below
        clear hb4
        go_wp2_with fail
        go_ret
        have hB3 := (H1.out.trans (H2.out.mono H1.out.size)).trans (H3.out.mono (Nat.le_trans H1.out.size H2.out.size))
        exact ⟨rfl, hB3.trans (H4.out.mono hB3.size)⟩
      · exact absurd h (by simp)
  · exact absurd h (by simp)


/-- THE ONE PURE STATEMENT of laws_FnBch: yours. -/
def laws_FnBch.Pure : Prop := ∀ (l0 : List Int) (l1 : List Int), l0.length ≤ maxLen → l0.length * 1 ≤ 140737488351232 → (∀ x ∈ l0, (Lit.int .u8 x).wf = true) → l1.length ≤ maxLen → l1.length * 1 ≤ 140737488351232 → (∀ x ∈ l1, (Lit.int .u8 x).wf = true) → ∃ k, laws_FnBch.f k l0 l1 = some true
theorem laws_FnBch.walk (P : laws_FnBch.Pure) (a0 : Option Addr) (len0 cap0 : Nat) (z0 : List Int) (a1 : Option Addr) (len1 cap1 : Nat) (z1 : List Int) (w : World) (w0 : (a0 = none ∧ len0 = 0 ∧ cap0 = 0 ∧ z0 = []) ∨ ∃ x, a0 = some x ∧ len0 ≤ cap0 ∧ cap0 ≤ maxLen ∧ z0.length = cap0 ∧ (∀ i, i < z0.length → w.cell? (x.add i) = some (.int .u8 (z0.getD i 0))) ∧ ∀ n ∈ z0, (Lit.int .u8 n).wf = true) (y0 : len0 * 1 ≤ 140737488351232) (w1 : (a1 = none ∧ len1 = 0 ∧ cap1 = 0 ∧ z1 = []) ∨ ∃ x, a1 = some x ∧ len1 ≤ cap1 ∧ cap1 ≤ maxLen ∧ z1.length = cap1 ∧ (∀ i, i < z1.length → w.cell? (x.add i) = some (.int .u8 (z1.getD i 0))) ∧ ∀ n ∈ z1, (Lit.int .u8 n).wf = true) (y1 : len1 * 1 ≤ 140737488351232) :
    Calls Try.prog 4 #[.slice a0 len0 cap0, .slice a1 len1 cap1] w fun e w' => e = .returned (.bool true) ∧ Below w.heap.size w w' := by
  obtain ⟨l0, rfl, hr0, hm0, hw0, hc0⟩ := ReadsInt.ofRowC w0
  obtain ⟨l1, rfl, hr1, hm1, hw1, hc1⟩ := ReadsInt.ofRowC w1
  obtain ⟨k, h⟩ := P l0 l1 hm0 y0 hw0 hm1 y1 hw1
  refine (laws_FnBch.calls k _ _ l0 _ _ l1 true w (Kd.C_of_reads (d := (0 : Int)) (h1 := fun _ => rfl) hr0) hc0 (Kd.C_of_reads (d := (0 : Int)) (h1 := fun _ => rfl) hr1) hc1 h).mono ?_
  rintro e w' ⟨rfl, hd⟩
  exact ⟨rfl, hd⟩

end Go.Proofs.Ytclhopldchndiaa.PFnBch
