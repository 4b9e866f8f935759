-- written by a program of this session (tools/hprint.py, a turned copy of the kit print) out of the translation; Lean checks it
import Derived.Test.YtgioeghaopoabaaPFnCrc16x0
import Derived.Test.YtgioeghaopoabaaPFnCrc16x1
namespace Go.Proofs.Ytgioeghaopoabaa.PFnCrc16
open Go.RowKit Go.Proofs.YtgioeghaopoabaaW.PrintWords Go.Proofs.YtgioeghaopoabaaW.PrintLast Go.Proofs.YtgioeghaopoabaaW.PrintMore
attribute [local go_sem] max2_int min2_int max_two min_two max_three min_three max_four min_four   -- for this text's walks alone
set_option linter.unusedVariables false
set_option linter.unusedSimpArgs false

/-! ### laws_FnCrc16: function 4 -/
def laws_FnCrc16.f (k : Nat) (l0 : List Int) (l1 : List Int) : Option (Bool) := if l0.length > 1048576 ∨ l1.length > 1048576 then (some true) else ((spec_DrawCrc16.f k l0).bind fun s => ((impl_Crc16.f s).bind fun n => ((spec_Crc16.f k s).bind fun m => ((impl_Crc16.f (⟨#[49, 50, 51, 52, 53, 54, 55, 56, 57]⟩ : ByteArray)).bind fun c => (if n = m ∧ c = 10673 ∧ 0 ≤ n ∧ n ≤ 65535 then (if s.size = 0 then (some true) else (if s.size ≤ 1000000 then ((impl_Crc16.f (HMade.turned s (l1.length % s.size) (1 + (l0.length : Int) % 255))).bind fun n2 => (if n2 = n then (none) else (some true))) else (none))) else (none))))))
theorem laws_FnCrc16.long (A0 : Option Addr) (c0 n0 : Nat) (A1 : Option Addr) (c1 n1 : Nat) (w : World) (h : n0 > 1048576 ∨ n1 > 1048576) :
    Calls Try.prog 4 #[.slice A0 n0 c0, .slice A1 n1 c1] w fun e w' => e = .returned (.bool true) ∧ Below w.heap.size w w' := by
  by_cases h0 : n0 > 1048576
  · have d0 : decide ((n0 : Int) > 1048576) = true := decide_eq_true (by omega)
    clear h h0
    go_enter Try.func4, Try.ntmps4
    go_wp2_with fail
    go_ret
    exact ⟨rfl, by repeat (first | exact Below.refl _ _ | apply Below.drew)⟩
  · have d0 : decide ((n0 : Int) > 1048576) = false := decide_eq_false (by omega)
    have d1 : decide ((n1 : Int) > 1048576) = true := decide_eq_true (by omega)
    clear h h0
    go_enter Try.func4, Try.ntmps4
    go_wp2_with fail
    go_ret
    exact ⟨rfl, by repeat (first | exact Below.refl _ _ | apply Below.drew)⟩
theorem laws_FnCrc16.skin (n : Int) (w : World) (h0 : 0 ≤ n) (h1 : n ≤ 65535) :
    Calls Try.prog 13 #[.int .i64 n, .int .i64 0, .int .i64 65535] w fun e w' => e = .returned (.bool true) ∧ w' = w := by
  have c1 : decide (n ≥ 0) = true := decide_eq_true h0
  have c2 : decide (n ≤ 65535) = true := decide_eq_true h1
  go_enter Try.func13, Try.ntmps13
  go_wp2_with fail
  go_ret
  exact ⟨rfl, rfl⟩
theorem laws_FnCrc16.idx (a n : Nat) : (a : Int) % (n : Int) = ((a % n : Nat) : Int) := (Int.natCast_emod a n).symm
theorem laws_FnCrc16.calls (k : Nat) (A0 : Option Addr) (c0 : Nat) (l0 : List Int) (A1 : Option Addr) (c1 : Nat) (l1 : List Int) (r : Bool) (w : World) (hr0 : Kd.C (Kd.int .u8) w A0 l0.length l0) (hc0 : l0.length ≤ c0) (hr1 : Kd.C (Kd.int .u8) w A1 l1.length l1) (hc1 : l1.length ≤ c1) (h : laws_FnCrc16.f k l0 l1 = some r) :
    Calls Try.prog 4 #[.slice A0 l0.length c0, .slice A1 l1.length c1] w fun e w' => e = .returned (.bool r) ∧ Below w.heap.size w w' := by
  unfold laws_FnCrc16.f at h
  by_cases hl : l0.length > 1048576 ∨ l1.length > 1048576
  · rw [if_pos hl] at h
    obtain rfl := Option.some.inj h
    exact laws_FnCrc16.long A0 c0 _ A1 c1 _ w hl
  rw [if_neg hl] at h
  obtain ⟨s, hA, h2⟩ := Option.bind_eq_some_iff.1 h
  clear h
  obtain ⟨n, hB, h3⟩ := Option.bind_eq_some_iff.1 h2
  clear h2
  obtain ⟨m, hC, h4⟩ := Option.bind_eq_some_iff.1 h3
  clear h3
  obtain ⟨c, hK, h⟩ := Option.bind_eq_some_iff.1 h4
  clear h4
  by_cases hcc : n = m ∧ c = 10673 ∧ 0 ≤ n ∧ n ≤ 65535
  · rw [if_pos hcc] at h
    obtain ⟨hnm, hcv, n0, n1⟩ := hcc
    subst hnm
    subst hcv
    have d0 : decide ((l0.length : Int) > 1048576) = false := decide_eq_false (by omega)
    have d1 : decide ((l1.length : Int) > 1048576) = false := decide_eq_false (by omega)
    have e0 : (n != n) = false := bne_self_eq_false n
    have e1 : (n == n) = true := beq_self_eq_true n
    have HA := Aside0.mk hA
    have HB := Aside0.mk hB
    have HC := Aside0.mk hC
    have HK := Aside0.mk hK
    have HR := Aside0.mk hr0
    have HC0 := Aside0.mk hc0
    clear hA hB hC hK hr0 hr1 hc0 hc1 hl
    by_cases hs0 : s.size = 0
    · rw [if_pos hs0] at h
      obtain rfl := Option.some.inj h
      have ex : (s.toList == ([] : List UInt8)) = true := by
        rw [beq_iff_eq, ByteArray.toList_eq]
        have h0 : s.data = #[] := Array.eq_empty_of_size_eq_zero hs0
        rw [h0]
      clear h hs0
      go_enter Try.func4, Try.ntmps4
      go_wp2_with fail
      refine (spec_DrawCrc16.calls k A0 c0 l0 s _ HR.out HC0.out HA.out).mono ?_
      rintro e w1 ⟨rfl, hb1⟩
      have H1 := Aside0.mk hb1
      clear hb1
      go_wp2_with fail
      refine (impl_Crc16.calls s n _ HB.out).mono ?_
      rintro e w2 ⟨rfl, hb2⟩
      have H2 := Aside0.mk hb2
      clear hb2
      go_wp2_with fail
      refine (spec_Crc16.calls k s n _ HC.out).mono ?_
      rintro e w3 ⟨rfl, hb3⟩
      have H3 := Aside0.mk hb3.below
      clear hb3
      go_wp2_with fail
      refine (impl_Crc16.calls (⟨#[49, 50, 51, 52, 53, 54, 55, 56, 57]⟩ : ByteArray) 10673 _ HK.out).mono ?_
      rintro e w4 ⟨rfl, hb4⟩
      have H4 := Aside0.mk hb4
      clear hb4
      go_wp2_with fail
      refine (laws_FnCrc16.skin n _ n0 n1).mono ?_
      rintro e w5 ⟨rfl, hww⟩
      obtain rfl : w4 = w5 := hww.symm
      go_wp2_with fail
      refine (spec_Crc16.calls k s n _ HC.out).mono ?_
      rintro e w6 ⟨rfl, hb6⟩
      have H6 := Aside0.mk hb6.below
      clear hb6
      go_wp2_with fail
      refine (impl_Crc16.calls (⟨#[49, 50, 51, 52, 53, 54, 55, 56, 57]⟩ : ByteArray) 10673 _ HK.out).mono ?_
      rintro e w7 ⟨rfl, hb7⟩
      have H7 := Aside0.mk hb7
      clear hb7
      go_wp2_with fail
      go_ret
      have hB4 := ((H1.out.trans (H2.out.mono H1.out.size)).trans (H3.out.mono (Nat.le_trans H1.out.size H2.out.size))).trans (H4.out.mono (Nat.le_trans H1.out.size (Nat.le_trans H2.out.size H3.out.size)))
      have hB6 := hB4.trans (H6.out.mono hB4.size)
      exact ⟨rfl, hB6.trans (H7.out.mono hB6.size)⟩
    · rw [if_neg hs0] at h
      by_cases hsm : s.size ≤ 1000000
      rotate_left
      · rw [if_neg hsm] at h
        exact absurd h (by simp)
      rw [if_pos hsm] at h
      have ex : (s.toList == ([] : List UInt8)) = false := by
        rw [beq_eq_false_iff_ne]
        intro e
        rw [ByteArray.toList_eq] at e
        have h3 : s.data.size = 0 := by
          have := congrArg List.length e
          simpa using this
        have : s.size = s.data.size := rfl
        omega
      obtain ⟨kk, hkk⟩ : ∃ kk, l1.length % s.size = kk := ⟨_, rfl⟩
      have hkl : kk < s.size := by
        have := Nat.mod_lt l1.length (y := s.size) (by omega)
        omega
      have ek := laws_FnCrc16.idx l1.length s.size
      rw [hkk] at h ek
      have l0b : l0.length ≤ 1048576 := by have := of_decide_eq_false d0; omega
      have l1b : l1.length ≤ 1048576 := by have := of_decide_eq_false d1; omega
      have s1 : 1 ≤ (s.size : Int) := by omega
      have s2 : (s.size : Int) ≤ 1000000 := by omega
      have i0 : (0 : Int) ≤ (kk : Int) := by omega
      have i1 : (kk : Int) < (s.size : Int) := by omega
      have i2 : (kk : Int).toNat = kk := Int.toNat_natCast kk
      have ey : ((l0.length : Int)).tmod 255 = (l0.length : Int) % 255 := Aux.tmodp (by omega)
      have b0 : 0 ≤ (l0.length : Int) % 255 ∧ (l0.length : Int) % 255 < 255 := by omega
      obtain ⟨q, hq⟩ : ∃ q, q = (l0.length : Int) % 255 := ⟨_, rfl⟩
      rw [← hq] at ey b0 h
      have ew2 : (1 + q) % 256 = 1 + q := by omega
      have ew1 : wrap64 (1 + q) = 1 + q := Aux.w64 (by omega) (by omega)
      obtain ⟨n2, hD, h5⟩ := Option.bind_eq_some_iff.1 h
      clear h
      by_cases hc2 : n2 = n
      · rw [if_pos hc2] at h5
        exact absurd h5 (by simp)
      rw [if_neg hc2] at h5
      obtain rfl := Option.some.inj h5
      have c4' : (n2 != n) = true := bne_iff_ne.mpr hc2
      have hs8 : s.size ≤ 1000000 := hsm
      clear h5 hc2 hs0 hsm
      go_enter Try.func4, Try.ntmps4
      go_wp2_with fail
      refine (spec_DrawCrc16.calls k A0 c0 l0 s _ HR.out HC0.out HA.out).mono ?_
      rintro e w1 ⟨rfl, hb1⟩
      have H1 := Aside0.mk hb1
      clear hb1
      go_wp2_with fail
      refine (impl_Crc16.calls s n _ HB.out).mono ?_
      rintro e w2 ⟨rfl, hb2⟩
      have H2 := Aside0.mk hb2
      clear hb2
      go_wp2_with fail
      refine (spec_Crc16.calls k s n _ HC.out).mono ?_
      rintro e w3 ⟨rfl, hb3⟩
      have H3 := Aside0.mk hb3.below
      clear hb3
      go_wp2_with fail
      refine (impl_Crc16.calls (⟨#[49, 50, 51, 52, 53, 54, 55, 56, 57]⟩ : ByteArray) 10673 _ HK.out).mono ?_
      rintro e w4 ⟨rfl, hb4⟩
      have H4 := Aside0.mk hb4
      clear hb4
      go_wp2_with fail
      refine (laws_FnCrc16.skin n _ n0 n1).mono ?_
      rintro e w5 ⟨rfl, hww⟩
      obtain rfl : w4 = w5 := hww.symm
      have hm := HMade.made_new w4 s
      have hlen := bytesOf_length s
      have hc := HMade.made_cell hm (j := kk) (by omega)
      have hf := HMade.made_frozen hm (j := kk) (by omega)
      have kc : ∀ (y : Int) (c : Nat), (convert 24 9 (.slice (some ⟨w4.heap.size, 0, none⟩) s.size c)).run Try.prog ((Lib.bytesWorld w4 5 s).setCell ⟨w4.heap.size, kk, none⟩ (.int .u8 y)) = .ok (.string (strOfNums ((bytesOf s).set kk y))) ((Lib.bytesWorld w4 5 s).setCell ⟨w4.heap.size, kk, none⟩ (.int .u8 y)) := by
        intro y c
        have h2 := HMade.made_reads (HMade.made_set hm kk (by omega) y) (by rw [List.length_set]; omega)
        rw [List.length_set, hlen] at h2
        exact string_of_reads Try.underlying24 Try.underlying5 Try.underlying9 h2
      clear hm hlen
      have kb := fun W => print_bytes (P := Try.prog) 9 24 5 Try.underlying9 Try.underlying24 Try.underlying5 s W
      go_wp2_with fail
      have hD' : impl_Crc16.f (strOfNums ((bytesOf s).set kk (bits .xor .u8 ((bytesOf s)[kk]?.getD 0) (1 + (l0.length : Int) % 255)))) = some n2 := by
        rw [← hD, hq]
        unfold HMade.turned
        rw [List.getD_eq_getElem?_getD]
      refine (impl_Crc16.calls _ n2 _ hD').mono ?_
      rintro e w6 ⟨rfl, hb6⟩
      have H6 := Aside0.mk hb6
      clear hb6
      go_wp2_with fail
      go_ret
      have hs3 := Nat.le_trans H1.out.size (Nat.le_trans H2.out.size H3.out.size)
      have hs4 := Nat.le_trans hs3 H4.out.size
      have hB4 := ((H1.out.trans (H2.out.mono H1.out.size)).trans (H3.out.mono (Nat.le_trans H1.out.size H2.out.size))).trans (H4.out.mono hs3)
      have hB5 := hB4.trans ((bytes_below (Below.refl w.heap.size w4) hs4 5 s).setCell (p := ⟨w4.heap.size, kk, none⟩) hs4 (.int .u8 (bits .xor .u8 ((bytesOf s)[kk]?.getD 0) (1 + (l0.length : Int) % 255))))
      exact ⟨rfl, hB5.trans (H6.out.mono hB5.size)⟩
  · rw [if_neg hcc] at h
    exact absurd h (by simp)


/-- THE ONE PURE STATEMENT of laws_FnCrc16: yours. -/
def laws_FnCrc16.Pure : Prop := ∀ (l0 : List Int) (l1 : List Int), l0.length ≤ maxLen → l0.length * 1 ≤ 140737488351232 → (∀ x ∈ l0, (Lit.int .u8 x).wf = true) → l1.length ≤ maxLen → l1.length * 1 ≤ 140737488351232 → (∀ x ∈ l1, (Lit.int .u8 x).wf = true) → ∃ k, laws_FnCrc16.f k l0 l1 = some true
theorem laws_FnCrc16.walk (P : laws_FnCrc16.Pure) (a0 : Option Addr) (len0 cap0 : Nat) (z0 : List Int) (a1 : Option Addr) (len1 cap1 : Nat) (z1 : List Int) (w : World) (w0 : (a0 = none ∧ len0 = 0 ∧ cap0 = 0 ∧ z0 = []) ∨ ∃ x, a0 = some x ∧ len0 ≤ cap0 ∧ cap0 ≤ maxLen ∧ z0.length = cap0 ∧ (∀ i, i < z0.length → w.cell? (x.add i) = some (.int .u8 (z0.getD i 0))) ∧ ∀ n ∈ z0, (Lit.int .u8 n).wf = true) (y0 : len0 * 1 ≤ 140737488351232) (w1 : (a1 = none ∧ len1 = 0 ∧ cap1 = 0 ∧ z1 = []) ∨ ∃ x, a1 = some x ∧ len1 ≤ cap1 ∧ cap1 ≤ maxLen ∧ z1.length = cap1 ∧ (∀ i, i < z1.length → w.cell? (x.add i) = some (.int .u8 (z1.getD i 0))) ∧ ∀ n ∈ z1, (Lit.int .u8 n).wf = true) (y1 : len1 * 1 ≤ 140737488351232) :
    Calls Try.prog 4 #[.slice a0 len0 cap0, .slice a1 len1 cap1] w fun e w' => e = .returned (.bool true) ∧ Below w.heap.size w w' := by
  obtain ⟨l0, rfl, hr0, hm0, hw0, hc0⟩ := ReadsInt.ofRowC w0
  obtain ⟨l1, rfl, hr1, hm1, hw1, hc1⟩ := ReadsInt.ofRowC w1
  obtain ⟨k, h⟩ := P l0 l1 hm0 y0 hw0 hm1 y1 hw1
  refine (laws_FnCrc16.calls k _ _ l0 _ _ l1 true w (Kd.C_of_reads (d := (0 : Int)) (h1 := fun _ => rfl) hr0) hc0 (Kd.C_of_reads (d := (0 : Int)) (h1 := fun _ => rfl) hr1) hc1 h).mono ?_
  rintro e w' ⟨rfl, hd⟩
  exact ⟨rfl, hd⟩

end Go.Proofs.Ytgioeghaopoabaa.PFnCrc16
