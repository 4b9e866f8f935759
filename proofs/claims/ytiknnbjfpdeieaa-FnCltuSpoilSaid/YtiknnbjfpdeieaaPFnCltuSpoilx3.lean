-- written by a program of this session (tools/hprint.py, a turned copy of the kit print) out of the translation; Lean checks it
import Derived.Test.YtiknnbjfpdeieaaPFnCltuSpoilx0
import Derived.Test.YtiknnbjfpdeieaaPFnCltuSpoilx1
import Derived.Test.YtiknnbjfpdeieaaPFnCltuSpoilx2
namespace Go.Proofs.Ytiknnbjfpdeieaa.PFnCltuSpoil
open Go.RowKit Go.Proofs.YtiknnbjfpdeieaaW.PrintWords Go.Proofs.YtiknnbjfpdeieaaW.PrintLast Go.Proofs.YtiknnbjfpdeieaaW.PrintMore
attribute [local go_sem] max2_int min2_int max_two min_two max_three min_three max_four min_four   -- for this text's walks alone
set_option linter.unusedVariables false
set_option linter.unusedSimpArgs false

/-! ### impl_CltuRead: function 12 -/
noncomputable def impl_CltuRead.f (k : Nat) (a0 : ByteArray) : Option (ByteArray) := (strings_CutPrefix.f a0 (⟨#[235, 144]⟩ : ByteArray)).bind fun bt155 => (if bt155.2 = true then ((impl_CltuGet.f k bt155.1).bind fun bt157 => (some bt157.1)) else (some (⟨#[]⟩ : ByteArray)))
theorem impl_CltuRead.mono : ∀ a0 k, LeO (impl_CltuRead.f k a0) (impl_CltuRead.f (k + 1) a0) := by
  intro a0 k
  unfold impl_CltuRead.f
  repeat' first
      | (with_reducible exact impl_CltuGet.mono _ _)
      | (with_reducible exact LeO.refl _)
      | (with_reducible exact LeO.none _)
      | (with_reducible refine LeO.ite ?_ ?_)
      | (with_reducible refine LeO.bind ?_ (fun _ => ?_))
      | exact impl_CltuGet.mono _ _
      | exact LeO.none _
      | refine LeO.ite ?_ ?_
      | refine LeO.bind ?_ (fun _ => ?_)
set_option maxHeartbeats 8000000 in
set_option maxRecDepth 100000 in
theorem impl_CltuRead.calls (k : Nat) (a0 : ByteArray) (r : ByteArray) (w : World) (h : impl_CltuRead.f k a0 = some r) :
    Calls Try.prog 12 #[.string a0] w fun e w' => e = .returned (.string r) ∧ Below w.heap.size w w' := by
  have HB := Aside0.mk (Below.refl w.heap.size w)
  have H : ((strings_CutPrefix.f a0 (⟨#[235, 144]⟩ : ByteArray)).bind fun bt155 => (if bt155.2 = true then ((impl_CltuGet.f k bt155.1).bind fun bt157 => (some bt157.1)) else (some (⟨#[]⟩ : ByteArray)))) = some r := h
  clear h
  replace H := Option.bind_eq_some_iff.mp H
  obtain ⟨⟨t155, t156⟩, A20, H⟩ := H
  replace H : (if t156 = true then ((impl_CltuGet.f k t155).bind fun bt157 => (some bt157.1)) else (some (⟨#[]⟩ : ByteArray))) = some r := H
  have A2 := Aside0.mk A20
  clear A20
  by_cases c3 : t156 = true
  · subst c3
    have H1 : ((impl_CltuGet.f k t155).bind fun bt157 => (some bt157.1)) = some r := by rw [if_pos rfl] at H; exact H
    clear H
    have H := H1
    clear H1
    replace H := Option.bind_eq_some_iff.mp H
    obtain ⟨⟨t157, t158⟩, A40, H⟩ := H
    replace H : (some t157) = some r := H
    have A4 := Aside0.mk A40
    clear A40
    obtain rfl := Option.some.inj H
    go_enter Try.func12, Try.ntmps12
    go_wp2_with (first | ((with_reducible refine gate_callee (f := 30) rfl ?_); refine goesL_ (some 9) rfl rfl Try.func30 (by kernel_rfl) rfl #[.string a0, .string (⟨#[235, 144]⟩ : ByteArray)] rfl (by (try simp only [List.map_toArray, List.map_cons, List.map_nil]); first | done | rfl | (simp only [List.length_drop, List.length_take]; rfl)) ?_; (with_reducible refine (strings_CutPrefix.calls a0 (⟨#[235, 144]⟩ : ByteArray) t155 true _ A2.out).mono ?_); rintro e w' ⟨rfl, ⟨nd, rfl⟩⟩; refine ⟨_, rfl, ?_⟩) | ((with_reducible refine gate_callee (f := 14) rfl ?_); refine goesL_ (some 16) rfl rfl Try.func14 (by kernel_rfl) rfl #[.string t155] rfl (by (try simp only [List.map_toArray, List.map_cons, List.map_nil]); first | done | rfl | (simp only [List.length_drop, List.length_take]; rfl)) ?_; (with_reducible refine (impl_CltuGet.calls k t155 t157 t158 _ A4.out).mono ?_); rintro e w5 ⟨rfl, hb⟩; refine ⟨_, rfl, ?_⟩; have n0_ := Aside0.mk (below_step (by repeat (first | (with_reducible first | exact HB.out | apply below_alloc | apply pw_below_drewN | apply below_drew1) | exact HB.out)) hb); clear HB; have HB := n0_; clear n0_; (try clear hb); (try clear hb2); (try clear hk); (try clear hi)))
    go_ret
    exact ⟨by first | rfl | (simp [errW_none, errW_some] <;> rfl) | (simp [*, errW_none, errW_some] <;> rfl), by repeat (first | (with_reducible first | exact HB.out | apply below_alloc | apply pw_below_drewN | apply below_drew1) | exact HB.out)⟩
  · replace c3 := Bool.eq_false_iff.mpr c3
    subst c3
    have H1 : (some (⟨#[]⟩ : ByteArray)) = some r := by rw [if_neg (show ¬ (false = true) by decide)] at H; exact H
    clear H
    have H := H1
    clear H1
    obtain rfl := Option.some.inj H
    go_enter Try.func12, Try.ntmps12
    go_wp2_with (first | ((with_reducible refine gate_callee (f := 30) rfl ?_); refine goesL_ (some 9) rfl rfl Try.func30 (by kernel_rfl) rfl #[.string a0, .string (⟨#[235, 144]⟩ : ByteArray)] rfl (by (try simp only [List.map_toArray, List.map_cons, List.map_nil]); first | done | rfl | (simp only [List.length_drop, List.length_take]; rfl)) ?_; (with_reducible refine (strings_CutPrefix.calls a0 (⟨#[235, 144]⟩ : ByteArray) t155 false _ A2.out).mono ?_); rintro e w' ⟨rfl, ⟨nd, rfl⟩⟩; refine ⟨_, rfl, ?_⟩))
    go_ret
    exact ⟨by first | rfl | (simp [errW_none, errW_some] <;> rfl) | (simp [*, errW_none, errW_some] <;> rfl), by repeat (first | (with_reducible first | exact HB.out | apply below_alloc | apply pw_below_drewN | apply below_drew1) | exact HB.out)⟩

/-! ### laws_FnCltuSpoil: function 4 -/
theorem laws_FnCltuSpoil.idx2 (a b n : Nat) (hn : 8 < n) : ((a : Int) * 7 + (b : Int)) % ((n : Int) - 8) = (((a * 7 + b) % (n - 8) : Nat) : Int) := by
  have e8 : (n : Int) - 8 = ((n - 8 : Nat) : Int) := by omega
  rw [e8, Int.natCast_emod, Int.natCast_add, Int.natCast_mul]
  rfl
noncomputable def laws_FnCltuSpoil.f (k : Nat) (l0 : List Int) (l1 : List Int) : Option (Bool) := if l0.length > 1048576 ∨ l1.length > 1048576 then (some true) else ((spec_DrawCltuPut.f k l0).bind fun s => ((impl_CltuPut.f k s).bind fun x => ((spec_CltuPut.f k s).bind fun y => (if x = y then (if x.size = 0 then (some true) else (if 8 < x.size ∧ x.size ≤ 1000000 then ((impl_CltuRead.f k (HSpoil.turned x ((l1.length * 7 + l0.length) % (x.size - 8)) (1 + (l1.length : Int) % 127))).bind fun t => ((impl_CltuRead.f k x).bind fun u => (if t.size < u.size ∧ u.extract 0 t.size = t then (some true) else (none)))) else (none))) else (none)))))
theorem laws_FnCltuSpoil.long (A0 : Option Addr) (c0 n0 : Nat) (A1 : Option Addr) (c1 n1 : Nat) (w : World) (h : n0 > 1048576 ∨ n1 > 1048576) :
    Calls Try.prog 4 #[.slice A0 n0 c0, .slice A1 n1 c1] w fun e w' => e = .returned (.bool true) ∧ Below w.heap.size w w' := by
  by_cases h0 : n0 > 1048576
  · have d0 : decide ((n0 : Int) > 1048576) = true := decide_eq_true (by omega)
    clear h h0
    go_enter Try.func4, Try.ntmps4
    go_wp2_with fail
    go_ret
    exact ⟨rfl, by repeat (first | exact Below.refl _ _ | apply Below.drew)⟩
  · have d0 : decide ((n0 : Int) > 1048576) = false := decide_eq_false (by omega)
    have d1 : decide ((n1 : Int) > 1048576) = true := decide_eq_true (by omega)
    clear h h0
    go_enter Try.func4, Try.ntmps4
    go_wp2_with fail
    go_ret
    exact ⟨rfl, by repeat (first | exact Below.refl _ _ | apply Below.drew)⟩
theorem laws_FnCltuSpoil.calls (k : Nat) (A0 : Option Addr) (c0 : Nat) (l0 : List Int) (A1 : Option Addr) (c1 : Nat) (l1 : List Int) (r : Bool) (w : World) (hr0 : Kd.C (Kd.int .u8) w A0 l0.length l0) (hc0 : l0.length ≤ c0) (hr1 : Kd.C (Kd.int .u8) w A1 l1.length l1) (hc1 : l1.length ≤ c1) (h : laws_FnCltuSpoil.f k l0 l1 = some r) :
    Calls Try.prog 4 #[.slice A0 l0.length c0, .slice A1 l1.length c1] w fun e w' => e = .returned (.bool r) ∧ Below w.heap.size w w' := by
  unfold laws_FnCltuSpoil.f at h
  by_cases hl : l0.length > 1048576 ∨ l1.length > 1048576
  · rw [if_pos hl] at h
    obtain rfl := Option.some.inj h
    exact laws_FnCltuSpoil.long A0 c0 _ A1 c1 _ w hl
  rw [if_neg hl] at h
  obtain ⟨s, hA, h⟩ := Option.bind_eq_some_iff.1 h
  obtain ⟨x, hB, h⟩ := Option.bind_eq_some_iff.1 h
  obtain ⟨y, hC, h⟩ := Option.bind_eq_some_iff.1 h
  split at h
  · rename_i hxy
    subst hxy
    have d0 : decide ((l0.length : Int) > 1048576) = false := decide_eq_false (by omega)
    have d1 : decide ((l1.length : Int) > 1048576) = false := decide_eq_false (by omega)
    have e0 : (x.toList != x.toList) = false := bne_self_eq_false _
    have e1 : (x.toList == x.toList) = true := beq_self_eq_true _
    have HA := Aside0.mk hA
    have HB := Aside0.mk hB
    have HC := Aside0.mk hC
    have HR := Aside0.mk hr0
    have HC0 := Aside0.mk hc0
    clear hA hB hC hr0 hr1 hc0 hc1 hl
    split at h
    · rename_i hx0
      obtain rfl := Option.some.inj h
      have ex : (x.toList == ([] : List UInt8)) = true := by
        rw [beq_iff_eq, Lib.toList_data]
        have h0 : x.data = #[] := Array.eq_empty_of_size_eq_zero hx0
        rw [h0]
      go_enter Try.func4, Try.ntmps4
      go_wp2_with fail
      refine (spec_DrawCltuPut.calls k A0 c0 l0 s _ HR.out HC0.out HA.out).mono ?_
      rintro e w1 ⟨rfl, hb1⟩
      have H1 := Aside0.mk hb1
      clear hb1
      go_wp2_with fail
      refine (impl_CltuPut.calls k s x _ HB.out).mono ?_
      rintro e w2 ⟨rfl, hb2⟩
      have H2 := Aside0.mk hb2
      clear hb2
      go_wp2_with fail
      refine (spec_CltuPut.calls k s x _ HC.out).mono ?_
      rintro e w3 ⟨rfl, hb3⟩
      have H3 := Aside0.mk hb3
      clear hb3
      go_wp2_with fail
      refine (spec_CltuPut.calls k s x _ HC.out).mono ?_
      rintro e w4 ⟨rfl, hb4⟩
      have H4 := Aside0.mk hb4
      clear hb4
      go_wp2_with fail
      go_ret
      have hB3 := (H1.out.trans (H2.out.mono H1.out.size)).trans (H3.out.mono (Nat.le_trans H1.out.size H2.out.size))
      exact ⟨rfl, hB3.trans (H4.out.mono hB3.size)⟩
    · rename_i hx0
      split at h
      · rename_i hx8
        have ex : (x.toList == ([] : List UInt8)) = false := by
          rw [beq_eq_false_iff_ne]
          exact HCltu.ne_nil (by omega)
        have l0b : l0.length ≤ 1048576 := by have := of_decide_eq_false d0; omega
        have l1b : l1.length ≤ 1048576 := by have := of_decide_eq_false d1; omega
        obtain ⟨kk, hkk⟩ : ∃ kk, (l1.length * 7 + l0.length) % (x.size - 8) = kk := ⟨_, rfl⟩
        have hkl : kk < x.size := by
          have := Nat.mod_lt (l1.length * 7 + l0.length) (y := x.size - 8) (by omega)
          omega
        rw [hkk] at h
        have i0 : (0 : Int) ≤ (kk : Int) := by omega
        have i1 : (kk : Int) < (x.size : Int) := by omega
        have i2 : (kk : Int).toNat = kk := Int.toNat_natCast kk
        have ey : ((l1.length : Int)).tmod 127 = (l1.length : Int) % 127 := Aux.tmodp (by omega)
        have b0 : 0 ≤ (l1.length : Int) % 127 ∧ (l1.length : Int) % 127 < 127 := by omega
        obtain ⟨q, hq⟩ : ∃ q, q = (l1.length : Int) % 127 := ⟨_, rfl⟩
        rw [← hq] at ey b0 h
        have ew2 : (1 + q) % 256 = 1 + q := by omega
        have ew1 : wrap64 (1 + q) = 1 + q := Aux.w64 (by omega) (by omega)
        have ek := laws_FnCltuSpoil.idx2 l1.length l0.length x.size (by omega)
        rw [hkk] at ek
        obtain ⟨t, hD, h⟩ := Option.bind_eq_some_iff.1 h
        obtain ⟨u, hE, h⟩ := Option.bind_eq_some_iff.1 h
        by_cases hc2 : t.size < u.size ∧ u.extract 0 t.size = t
        rotate_left
        · rw [if_neg hc2] at h
          exact absurd h (by simp)
        rw [if_pos hc2] at h
        obtain rfl := Option.some.inj h
        have c1' : decide ((t.size : Int) < (u.size : Int)) = true := decide_eq_true (by omega)
        have c2' : (t.size < u.size) = True := eq_true hc2.1
        have c3' : (t.size ≤ u.size) = True := eq_true (by omega)
        have c4' : ((t.size : Int) ≤ (u.size : Int)) = True := eq_true (by omega)
        have c5' : ((u.extract 0 t.size).toList == t.toList) = true := by rw [hc2.2]; exact beq_self_eq_true _
        clear h
        go_enter Try.func4, Try.ntmps4
        go_wp2_with fail
        refine (spec_DrawCltuPut.calls k A0 c0 l0 s _ HR.out HC0.out HA.out).mono ?_
        rintro e w1 ⟨rfl, hb1⟩
        have H1 := Aside0.mk hb1
        clear hb1
        go_wp2_with fail
        refine (impl_CltuPut.calls k s x _ HB.out).mono ?_
        rintro e w2 ⟨rfl, hb2⟩
        have H2 := Aside0.mk hb2
        clear hb2
        go_wp2_with fail
        refine (spec_CltuPut.calls k s x _ HC.out).mono ?_
        rintro e w3 ⟨rfl, hb3⟩
        have H3 := Aside0.mk hb3
        clear hb3
        have hm := HSpoil.made_new w3 x
        have hlen := bytesOf_length x
        have hc := HSpoil.made_cell hm (j := kk) (by omega)
        have hf := HSpoil.made_frozen hm (j := kk) (by omega)
        have kc : ∀ (y : Int) (c : Nat), (convert 22 9 (.slice (some ⟨w3.heap.size, 0, none⟩) x.size c)).run Try.prog ((Lib.bytesWorld w3 5 x).setCell ⟨w3.heap.size, kk, none⟩ (.int .u8 y)) = .ok (.string (strOfNums ((bytesOf x).set kk y))) ((Lib.bytesWorld w3 5 x).setCell ⟨w3.heap.size, kk, none⟩ (.int .u8 y)) := by
          intro y c
          have h2 := HSpoil.made_reads (HSpoil.made_set hm kk (by omega) y) (by rw [List.length_set]; omega)
          rw [List.length_set, hlen] at h2
          exact string_of_reads Try.underlying22 Try.underlying5 Try.underlying9 h2
        clear hm hlen
        have kb := fun W => print_bytes (P := Try.prog) 9 22 5 Try.underlying9 Try.underlying22 Try.underlying5 x W
        go_wp2_with fail
        have hD' : impl_CltuRead.f k (strOfNums ((bytesOf x).set kk (bits .xor .u8 ((bytesOf x)[kk]?.getD 0) (1 + (l1.length : Int) % 127)))) = some t := by
          rw [← hD, hq]
          unfold HSpoil.turned
          rw [List.getD_eq_getElem?_getD]
        refine (impl_CltuRead.calls k _ t _ hD').mono ?_
        rintro e w4 ⟨rfl, hb4⟩
        have H4 := Aside0.mk hb4
        clear hb4
        go_wp2_with fail
        refine (impl_CltuRead.calls k x u _ hE).mono ?_
        rintro e w5 ⟨rfl, hb5⟩
        have H5 := Aside0.mk hb5
        clear hb5
        go_wp2_with fail
        go_ret
        have hs3 := Nat.le_trans H1.out.size (Nat.le_trans H2.out.size H3.out.size)
        have hB3 := ((H1.out.trans (H2.out.mono H1.out.size)).trans (H3.out.mono (Nat.le_trans H1.out.size H2.out.size))).trans ((bytes_below (Below.refl w.heap.size w3) hs3 5 x).setCell (p := ⟨w3.heap.size, kk, none⟩) hs3 (.int .u8 (bits .xor .u8 ((bytesOf x)[kk]?.getD 0) (1 + (l1.length : Int) % 127))))
        exact ⟨rfl, (hB3.trans (H4.out.mono hB3.size)).trans (H5.out.mono (Nat.le_trans hB3.size H4.out.size))⟩
      · exact absurd h (by simp)
  · exact absurd h (by simp)


/-- THE ONE PURE STATEMENT of laws_FnCltuSpoil: yours. -/
def laws_FnCltuSpoil.Pure : Prop := ∀ (l0 : List Int) (l1 : List Int), l0.length ≤ maxLen → l0.length * 1 ≤ 140737488351232 → (∀ x ∈ l0, (Lit.int .u8 x).wf = true) → l1.length ≤ maxLen → l1.length * 1 ≤ 140737488351232 → (∀ x ∈ l1, (Lit.int .u8 x).wf = true) → ∃ k, laws_FnCltuSpoil.f k l0 l1 = some true
theorem laws_FnCltuSpoil.walk (P : laws_FnCltuSpoil.Pure) (a0 : Option Addr) (len0 cap0 : Nat) (z0 : List Int) (a1 : Option Addr) (len1 cap1 : Nat) (z1 : List Int) (w : World) (w0 : (a0 = none ∧ len0 = 0 ∧ cap0 = 0 ∧ z0 = []) ∨ ∃ x, a0 = some x ∧ len0 ≤ cap0 ∧ cap0 ≤ maxLen ∧ z0.length = cap0 ∧ (∀ i, i < z0.length → w.cell? (x.add i) = some (.int .u8 (z0.getD i 0))) ∧ ∀ n ∈ z0, (Lit.int .u8 n).wf = true) (y0 : len0 * 1 ≤ 140737488351232) (w1 : (a1 = none ∧ len1 = 0 ∧ cap1 = 0 ∧ z1 = []) ∨ ∃ x, a1 = some x ∧ len1 ≤ cap1 ∧ cap1 ≤ maxLen ∧ z1.length = cap1 ∧ (∀ i, i < z1.length → w.cell? (x.add i) = some (.int .u8 (z1.getD i 0))) ∧ ∀ n ∈ z1, (Lit.int .u8 n).wf = true) (y1 : len1 * 1 ≤ 140737488351232) :
    Calls Try.prog 4 #[.slice a0 len0 cap0, .slice a1 len1 cap1] w fun e w' => e = .returned (.bool true) ∧ Below w.heap.size w w' := by
  obtain ⟨l0, rfl, hr0, hm0, hw0, hc0⟩ := ReadsInt.ofRowC w0
  obtain ⟨l1, rfl, hr1, hm1, hw1, hc1⟩ := ReadsInt.ofRowC w1
  obtain ⟨k, h⟩ := P l0 l1 hm0 y0 hw0 hm1 y1 hw1
  refine (laws_FnCltuSpoil.calls k _ _ l0 _ _ l1 true w (Kd.C_of_reads (d := (0 : Int)) (h1 := fun _ => rfl) hr0) hc0 (Kd.C_of_reads (d := (0 : Int)) (h1 := fun _ => rfl) hr1) hc1 h).mono ?_
  rintro e w' ⟨rfl, hd⟩
  exact ⟨rfl, hd⟩

end Go.Proofs.Ytiknnbjfpdeieaa.PFnCltuSpoil
