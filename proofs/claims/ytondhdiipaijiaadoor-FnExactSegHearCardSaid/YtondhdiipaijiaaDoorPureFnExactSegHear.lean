/- FnExactSegHear: the program's SegHear and the reference's answer alike. No conditions but that the number is an int and the texts are such as a machine holds. -/
import Derived.Test.YtondhdiipaijiaaDoorPFnExactSegHearx2
import Derived.Test.YtondhdiipaijiaaDoorAux
namespace Go.Proofs.YtondhdiipaijiaaDoor.Pure
open Go Go.RowKit Go.Proofs.YtondhdiipaijiaaDoor.PFnExactSegHear Go.Proofs.YtondhdiipaijiaaDoorW.PrintWords Go.Proofs.YtondhdiipaijiaaDoorW.PrintLast Go.Proofs.YtondhdiipaijiaaDoorW.PrintMore Go.Proofs.YtondhdiipaijiaaDoor.Aux

namespace FnExactSegHearL
theorem l1In_at (a b c : Int) : spec_l1In.f a b c = some (decide (b ≤ a ∧ a ≤ c)) := by
  unfold spec_l1In.f
  by_cases h : b ≤ a
  · rw [if_pos h]
    simp [h]
  · rw [if_neg h]
    simp [h]
/-- JoinOk's answer. -/
def joinOk (o : Bool) (t : ByteArray) : Bool := decide ((t.size : Int) ≤ 106) && (o || t.toList == ([] : List UInt8))
theorem implJoinOk_at (o : Bool) (t : ByteArray) : impl_JoinOk.f o t = some (joinOk o t) := by
  unfold impl_JoinOk.f joinOk
  by_cases h : (t.size : Int) ≤ 106
  · rw [if_pos h, decide_eq_true h]
    cases o <;> rfl
  · rw [if_neg h, decide_eq_false h]
    rfl
theorem specJoinOk_at (o : Bool) (t : ByteArray) : spec_JoinOk.f o t = some (joinOk o t) := by
  unfold spec_JoinOk.f spec_l7Most.f joinOk
  simp only [Option.bind_some]
  by_cases h : (t.size : Int) ≤ 106
  · rw [if_pos h, decide_eq_true h]
    cases o <;> rfl
  · rw [if_neg h, decide_eq_false h]
    rfl
theorem byte_fin : ∀ b : Fin 256, wrap64 (b.1 : Int) = b.1 ∧ (b.1 : Int).tmod 64 = (b.1 : Int) % 64 ∧ wrap64 (Int.tdiv (b.1 : Int) 64) = (b.1 : Int) / 64 ∧ (bits .and .i64 (b.1 : Int) 64 != 0) = decide (((b.1 : Int) / 64).tmod 2 = 1) ∧ (bits .and .i64 (b.1 : Int) 128 != 0) = decide ((b.1 : Int) / 64 ≥ 2) := by decide +kernel
theorem bt_byte (s : ByteArray) (i : Int) : 0 ≤ bt s i ∧ bt s i < 256 := by
  have := bt_range s i
  omega
theorem byte_at (s : ByteArray) : wrap64 (bt s 0) = bt s 0 ∧ (bt s 0).tmod 64 = bt s 0 % 64 ∧ wrap64 (Int.tdiv (bt s 0) 64) = bt s 0 / 64 ∧ (bits .and .i64 (bt s 0) 64 != 0) = decide ((bt s 0 / 64).tmod 2 = 1) ∧ (bits .and .i64 (bt s 0) 128 != 0) = decide (bt s 0 / 64 ≥ 2) := by
  have hb := bt_byte s 0
  have h := byte_fin ⟨(bt s 0).toNat, by omega⟩
  have e : (((bt s 0).toNat : Nat) : Int) = bt s 0 := by omega
  simp only [e] at h
  exact h
/-- SegHear's answer. -/
def segHear (o : Bool) (t p : ByteArray) (v : Int) : Bool × ByteArray × ByteArray :=
  if joinOk o t = true then (if p.size < 2 ∨ 21 < p.size then (o, t, (⟨#[]⟩ : ByteArray)) else (if bt p 0 % 64 = v then HSeg.hearV o (decide ((bt p 0 / 64).tmod 2 = 1)) (decide (bt p 0 / 64 ≥ 2)) t p else (o, t, (⟨#[]⟩ : ByteArray)))) else (false, (⟨#[]⟩ : ByteArray), (⟨#[]⟩ : ByteArray))
theorem joinOk_size {o : Bool} {t : ByteArray} (h : joinOk o t = true) : t.size ≤ 106 := by
  simp only [joinOk, Bool.and_eq_true, decide_eq_true_eq] at h
  omega
theorem implSeg_at (o : Bool) (t p : ByteArray) (v : Int) : impl_SegHear.f o t p v = some (segHear o t p v) := by
  obtain ⟨e1, e2, e3, e4, e5⟩ := byte_at p
  unfold impl_SegHear.f segHear
  rw [implJoinOk_at, e1, e2, e4, e5]
  simp only [Option.bind_some]
  cases hj : joinOk o t with
  | false => rfl
  | true =>
    simp only [if_true]
    by_cases h2 : p.size < 2 ∨ 21 < p.size
    · rw [if_pos h2, if_pos h2]
    · rw [if_neg h2, if_neg h2]
      by_cases hv : bt p 0 % 64 = v
      · rw [if_pos hv, hv, bne_self_eq_false, if_neg (by decide), if_pos (joinOk_size hj)]
      · rw [if_neg hv, bne_iff_ne.mpr hv, if_pos rfl]
theorem tail_size (p : ByteArray) : (p.extract 1 p.size).size = p.size - 1 := by rw [ByteArray.size_extract]; omega
theorem sum64 {a b : Nat} (ha : a ≤ 106) (hb : b ≤ 20) : wrap64 ((a : Int) + (b : Int)) = ((a + b : Nat) : Int) := by rw [w64 (by omega) (by omega)]; omega
theorem hear_j1 (k : Nat) (x : Int) (t s : ByteArray) (h9 : t.size + s.size ≤ 9223372036854775807) : spec_l7Hear.j1 (k + 1) x s false true t = some (if decide (x ≥ 2) = true then (false, (⟨#[]⟩ : ByteArray), t ++ s) else (true, t ++ s, (⟨#[]⟩ : ByteArray))) := by
  unfold spec_l7Hear.j1
  refine (if_neg (by decide)).trans ((if_pos h9).trans ?_)
  by_cases hx : x ≥ 2
  · exact (if_pos hx).trans (congrArg some (if_pos (decide_eq_true hx)).symm)
  · exact (if_neg hx).trans (congrArg some (if_neg (by simpa using hx)).symm)
theorem hear_j1t (k : Nat) (x : Int) (o : Bool) (t s : ByteArray) : spec_l7Hear.j1 (k + 1) x s true o t = some (false, (⟨#[]⟩ : ByteArray), (⟨#[]⟩ : ByteArray)) := by
  unfold spec_l7Hear.j1
  exact if_pos rfl
theorem hear_j0a (k : Nat) (x : Int) (t s : ByteArray) : spec_l7Hear.j0 (k + 1) x s true t = (if true = true then ((spec_l7Most.f).bind fun t106 => (spec_l7Hear.j1 k x s (decide ((wrap64 ((t.size : Int) + (s.size : Int))) > t106)) true t)) else (spec_l7Hear.j1 k x s true true t)) := by
  rw [spec_l7Hear.j0]
theorem hear_j0t (k : Nat) (x : Int) (t s : ByteArray) (z : Int) (hz : wrap64 ((t.size : Int) + (s.size : Int)) = z) : spec_l7Hear.j0 (k + 1) x s true t = spec_l7Hear.j1 k x s (decide (z > 106)) true t := by
  rw [hear_j0a, if_pos rfl, spec_l7Most.f, Option.bind_some, hz]
theorem hear_j0f (k : Nat) (x : Int) (t s : ByteArray) : spec_l7Hear.j0 (k + 1) x s false t = spec_l7Hear.j1 k x s true false t := by
  rw [spec_l7Hear.j0]
  exact if_neg (by decide)
theorem hear_j0 (k : Nat) (x : Int) (o : Bool) (t s : ByteArray) (ht : t.size ≤ 106) (hs : s.size ≤ 20) : spec_l7Hear.j0 (k + 1 + 1) x s o t =
    some (if o = true then (if (t ++ s).size ≤ 106 then (if decide (x ≥ 2) = true then (false, (⟨#[]⟩ : ByteArray), t ++ s) else (true, t ++ s, (⟨#[]⟩ : ByteArray))) else (false, (⟨#[]⟩ : ByteArray), (⟨#[]⟩ : ByteArray))) else (false, (⟨#[]⟩ : ByteArray), (⟨#[]⟩ : ByteArray))) := by
  have hz : (t ++ s).size = t.size + s.size := ByteArray.size_append
  cases o with
  | false =>
    rw [hear_j0f, hear_j1t]
    rfl
  | true =>
    rw [hear_j0t (k + 1) x t s _ (sum64 ht hs), if_pos rfl, hz]
    by_cases hm : t.size + s.size ≤ 106
    · rw [decide_eq_false (show ¬ ((t.size + s.size : Nat) : Int) > 106 by omega), if_pos hm, hear_j1 k x t s (by omega)]
    · rw [decide_eq_true (show ((t.size + s.size : Nat) : Int) > 106 by omega), if_neg hm, hear_j1t]
theorem specSeg_at (k : Nat) (o : Bool) (t p : ByteArray) (v : Int) (hk : 2 ≤ k) : spec_SegHear.f k o t p v = some (segHear o t p v) := by
  obtain ⟨k, rfl⟩ : ∃ m, k = m + 1 + 1 := ⟨k - 2, by omega⟩
  obtain ⟨e1, e2, e3, e4, e5⟩ := byte_at p
  unfold spec_SegHear.f segHear
  rw [specJoinOk_at, e1, e2, e3, l1In_at]
  simp only [Option.bind_some]
  cases hj : joinOk o t with
  | false => rfl
  | true =>
    have h106 := joinOk_size hj
    simp only [if_true]
    by_cases h2 : p.size < 2 ∨ 21 < p.size
    · rw [if_pos h2, decide_eq_false (by omega), if_neg (by decide)]
    · have hs := tail_size p
      rw [if_neg h2, decide_eq_true (by omega), if_pos rfl, if_pos (by omega)]
      by_cases hv : bt p 0 % 64 = v
      · rw [if_pos hv, if_pos hv, if_pos (by omega)]
        have key : spec_l7Hear.f (k + 1 + 1) o t (bt p 0 / 64) (p.extract 1 p.size) = some (HSeg.hearV o (decide ((bt p 0 / 64).tmod 2 = 1)) (decide (bt p 0 / 64 ≥ 2)) t p) := by
          unfold spec_l7Hear.f HSeg.hearV
          by_cases hf : (bt p 0 / 64).tmod 2 = 1
          · rw [if_pos hf, hear_j0 k _ true (⟨#[]⟩ : ByteArray) _ (by show 0 ≤ 106; omega) (by omega), decide_eq_true hf]
            simp only [Bool.or_true, HSeg.came, if_true]
          · rw [if_neg hf, hear_j0 k _ o t _ h106 (by omega), decide_eq_false hf]
            simp only [Bool.or_false, HSeg.came, Bool.false_eq_true, if_false]
        rw [key]
        rfl
      · rw [if_neg hv, if_neg hv]
end FnExactSegHearL
open FnExactSegHearL

theorem FnExactSegHear (o : Bool) (t p : ByteArray) (v : Int) (_ : t.size ≤ 9223372036854775807) (_ : p.size ≤ 140737488351232) (_ : (Lit.int .i64 v).wf = true) : ∃ k, laws_FnExactSegHear.f k o t p v = some true := by
  refine ⟨10, ?_⟩
  unfold laws_FnExactSegHear.f
  by_cases hp : (p.size : Int) > 1048576
  · rw [if_pos hp]
  rw [if_neg hp]
  have hz : ∃ x, laws_szJoin.f o t 1048576 = some x := by
    unfold laws_szJoin.f
    split
    · exact ⟨_, rfl⟩
    · exact ⟨_, rfl⟩
  obtain ⟨x, hx⟩ := hz
  rw [hx]
  simp only [Option.bind_some]
  by_cases h0 : x < 0
  · rw [if_pos h0]
  rw [if_neg h0]
  simp only [laws_toJoin.f, Option.bind_some, specSeg_at 10 o t p v (by decide), implSeg_at, laws_eqJoin.f, bne_self_eq_false, Bool.false_eq_true, if_false, if_true]

end Go.Proofs.YtondhdiipaijiaaDoor.Pure
