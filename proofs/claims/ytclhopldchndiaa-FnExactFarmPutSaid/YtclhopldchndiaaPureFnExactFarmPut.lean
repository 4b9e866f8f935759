/- FnExactFarmPut: the program's FarmPut and the reference's answer alike. No conditions but that the numbers are ints. -/
import Derived.Test.YtclhopldchndiaaPFnExactFarmPutx2
import Derived.Test.YtclhopldchndiaaAux
namespace Go.Proofs.Ytclhopldchndiaa.Pure
open Go Go.RowKit Go.Proofs.Ytclhopldchndiaa.PFnExactFarmPut Go.Proofs.YtclhopldchndiaaW.PrintWords Go.Proofs.YtclhopldchndiaaW.PrintLast Go.Proofs.YtclhopldchndiaaW.PrintMore Go.Proofs.Ytclhopldchndiaa.Aux

namespace FnExactFarmPutL
theorem l1In_at (a b c : Int) : spec_l1In.f a b c = some (decide (b ≤ a ∧ a ≤ c)) := by
  unfold spec_l1In.f
  by_cases h : b ≤ a
  · rw [if_pos h]
    simp [h]
  · rw [if_neg h]
    simp [h]
theorem within_at (a c : Int) : impl_within.f a c = some (decide (0 ≤ a ∧ a ≤ c)) := by
  unfold impl_within.f
  by_cases h : 0 ≤ a
  · rw [if_pos h]
    simp [h]
  · rw [if_neg h]
    simp [h]
/-- FarmOk's answer. -/
def farmOk (waits again : Bool) (count next : Int) : Bool := decide (0 ≤ count ∧ count ≤ 3) && (decide (0 ≤ next ∧ next ≤ 255) && (again || !waits))
theorem specFarmOk_at (shut waits again : Bool) (count next : Int) : spec_FarmOk.f shut waits again count next = some (farmOk waits again count next) := by
  simp only [spec_FarmOk.f, l1In_at, Option.bind_some, farmOk]
  generalize decide (0 ≤ count ∧ count ≤ 3) = b1
  generalize decide (0 ≤ next ∧ next ≤ 255) = b2
  cases b1 <;> cases b2 <;> cases waits <;> cases again <;> rfl
theorem implFarmOk_at (shut waits again : Bool) (count next : Int) : impl_FarmOk.f shut waits again count next = some (farmOk waits again count next) := by
  simp only [impl_FarmOk.f, within_at, Option.bind_some, farmOk]
  generalize decide (0 ≤ count ∧ count ≤ 3) = b1
  generalize decide (0 ≤ next ∧ next ≤ 255) = b2
  cases b1 <;> cases b2 <;> cases waits <;> cases again <;> rfl
theorem l1Put_l0 (d : Nat) : ∀ (k : Nat) (n size i : Int) (out : ByteArray), d < k → 0 ≤ n → n ≤ 9223372036854775807 → 0 ≤ i → size ≤ 4 → size - i = d → out.size ≤ 4 - d →
    spec_l1Put.l0 k n size out i = some (strOfNums (be d n) ++ out) := by
  induction d with
  | zero =>
    intro k n size i out hk h0 h1 hi hs hd ho
    obtain ⟨k, rfl⟩ : ∃ m, k = m + 1 := ⟨k - 1, by omega⟩
    simp only [spec_l1Put.l0]
    rw [if_neg (by omega)]
    show some out = some ((⟨#[]⟩ : ByteArray) ++ out)
    rw [str_nil_append]
  | succ d ih =>
    intro k n size i out hk h0 h1 hi hs hd ho
    obtain ⟨k, rfl⟩ : ∃ m, k = m + 1 := ⟨k - 1, by omega⟩
    have hsz : (strOfNums [(Int.tmod n 256) % 256]).size = 1 := by rw [strOfNums_size]; rfl
    simp only [spec_l1Put.l0]
    rw [if_pos (by omega)]
    simp only [Option.bind_some]
    rw [if_pos (by omega), w64 (x := i + 1) (by omega) (by omega), tdivp h0, w64 (x := n / 256) (by omega) (by omega)]
    rw [ih _ _ _ _ _ (by omega) (by omega) (by omega) (by omega) hs (by omega) (by rw [ByteArray.size_append]; omega)]
    have e : (Int.tmod n 256) % 256 = n % 256 := by rw [tmodp h0]; omega
    rw [e, be, strOfNums_append, ByteArray.append_assoc]
theorem l1Put_at (k : Nat) (hk : 5 ≤ k) (n size : Int) (h0 : 0 ≤ n) (h1 : n ≤ 9223372036854775807) (hs0 : 0 ≤ size) (hs : size ≤ 4) :
    spec_l1Put.f k n size = some (strOfNums (be size.toNat n)) := by
  unfold spec_l1Put.f
  rw [l1Put_l0 size.toNat k n size 0 _ (by omega) h0 h1 (by omega) hs (by omega) (by show 0 ≤ _; omega), str_append_nil]
theorem implPut_l0 (d : Nat) : ∀ (k : Nat) (n : Int) (xs : List Int), d < k → 0 ≤ n → n ≤ 9223372036854775807 → d ≤ xs.length → xs.length ≤ 4 →
    impl_NumPut.l0 k n xs ((d : Int) - 1) = some (strOfNums (be d n ++ xs.drop d)) := by
  induction d with
  | zero =>
    intro k n xs hk h0 h1 hd hx
    obtain ⟨k, rfl⟩ : ∃ m, k = m + 1 := ⟨k - 1, by omega⟩
    simp only [impl_NumPut.l0]
    rw [if_neg (by omega)]
    simp [be]
  | succ d ih =>
    intro k n xs hk h0 h1 hd hx
    obtain ⟨k, rfl⟩ : ∃ m, k = m + 1 := ⟨k - 1, by omega⟩
    simp only [impl_NumPut.l0]
    have e1 : ((d + 1 : Nat) : Int) - 1 = d := by omega
    rw [e1, if_pos (by omega), if_pos (by omega), if_pos (by omega), and255 h0 (by omega), w64 (x := (d : Int) - 1) (by omega) (by omega)]
    have e2 : ((d : Int)).toNat = d := by omega
    rw [e2, ih _ _ _ (by omega) (by omega) (by omega) (by rw [List.length_set]; omega) (by rw [List.length_set]; omega)]
    have hl : d < (xs.set d (n % 256 % 256)).length := by rw [List.length_set]; omega
    rw [List.drop_eq_getElem_cons hl, List.getElem_set_self, List.drop_set_of_lt (by omega)]
    have e3 : n % 256 % 256 = n % 256 := by omega
    rw [e3, be, List.append_assoc]
    rfl
theorem implPut_at (k : Nat) (hk : 7 ≤ k) (n size : Int) (h1 : n ≤ 9223372036854775807) : impl_NumPut.f k n size = some (numPut n size) := by
  obtain ⟨k, rfl⟩ : ∃ m, k = m + 1 := ⟨k - 1, by omega⟩
  have j0t : ∀ a0 a1, impl_NumPut.j0 (k + 1) a0 a1 true = some (⟨#[]⟩ : ByteArray) := fun a0 a1 => by simp only [impl_NumPut.j0, if_true]
  unfold impl_NumPut.f numPut
  by_cases ha : size < 1
  · rw [if_pos ha, j0t, if_neg (by omega)]
  rw [if_neg ha]
  by_cases hb : size > 4
  · rw [if_pos hb, j0t, if_neg (by omega)]
  rw [if_neg hb]
  by_cases hc : n < 0
  · rw [if_pos hc, j0t, if_neg (by omega)]
  rw [if_neg hc, if_pos (by rw [w64 (by omega) (by omega)]; omega)]
  have hs : shr .i64 n (wrap64 (8 * size)) = n / 256 ^ size.toNat := by
    have h : size = 1 ∨ size = 2 ∨ size = 3 ∨ size = 4 := by omega
    unfold shr
    rcases h with rfl | rfl | rfl | rfl <;> exact congrArg (fun m => n / m) (by decide +kernel)
  have hp : (0 : Int) < 256 ^ size.toNat := Int.pow_pos (by decide)
  rw [hs]
  by_cases h : n < 256 ^ size.toNat
  · rw [if_pos ⟨by omega, by omega, by omega, h⟩, Int.ediv_eq_zero_of_lt (by omega) h]
    simp only [impl_NumPut.j0, bne_self_eq_false, Bool.false_eq_true, if_false]
    rw [if_pos (by omega), if_pos (by omega), w64 (by omega) (by omega)]
    have e : size - 1 = ((size.toNat : Nat) : Int) - 1 := by omega
    rw [e, implPut_l0 size.toNat k n _ (by omega) (by omega) h1 (by rw [List.length_replicate]; omega) (by rw [List.length_replicate]; omega)]
    rw [List.drop_eq_nil_of_le (by rw [List.length_replicate]; omega), List.append_nil]
  · have h2 : 1 ≤ n / 256 ^ size.toNat := Int.le_ediv_of_mul_le hp (by omega)
    have h3 : (n / 256 ^ size.toNat != 0) = true := by simp; omega
    rw [h3, j0t, if_neg (by omega)]
/-- The bits of how a farm stands. -/
def farmBits (shut waits again : Bool) (count : Int) : Int := (if shut = true then 32 else 0) + (if waits = true then 16 else 0) + (if again = true then 8 else 0) + count * 2
/-- FarmPut's answer. -/
def farmPut (shut waits again : Bool) (count next : Int) : ByteArray :=
  if farmOk waits again count next = true then ((⟨#[1, 0]⟩ : ByteArray) ++ strOfNums (be 1 (farmBits shut waits again count))) ++ strOfNums (be 1 next) else (⟨#[]⟩ : ByteArray)
theorem farmOk_of {waits again : Bool} {count next : Int} (h : farmOk waits again count next = true) : 0 ≤ count ∧ count ≤ 3 ∧ 0 ≤ next ∧ next ≤ 255 := by
  simp only [farmOk, Bool.and_eq_true, decide_eq_true_eq] at h
  exact ⟨h.1.1, h.1.2, h.2.1.1, h.2.1.2⟩
theorem be1_size (x : Int) : (strOfNums (be 1 x)).size = 1 := by rw [strOfNums_size, be_length]
theorem numPut1 {x : Int} (h0 : 0 ≤ x) (h1 : x < 256) : numPut x 1 = strOfNums (be 1 x) := by
  unfold numPut
  rw [if_pos ⟨by decide, by decide, h0, h1⟩]
  rfl
theorem specFarmPut_at (k : Nat) (hk : 10 ≤ k) (shut waits again : Bool) (count next : Int) : spec_FarmPut.f k shut waits again count next = some (farmPut shut waits again count next) := by
  simp only [spec_FarmPut.f, specFarmOk_at, Option.bind_some, farmPut, spec_l3Flag.f]
  cases hok : farmOk waits again count next with
  | false => rfl
  | true =>
    obtain ⟨c0, c1, n0, n1⟩ := farmOk_of hok
    have hb : ∀ (s w a : Bool), (wrap64 ((wrap64 ((wrap64 ((wrap64 ((if s = true then (1 : Int) else 0) * 32)) + (wrap64 ((if w = true then (1 : Int) else 0) * 16)))) + (wrap64 ((if a = true then (1 : Int) else 0) * 8)))) + (wrap64 (count * 2)))) = farmBits s w a count := by
      intro s w a
      cases s <;> cases w <;> cases a <;> simp [farmBits, wrap64] <;> omega
    have hs : (if shut = true then some (1 : Int) else some 0) = some (if shut = true then (1 : Int) else 0) := by cases shut <;> rfl
    have hw : (if waits = true then some (1 : Int) else some 0) = some (if waits = true then (1 : Int) else 0) := by cases waits <;> rfl
    have ha : (if again = true then some (1 : Int) else some 0) = some (if again = true then (1 : Int) else 0) := by cases again <;> rfl
    have b0 : 0 ≤ farmBits shut waits again count ∧ farmBits shut waits again count < 64 := by
      cases shut <;> cases waits <;> cases again <;> simp [farmBits] <;> omega
    simp only [if_true, hs, hw, ha, Option.bind_some, hb]
    rw [l1Put_at k (by omega) _ 1 b0.1 (by omega) (by decide) (by decide)]
    simp only [Option.bind_some]
    have e1 : (1 : Int).toNat = 1 := rfl
    rw [e1, if_pos (by rw [be1_size]; decide), l1Put_at k (by omega) _ 1 n0 (by omega) (by decide) (by decide)]
    simp only [Option.bind_some]
    rw [e1, if_pos (by rw [be1_size, be1_size]; decide)]
theorem implFarmPut_at (k : Nat) (hk : 12 ≤ k) (shut waits again : Bool) (count next : Int) : impl_FarmPut.f k shut waits again count next = some (farmPut shut waits again count next) := by
  obtain ⟨k, rfl⟩ : ∃ m, k = m + 2 := ⟨k - 2, by omega⟩
  simp only [impl_FarmPut.f, implFarmOk_at, Option.bind_some, farmPut]
  cases hok : farmOk waits again count next with
  | false => rfl
  | true =>
    obtain ⟨c0, c1, n0, n1⟩ := farmOk_of hok
    have b0 : 0 ≤ farmBits shut waits again count ∧ farmBits shut waits again count < 64 := by
      cases shut <;> cases waits <;> cases again <;> simp [farmBits] <;> omega
    have last : ∀ x : Int, x = farmBits shut waits again count →
        ((impl_NumPut.f k x 1).bind fun t126 => (if 2 + t126.size ≤ 9223372036854775807 then ((impl_NumPut.f k next 1).bind fun t127 => (if 2 + t126.size + t127.size ≤ 9223372036854775807 then (some (((⟨#[1, 0]⟩ : ByteArray) ++ t126) ++ t127)) else (none))) else (none))) =
          some (((⟨#[1, 0]⟩ : ByteArray) ++ strOfNums (be 1 (farmBits shut waits again count))) ++ strOfNums (be 1 next)) := by
      intro x hx
      subst hx
      rw [implPut_at k (by omega) _ 1 (by omega), implPut_at k (by omega) _ 1 (by omega), numPut1 b0.1 (by omega), numPut1 n0 (by omega)]
      simp only [Option.bind_some]
      rw [if_pos (by rw [be1_size]; decide), if_pos (by rw [be1_size, be1_size]; decide)]
    simp only [if_true]
    cases shut <;> cases waits <;> cases again <;>
      simp only [Bool.false_eq_true, if_false, if_true, impl_FarmPut.j0, impl_FarmPut.j1] <;>
      (refine last _ ?_; simp [farmBits, wrap64]; try omega)
end FnExactFarmPutL
open FnExactFarmPutL

theorem FnExactFarmPut (a b c : Bool) (d e : Int) (_ : (Lit.int .i64 d).wf = true) (_ : (Lit.int .i64 e).wf = true) : ∃ k, laws_FnExactFarmPut.f k a b c d e = some true := by
  refine ⟨20, ?_⟩
  simp only [laws_FnExactFarmPut.f, laws_toFarm.f, Option.bind_some, specFarmPut_at 20 (by decide), implFarmPut_at 20 (by decide), if_true]

end Go.Proofs.Ytclhopldchndiaa.Pure
