/- FnFarmText: how it stands is read back from four bytes. No conditions but that what comes is such as a machine holds. -/
import Derived.Test.YtclhopldchndiaaPFnFarmTextx8
import Derived.Test.YtclhopldchndiaaBt
namespace Go.Proofs.Ytclhopldchndiaa.Pure
open Go Go.RowKit Go.Proofs.Ytclhopldchndiaa.PFnFarmText Go.Proofs.YtclhopldchndiaaW.PrintWords Go.Proofs.YtclhopldchndiaaW.PrintLast Go.Proofs.YtclhopldchndiaaW.PrintMore Go.Proofs.Ytclhopldchndiaa.Aux Go.Proofs.Ytclhopldchndiaa.Bt

namespace FnFarmTextL
theorem l1In_at (a b c : Int) : spec_l1In.f a b c = some (decide (b ≤ a ∧ a ≤ c)) := by
  unfold spec_l1In.f
  by_cases h : b ≤ a
  · rw [if_pos h]
    simp [h]
  · rw [if_neg h]
    simp [h]
theorem within_at (a c : Int) : impl_within.f a c = some (decide (0 ≤ a ∧ a ≤ c)) := by
  unfold impl_within.f
  by_cases h : 0 ≤ a
  · rw [if_pos h]
    simp [h]
  · rw [if_neg h]
    simp [h]
/-- FarmOk's answer. -/
def farmOk (waits again : Bool) (count next : Int) : Bool := decide (0 ≤ count ∧ count ≤ 3) && (decide (0 ≤ next ∧ next ≤ 255) && (again || !waits))
theorem specFarmOk_at (shut waits again : Bool) (count next : Int) : spec_FarmOk.f shut waits again count next = some (farmOk waits again count next) := by
  simp only [spec_FarmOk.f, l1In_at, Option.bind_some, farmOk]
  generalize decide (0 ≤ count ∧ count ≤ 3) = b1
  generalize decide (0 ≤ next ∧ next ≤ 255) = b2
  cases b1 <;> cases b2 <;> cases waits <;> cases again <;> rfl
theorem implFarmOk_at (shut waits again : Bool) (count next : Int) : impl_FarmOk.f shut waits again count next = some (farmOk waits again count next) := by
  simp only [impl_FarmOk.f, within_at, Option.bind_some, farmOk]
  generalize decide (0 ≤ count ∧ count ≤ 3) = b1
  generalize decide (0 ≤ next ∧ next ≤ 255) = b2
  cases b1 <;> cases b2 <;> cases waits <;> cases again <;> rfl
theorem l1Put_l0 (d : Nat) : ∀ (k : Nat) (n size i : Int) (out : ByteArray), d < k → 0 ≤ n → n ≤ 9223372036854775807 → 0 ≤ i → size ≤ 4 → size - i = d → out.size ≤ 4 - d →
    spec_l1Put.l0 k n size out i = some (strOfNums (be d n) ++ out) := by
  induction d with
  | zero =>
    intro k n size i out hk h0 h1 hi hs hd ho
    obtain ⟨k, rfl⟩ : ∃ m, k = m + 1 := ⟨k - 1, by omega⟩
    simp only [spec_l1Put.l0]
    rw [if_neg (by omega)]
    show some out = some ((⟨#[]⟩ : ByteArray) ++ out)
    rw [str_nil_append]
  | succ d ih =>
    intro k n size i out hk h0 h1 hi hs hd ho
    obtain ⟨k, rfl⟩ : ∃ m, k = m + 1 := ⟨k - 1, by omega⟩
    have hsz : (strOfNums [(Int.tmod n 256) % 256]).size = 1 := by rw [strOfNums_size]; rfl
    simp only [spec_l1Put.l0]
    rw [if_pos (by omega)]
    simp only [Option.bind_some]
    rw [if_pos (by omega), w64 (x := i + 1) (by omega) (by omega), tdivp h0, w64 (x := n / 256) (by omega) (by omega)]
    rw [ih _ _ _ _ _ (by omega) (by omega) (by omega) (by omega) hs (by omega) (by rw [ByteArray.size_append]; omega)]
    have e : (Int.tmod n 256) % 256 = n % 256 := by rw [tmodp h0]; omega
    rw [e, be, strOfNums_append, ByteArray.append_assoc]
theorem l1Put_at (k : Nat) (hk : 5 ≤ k) (n size : Int) (h0 : 0 ≤ n) (h1 : n ≤ 9223372036854775807) (hs0 : 0 ≤ size) (hs : size ≤ 4) :
    spec_l1Put.f k n size = some (strOfNums (be size.toNat n)) := by
  unfold spec_l1Put.f
  rw [l1Put_l0 size.toNat k n size 0 _ (by omega) h0 h1 (by omega) hs (by omega) (by show 0 ≤ _; omega), str_append_nil]
theorem implPut_l0 (d : Nat) : ∀ (k : Nat) (n : Int) (xs : List Int), d < k → 0 ≤ n → n ≤ 9223372036854775807 → d ≤ xs.length → xs.length ≤ 4 →
    impl_NumPut.l0 k n xs ((d : Int) - 1) = some (strOfNums (be d n ++ xs.drop d)) := by
  induction d with
  | zero =>
    intro k n xs hk h0 h1 hd hx
    obtain ⟨k, rfl⟩ : ∃ m, k = m + 1 := ⟨k - 1, by omega⟩
    simp only [impl_NumPut.l0]
    rw [if_neg (by omega)]
    simp [be]
  | succ d ih =>
    intro k n xs hk h0 h1 hd hx
    obtain ⟨k, rfl⟩ : ∃ m, k = m + 1 := ⟨k - 1, by omega⟩
    simp only [impl_NumPut.l0]
    have e1 : ((d + 1 : Nat) : Int) - 1 = d := by omega
    rw [e1, if_pos (by omega), if_pos (by omega), if_pos (by omega), and255 h0 (by omega), w64 (x := (d : Int) - 1) (by omega) (by omega)]
    have e2 : ((d : Int)).toNat = d := by omega
    rw [e2, ih _ _ _ (by omega) (by omega) (by omega) (by rw [List.length_set]; omega) (by rw [List.length_set]; omega)]
    have hl : d < (xs.set d (n % 256 % 256)).length := by rw [List.length_set]; omega
    rw [List.drop_eq_getElem_cons hl, List.getElem_set_self, List.drop_set_of_lt (by omega)]
    have e3 : n % 256 % 256 = n % 256 := by omega
    rw [e3, be, List.append_assoc]
    rfl
theorem implPut_at (k : Nat) (hk : 7 ≤ k) (n size : Int) (h1 : n ≤ 9223372036854775807) : impl_NumPut.f k n size = some (numPut n size) := by
  obtain ⟨k, rfl⟩ : ∃ m, k = m + 1 := ⟨k - 1, by omega⟩
  have j0t : ∀ a0 a1, impl_NumPut.j0 (k + 1) a0 a1 true = some (⟨#[]⟩ : ByteArray) := fun a0 a1 => by simp only [impl_NumPut.j0, if_true]
  unfold impl_NumPut.f numPut
  by_cases ha : size < 1
  · rw [if_pos ha, j0t, if_neg (by omega)]
  rw [if_neg ha]
  by_cases hb : size > 4
  · rw [if_pos hb, j0t, if_neg (by omega)]
  rw [if_neg hb]
  by_cases hc : n < 0
  · rw [if_pos hc, j0t, if_neg (by omega)]
  rw [if_neg hc, if_pos (by rw [w64 (by omega) (by omega)]; omega)]
  have hs : shr .i64 n (wrap64 (8 * size)) = n / 256 ^ size.toNat := by
    have h : size = 1 ∨ size = 2 ∨ size = 3 ∨ size = 4 := by omega
    unfold shr
    rcases h with rfl | rfl | rfl | rfl <;> exact congrArg (fun m => n / m) (by decide +kernel)
  have hp : (0 : Int) < 256 ^ size.toNat := Int.pow_pos (by decide)
  rw [hs]
  by_cases h : n < 256 ^ size.toNat
  · rw [if_pos ⟨by omega, by omega, by omega, h⟩, Int.ediv_eq_zero_of_lt (by omega) h]
    simp only [impl_NumPut.j0, bne_self_eq_false, Bool.false_eq_true, if_false]
    rw [if_pos (by omega), if_pos (by omega), w64 (by omega) (by omega)]
    have e : size - 1 = ((size.toNat : Nat) : Int) - 1 := by omega
    rw [e, implPut_l0 size.toNat k n _ (by omega) (by omega) h1 (by rw [List.length_replicate]; omega) (by rw [List.length_replicate]; omega)]
    rw [List.drop_eq_nil_of_le (by rw [List.length_replicate]; omega), List.append_nil]
  · have h2 : 1 ≤ n / 256 ^ size.toNat := Int.le_ediv_of_mul_le hp (by omega)
    have h3 : (n / 256 ^ size.toNat != 0) = true := by simp; omega
    rw [h3, j0t, if_neg (by omega)]
/-- The bits of how a farm stands. -/
def farmBits (shut waits again : Bool) (count : Int) : Int := (if shut = true then 32 else 0) + (if waits = true then 16 else 0) + (if again = true then 8 else 0) + count * 2
/-- FarmPut's answer. -/
def farmPut (shut waits again : Bool) (count next : Int) : ByteArray :=
  if farmOk waits again count next = true then ((⟨#[1, 0]⟩ : ByteArray) ++ strOfNums (be 1 (farmBits shut waits again count))) ++ strOfNums (be 1 next) else (⟨#[]⟩ : ByteArray)
theorem farmOk_of {waits again : Bool} {count next : Int} (h : farmOk waits again count next = true) : 0 ≤ count ∧ count ≤ 3 ∧ 0 ≤ next ∧ next ≤ 255 := by
  simp only [farmOk, Bool.and_eq_true, decide_eq_true_eq] at h
  exact ⟨h.1.1, h.1.2, h.2.1.1, h.2.1.2⟩
theorem be1_size (x : Int) : (strOfNums (be 1 x)).size = 1 := by rw [strOfNums_size, be_length]
theorem numPut1 {x : Int} (h0 : 0 ≤ x) (h1 : x < 256) : numPut x 1 = strOfNums (be 1 x) := by
  unfold numPut
  rw [if_pos ⟨by decide, by decide, h0, h1⟩]
  rfl
theorem specFarmPut_at (k : Nat) (hk : 10 ≤ k) (shut waits again : Bool) (count next : Int) : spec_FarmPut.f k shut waits again count next = some (farmPut shut waits again count next) := by
  simp only [spec_FarmPut.f, specFarmOk_at, Option.bind_some, farmPut, spec_l3Flag.f]
  cases hok : farmOk waits again count next with
  | false => rfl
  | true =>
    obtain ⟨c0, c1, n0, n1⟩ := farmOk_of hok
    have hb : ∀ (s w a : Bool), (wrap64 ((wrap64 ((wrap64 ((wrap64 ((if s = true then (1 : Int) else 0) * 32)) + (wrap64 ((if w = true then (1 : Int) else 0) * 16)))) + (wrap64 ((if a = true then (1 : Int) else 0) * 8)))) + (wrap64 (count * 2)))) = farmBits s w a count := by
      intro s w a
      cases s <;> cases w <;> cases a <;> simp [farmBits, wrap64] <;> omega
    have hs : (if shut = true then some (1 : Int) else some 0) = some (if shut = true then (1 : Int) else 0) := by cases shut <;> rfl
    have hw : (if waits = true then some (1 : Int) else some 0) = some (if waits = true then (1 : Int) else 0) := by cases waits <;> rfl
    have ha : (if again = true then some (1 : Int) else some 0) = some (if again = true then (1 : Int) else 0) := by cases again <;> rfl
    have b0 : 0 ≤ farmBits shut waits again count ∧ farmBits shut waits again count < 64 := by
      cases shut <;> cases waits <;> cases again <;> simp [farmBits] <;> omega
    simp only [if_true, hs, hw, ha, Option.bind_some, hb]
    rw [l1Put_at k (by omega) _ 1 b0.1 (by omega) (by decide) (by decide)]
    simp only [Option.bind_some]
    have e1 : (1 : Int).toNat = 1 := rfl
    rw [e1, if_pos (by rw [be1_size]; decide), l1Put_at k (by omega) _ 1 n0 (by omega) (by decide) (by decide)]
    simp only [Option.bind_some]
    rw [e1, if_pos (by rw [be1_size, be1_size]; decide)]
theorem implFarmPut_at (k : Nat) (hk : 12 ≤ k) (shut waits again : Bool) (count next : Int) : impl_FarmPut.f k shut waits again count next = some (farmPut shut waits again count next) := by
  obtain ⟨k, rfl⟩ : ∃ m, k = m + 2 := ⟨k - 2, by omega⟩
  simp only [impl_FarmPut.f, implFarmOk_at, Option.bind_some, farmPut]
  cases hok : farmOk waits again count next with
  | false => rfl
  | true =>
    obtain ⟨c0, c1, n0, n1⟩ := farmOk_of hok
    have b0 : 0 ≤ farmBits shut waits again count ∧ farmBits shut waits again count < 64 := by
      cases shut <;> cases waits <;> cases again <;> simp [farmBits] <;> omega
    have last : ∀ x : Int, x = farmBits shut waits again count →
        ((impl_NumPut.f k x 1).bind fun t126 => (if 2 + t126.size ≤ 9223372036854775807 then ((impl_NumPut.f k next 1).bind fun t127 => (if 2 + t126.size + t127.size ≤ 9223372036854775807 then (some (((⟨#[1, 0]⟩ : ByteArray) ++ t126) ++ t127)) else (none))) else (none))) =
          some (((⟨#[1, 0]⟩ : ByteArray) ++ strOfNums (be 1 (farmBits shut waits again count))) ++ strOfNums (be 1 next)) := by
      intro x hx
      subst hx
      rw [implPut_at k (by omega) _ 1 (by omega), implPut_at k (by omega) _ 1 (by omega), numPut1 b0.1 (by omega), numPut1 n0 (by omega)]
      simp only [Option.bind_some]
      rw [if_pos (by rw [be1_size]; decide), if_pos (by rw [be1_size, be1_size]; decide)]
    simp only [if_true]
    cases shut <;> cases waits <;> cases again <;>
      simp only [Bool.false_eq_true, if_false, if_true, impl_FarmPut.j0, impl_FarmPut.j1] <;>
      (refine last _ ?_; simp [farmBits, wrap64]; try omega)
theorem flags_fin : ∀ v : Fin 256, (Int.tmod (wrap64 (Int.tdiv (wrap64 (v.1 : Int)) 32)) 2 == 1) = (bits .and .i64 (wrap64 (v.1 : Int)) 32 != 0) ∧ (Int.tmod (wrap64 (Int.tdiv (wrap64 (v.1 : Int)) 16)) 2 == 1) = (bits .and .i64 (wrap64 (v.1 : Int)) 16 != 0) ∧
    (Int.tmod (wrap64 (Int.tdiv (wrap64 (v.1 : Int)) 8)) 2 == 1) = (bits .and .i64 (wrap64 (v.1 : Int)) 8 != 0) := by decide +kernel
theorem flags_at (s : ByteArray) (p : Int) : (Int.tmod (wrap64 (Int.tdiv (wrap64 (bt s p)) 32)) 2 == 1) = (bits .and .i64 (wrap64 (bt s p)) 32 != 0) ∧ (Int.tmod (wrap64 (Int.tdiv (wrap64 (bt s p)) 16)) 2 == 1) = (bits .and .i64 (wrap64 (bt s p)) 16 != 0) ∧
    (Int.tmod (wrap64 (Int.tdiv (wrap64 (bt s p)) 8)) 2 == 1) = (bits .and .i64 (wrap64 (bt s p)) 8 != 0) := by
  have hb := bt_range s p
  have h := flags_fin ⟨(bt s p).toNat, by omega⟩
  have e : (((bt s p).toNat : Nat) : Int) = bt s p := by omega
  simp only [e] at h
  exact h
/-- Both read the same. -/
theorem farmGet_at (k : Nat) (hk : 12 ≤ k) (s : ByteArray) : ∃ r, spec_FarmGet.f k s = some r ∧ impl_FarmGet.f k s = some r := by
  obtain ⟨f1, f2, f3⟩ := flags_at s 2
  unfold spec_FarmGet.f impl_FarmGet.f
  by_cases h4 : (s.size : Int) = 4
  · simp only [if_pos h4, if_pos (show 2 < (s.size : Int) by omega), if_pos (show 3 < (s.size : Int) by omega), f1, f2, f3, specFarmPut_at k (by omega), implFarmPut_at k hk, Option.bind_some]
    split <;> exact ⟨_, rfl, rfl⟩
  · simp only [if_neg h4]
    exact ⟨_, rfl, rfl⟩
/-- What FarmGet reads. -/
def farmGet (s : ByteArray) : Bool × Bool × Bool × Int × Int × Bool :=
  if (s.size : Int) = 4 then (if (farmPut ((Go.bits .and .i64 (wrap64 (bt s 2)) 32) != 0) ((Go.bits .and .i64 (wrap64 (bt s 2)) 16) != 0) ((Go.bits .and .i64 (wrap64 (bt s 2)) 8) != 0) (Int.tmod (wrap64 (Int.tdiv (wrap64 (bt s 2)) 2)) 4) (wrap64 (bt s 3))).toList = s.toList
    then (((Go.bits .and .i64 (wrap64 (bt s 2)) 32) != 0), ((Go.bits .and .i64 (wrap64 (bt s 2)) 16) != 0), ((Go.bits .and .i64 (wrap64 (bt s 2)) 8) != 0), Int.tmod (wrap64 (Int.tdiv (wrap64 (bt s 2)) 2)) 4, wrap64 (bt s 3), true) else (false, false, false, 0, 0, false)) else (false, false, false, 0, 0, false)
theorem farmGet_is (k : Nat) (hk : 12 ≤ k) (s : ByteArray) : spec_FarmGet.f k s = some (farmGet s) ∧ impl_FarmGet.f k s = some (farmGet s) := by
  obtain ⟨f1, f2, f3⟩ := flags_at s 2
  unfold spec_FarmGet.f impl_FarmGet.f farmGet
  by_cases h4 : (s.size : Int) = 4
  · simp only [if_pos h4, if_pos (show 2 < (s.size : Int) by omega), if_pos (show 3 < (s.size : Int) by omega), f1, f2, f3, specFarmPut_at k (by omega), implFarmPut_at k hk, Option.bind_some]
    split
    · exact ⟨by first | rfl | trivial, by first | rfl | trivial⟩
    · exact ⟨by first | rfl | trivial, by first | rfl | trivial⟩
  · simp only [if_neg h4]
    exact ⟨by first | rfl | trivial, by first | rfl | trivial⟩
/-- What is read, put again, is the text. -/
theorem farmGet_put (s : ByteArray) (h : (farmGet s).2.2.2.2.2 = true) : (farmPut (farmGet s).1 (farmGet s).2.1 (farmGet s).2.2.1 (farmGet s).2.2.2.1 (farmGet s).2.2.2.2.1).toList = s.toList := by
  unfold farmGet at h ⊢
  by_cases h4 : (s.size : Int) = 4
  · rw [if_pos h4] at h ⊢
    split at h
    · rename_i he
      rw [if_pos he]
      exact he
    · exact absurd h (by simp)
  · rw [if_neg h4] at h
    exact absurd h (by simp)
theorem bits_fin : ∀ (a b c : Bool) (n : Fin 4), ((Go.bits .and .i64 (wrap64 (farmBits a b c (n.1 : Int) % 256)) 32) != 0) = a ∧ ((Go.bits .and .i64 (wrap64 (farmBits a b c (n.1 : Int) % 256)) 16) != 0) = b ∧ ((Go.bits .and .i64 (wrap64 (farmBits a b c (n.1 : Int) % 256)) 8) != 0) = c ∧ Int.tmod (wrap64 (Int.tdiv (wrap64 (farmBits a b c (n.1 : Int) % 256)) 2)) 4 = (n.1 : Int) := by decide +kernel
/-- What was put is read. -/
theorem farmPut_get (a b c : Bool) (n m : Int) : farmGet (farmPut a b c n m) = if farmOk b c n m = true then (a, b, c, n, m, true) else (false, false, false, 0, 0, false) := by
  cases hok : farmOk b c n m with
  | false =>
    have e : farmPut a b c n m = ⟨#[]⟩ := by rw [farmPut, hok]; rfl
    rw [e]
    rfl
  | true =>
    obtain ⟨c0, c1, n0, n1⟩ := farmOk_of hok
    have e : farmPut a b c n m = ((⟨#[1, 0]⟩ : ByteArray) ++ strOfNums (be 1 (farmBits a b c n))) ++ strOfNums (be 1 m) := by rw [farmPut, hok]; rfl
    have z2 : (⟨#[1, 0]⟩ : ByteArray).size = 2 := rfl
    have hz : (farmPut a b c n m).size = 4 := by rw [e, ByteArray.size_append, ByteArray.size_append, be1_size, be1_size, z2]
    have be1 : ∀ x, be 1 x = [x % 256] := fun x => rfl
    have hb2 : bt (farmPut a b c n m) 2 = farmBits a b c n % 256 := by
      rw [e]
      have h1 := bt_left ((⟨#[1, 0]⟩ : ByteArray) ++ strOfNums (be 1 (farmBits a b c n))) (strOfNums (be 1 m)) 2 (by rw [ByteArray.size_append, be1_size, z2]; decide)
      have h2 := bt_right (⟨#[1, 0]⟩ : ByteArray) (strOfNums (be 1 (farmBits a b c n))) 0
      rw [bt_str (be_bytes 1 _)] at h2
      exact h1.trans h2
    have hb3 : bt (farmPut a b c n m) 3 = m := by
      rw [e]
      have h2 := bt_right ((⟨#[1, 0]⟩ : ByteArray) ++ strOfNums (be 1 (farmBits a b c n))) (strOfNums (be 1 m)) 0
      rw [bt_str (be_bytes 1 _), ByteArray.size_append, be1_size, z2] at h2
      refine h2.trans ?_
      show m % 256 = m
      omega
    obtain ⟨f1, f2, f3, f4⟩ := bits_fin a b c ⟨n.toNat, by omega⟩
    have en : ((n.toNat : Nat) : Int) = n := by omega
    simp only [en] at f1 f2 f3 f4
    have em : wrap64 m = m := w64 (by omega) (by omega)
    unfold farmGet
    rw [if_pos (by rw [hz]; rfl), hb2, hb3, f1, f2, f3, f4, em, if_pos rfl]
    rfl
/-- What is read from: at most 2000 bytes. -/
def Bytes (xs : List Int) : Prop := xs.length ≤ 2000 ∧ ∀ x ∈ xs, 0 ≤ x ∧ x ≤ 255
theorem rd_rng {xs : List Int} (h : Bytes xs) (i : Int) : 0 ≤ rd xs i ∧ rd xs i ≤ 255 := by
  unfold rd
  rw [List.getD_eq_getElem?_getD]
  cases hx : xs[i.toNat]? with
  | none => simp
  | some x => exact h.2 x (List.mem_of_getElem? hx)
theorem u8_rng {x : Int} (h : (Lit.int .u8 x).wf = true) : 0 ≤ x ∧ x ≤ 255 := by
  simpa [Lit.wf, IntKind.min, IntKind.max, IntKind.bits, IntKind.signed] using h
/-- Opening what came: its first 2000 bytes. -/
theorem open_at (l : List Int) (hl : l.length ≤ 140737488351232) (h : ∀ x ∈ l, (Lit.int .u8 x).wf = true) : spec_l1Open.f l = some (l.take 2000, 0) ∧ Bytes (l.take 2000) := by
  refine ⟨?_, by rw [List.length_take]; omega, fun x hx => u8_rng (h x (List.mem_of_mem_take hx))⟩
  unfold spec_l1Open.f
  by_cases h2 : (l.length : Int) > 2000
  · rw [if_pos h2, if_pos (by omega)]
  · rw [if_neg h2, List.take_of_length_le (by omega)]
theorem xor_rng {x y : Int} (hx0 : 0 ≤ x) (hx1 : x < 4611686018427387904) (hy0 : 0 ≤ y) (hy1 : y < 4611686018427387904) : 0 ≤ bits .xor .i64 x y ∧ bits .xor .i64 x y < 4611686018427387904 := by
  obtain ⟨a, rfl⟩ := Int.eq_ofNat_of_zero_le hx0
  obtain ⟨b, rfl⟩ := Int.eq_ofNat_of_zero_le hy0
  have h : a ^^^ b < 2 ^ 62 := Nat.xor_lt_two_pow (by omega) (by omega)
  have e : bits .xor .i64 (a : Int) (b : Int) = ((a ^^^ b : Nat) : Int) := by
    show IntKind.i64.wrap ((BitVec.ofInt 64 (a : Int) ^^^ BitVec.ofInt 64 (b : Int)).toNat : Int) = _
    rw [BitVec.toNat_xor, BitVec.ofInt_natCast, BitVec.ofInt_natCast, BitVec.toNat_ofNat, BitVec.toNat_ofNat, Nat.mod_eq_of_lt (by omega), Nat.mod_eq_of_lt (by omega)]
    exact wraps_i64 _ (by omega) (by omega)
  rw [e]
  omega
/-- The number that is reckoned where what came is at its end. -/
theorem mix_rng {a b p q : Int} (ha0 : 0 ≤ a) (ha1 : a ≤ 255) (hb0 : 0 ≤ b) (hb1 : b ≤ 255) (hp0 : 0 ≤ p) (hp1 : p ≤ 1099511627776) (hq0 : 0 ≤ q) (hq1 : q ≤ 1099511627776) :
    ∃ v, wrap64 (wrap64 (wrap64 (wrap64 (wrap64 a * 131) + wrap64 (wrap64 b * 1117)) + wrap64 (p * 29)) + wrap64 (wrap64 q * 53)) = v ∧ 0 ≤ v ∧ v < 4611686018427387904 := by
  refine ⟨a * 131 + b * 1117 + p * 29 + q * 53, ?_, by omega, by omega⟩
  rw [w64 (x := a) (by omega) (by omega), w64 (x := b) (by omega) (by omega), w64 (x := q) (by omega) (by omega), w64 (x := a * 131) (by omega) (by omega), w64 (x := b * 1117) (by omega) (by omega), w64 (x := p * 29) (by omega) (by omega), w64 (x := q * 53) (by omega) (by omega),
    w64 (x := a * 131 + b * 1117) (by omega) (by omega), w64 (x := a * 131 + b * 1117 + p * 29) (by omega) (by omega), w64 (by omega) (by omega)]
theorem tmod_rng {x m : Int} (h0 : 0 ≤ x) (hm : 1 ≤ m) : 0 ≤ Int.tmod x m ∧ Int.tmod x m < m := by
  rw [tmodp h0]
  exact ⟨Int.emod_nonneg _ (by omega), Int.emod_lt_of_pos _ (by omega)⟩
/-- One pick: a number below m. -/
theorem pick_at {xs : List Int} (h : Bytes xs) (p m : Int) (hp0 : 0 ≤ p) (hp1 : p ≤ 1000000) (hm : 1 ≤ m) :
    ∃ r, 0 ≤ r ∧ r < m ∧ ∀ k, 2 ≤ k → spec_l1Rd_pick.f k xs p m = some (r, p + 1) := by
  have hlen := h.1
  have e1 : wrap64 (p + 1) = p + 1 := w64 (by omega) (by omega)
  have e2 : wrap64 (p + 1 - 1) = p := by rw [w64 (by omega) (by omega)]; omega
  have n1 : ¬ m < 1 := by omega
  have n2 : ¬ m = 0 := by omega
  by_cases hz : xs.length = 0
  · refine ⟨0, by omega, by omega, fun k hk => ?_⟩
    obtain ⟨k, rfl⟩ : ∃ q, k = q + 1 := ⟨k - 1, by omega⟩
    have hb : ((xs.length : Int) == 0) = true := by rw [hz]; rfl
    unfold spec_l1Rd_pick.f
    rw [if_neg n1, hb, e1]
    simp only [spec_l1Rd_pick.j0, if_true]
  have hb : ((xs.length : Int) == 0) = false := beq_eq_false_iff_ne.mpr (by omega)
  by_cases hlt : p < (xs.length : Int)
  · have hr := rd_rng h p
    have e3 : wrap64 (rd xs p) = rd xs p := w64 (by omega) (by omega)
    obtain ⟨t0, t1⟩ := tmod_rng (x := rd xs p) (m := m) hr.1 hm
    refine ⟨Int.tmod (rd xs p) m, t0, t1, fun k hk => ?_⟩
    obtain ⟨k, rfl⟩ : ∃ q, k = q + 1 := ⟨k - 1, by omega⟩
    unfold spec_l1Rd_pick.f
    rw [if_neg n1, hb, e1]
    simp only [spec_l1Rd_pick.j0, Bool.false_eq_true, if_false, e2]
    rw [if_pos hlt, if_pos hp0, if_neg n2, e3]
  · have hl1 : 1 ≤ (xs.length : Int) := by omega
    have m1 := tmod_rng (x := p) (m := (xs.length : Int)) hp0 hl1
    have e4 : wrap64 (wrap64 (p * 7) + 3) = p * 7 + 3 := by rw [w64 (x := p * 7) (by omega) (by omega), w64 (by omega) (by omega)]
    have m2 := tmod_rng (x := p * 7 + 3) (m := (xs.length : Int)) (by omega) hl1
    have r1 := rd_rng h (Int.tmod p (xs.length : Int))
    have r2 := rd_rng h (Int.tmod (p * 7 + 3) (xs.length : Int))
    have q0 : 0 ≤ Int.tdiv p (xs.length : Int) := by rw [tdivp hp0]; exact Int.ediv_nonneg hp0 (by omega)
    have q1 : Int.tdiv p (xs.length : Int) ≤ 1000000 := by rw [tdivp hp0]; exact Int.le_trans (Int.ediv_le_self _ hp0) hp1
    obtain ⟨v, hv, v0, v1⟩ := mix_rng (p := p) (q := Int.tdiv p (xs.length : Int)) r1.1 r1.2 r2.1 r2.2 hp0 (by omega) q0 (by omega)
    have d1 : wrap64 (Int.tdiv v 64) = v / 64 := by rw [tdivp v0, w64 (by omega) (by omega)]
    obtain ⟨x0, x1⟩ := xor_rng (x := v) (y := v / 64) v0 v1 (by omega) (by omega)
    obtain ⟨t0, t1⟩ := tmod_rng (x := bits .xor .i64 v (v / 64)) (m := m) x0 hm
    refine ⟨Int.tmod (bits .xor .i64 v (v / 64)) m, t0, t1, fun k hk => ?_⟩
    obtain ⟨k, rfl⟩ : ∃ q, k = q + 1 := ⟨k - 1, by omega⟩
    unfold spec_l1Rd_pick.f
    rw [if_neg n1, hb, e1]
    simp only [spec_l1Rd_pick.j0, Bool.false_eq_true, if_false, e2, e4]
    rw [if_neg hlt, if_neg (show ¬ (xs.length : Int) = 0 by omega), if_pos m1.1, if_pos m1.2, if_pos m2.1, if_pos m2.2, if_neg n2, hv, d1]
theorem text_l0 {xs : List Int} (h : Bytes xs) (d : Nat) : ∀ (acc : List Int) (p : Int), acc.length + d ≤ 1000 → 0 ≤ p → p + 3 * d ≤ 500000 →
    ∃ t q, t.size = acc.length + d ∧ p ≤ q ∧ q ≤ p + 3 * d ∧ ∀ k, d + 2 < k → spec_l15Text.l0 k acc (d : Int) xs p = some (t, q) := by
  induction d with
  | zero =>
    intro acc p ha hp0 hp1
    refine ⟨strOfNums acc, p, strOfNums_size acc, by omega, by omega, fun k hk => ?_⟩
    obtain ⟨k, rfl⟩ : ∃ m, k = m + 1 := ⟨k - 1, by omega⟩
    simp only [spec_l15Text.l0]
    rw [if_neg (by omega)]
  | succ d ih =>
    intro acc p ha hp0 hp1
    obtain ⟨r1, a1, b1, c1⟩ := pick_at h p 256 hp0 (by omega) (by omega)
    obtain ⟨r2, a2, b2, c2⟩ := pick_at h (p + 1) 4 (by omega) (by omega) (by omega)
    obtain ⟨r3, a3, b3, c3⟩ := pick_at h (p + 1 + 1) 5 (by omega) (by omega) (by omega)
    obtain ⟨t, q, ht, hq0, hq1, hk⟩ := ih (acc ++ [(rd [r1, r2, 85, 235, 144] r3) % 256]) (p + 1 + 1 + 1) (by rw [List.length_append, List.length_singleton]; omega) (by omega) (by omega)
    refine ⟨t, q, by rw [ht, List.length_append, List.length_singleton]; omega, by omega, by omega, fun k hkk => ?_⟩
    obtain ⟨k, rfl⟩ : ∃ m, k = m + 1 := ⟨k - 1, by omega⟩
    have e : wrap64 (((d + 1 : Nat) : Int) - 1) = (d : Int) := by rw [w64 (by omega) (by omega)]; omega
    simp only [spec_l15Text.l0]
    rw [if_pos (by omega), c1 k (by omega)]
    simp only [Option.bind_some]
    rw [c2 k (by omega)]
    simp only [Option.bind_some]
    rw [c3 k (by omega)]
    simp only [Option.bind_some]
    rw [if_pos a3, if_pos (by show r3 < 5; omega), if_pos (by omega), e]
    exact hk k (by omega)
/-- A text that is drawn: at most n bytes. -/
theorem text_at {xs : List Int} (h : Bytes xs) (p : Int) (n : Nat) (hp0 : 0 ≤ p) (hp1 : p ≤ 100000) (hn : n ≤ 900) :
    ∃ t q, t.size ≤ n ∧ p ≤ q ∧ q ≤ p + 1 + 3 * n ∧ ∀ k, n + 10 < k → spec_l15Text.f k xs p (n : Int) = some (t, q) := by
  obtain ⟨r, a, b, c⟩ := pick_at h p ((n : Int) + 1) hp0 (by omega) (by omega)
  obtain ⟨d, rfl⟩ := Int.eq_ofNat_of_zero_le a
  obtain ⟨t, q, ht, hq0, hq1, hk⟩ := text_l0 h d [] (p + 1) (by rw [List.length_nil]; omega) (by omega) (by omega)
  refine ⟨t, q, by rw [ht, List.length_nil]; omega, by omega, by omega, fun k hkk => ?_⟩
  unfold spec_l15Text.f
  rw [w64 (x := (n : Int) + 1) (by omega) (by omega), c k (by omega)]
  simp only [Option.bind_some]
  exact hk k (by omega)
theorem bnd {α β : Type} {o : Option α} {f : α → Option β} {b : β} (a : α) (h : o = some a) (h2 : f a = some b) : o.bind f = some b := Option.bind_eq_some_iff.2 ⟨a, h, h2⟩
theorem farm_at {xs : List Int} (h : Bytes xs) (p : Int) (hp0 : 0 ≤ p) (hp1 : p ≤ 100000) : ∃ a b c n m q, p ≤ q ∧ q ≤ p + 7 ∧ ∀ k, 2 ≤ k → spec_l15Farm.f k xs p = some (a, b, c, n, m, q) := by
  obtain ⟨r0, a0, b0, c0⟩ := pick_at h p 6 (by omega) (by omega) (by decide)
  obtain ⟨r1, a1, b1, c1⟩ := pick_at h (p + 1) 3 (by omega) (by omega) (by decide)
  obtain ⟨r2, a2, b2, c2⟩ := pick_at h (p + 1 + 1) 4 (by omega) (by omega) (by decide)
  obtain ⟨r3, a3, b3, c3⟩ := pick_at h (p + 1 + 1 + 1) 12 (by omega) (by omega) (by decide)
  obtain ⟨r4, a4, b4, c4⟩ := pick_at h (p + 1 + 1 + 1 + 1) 256 (by omega) (by omega) (by decide)
  obtain ⟨r5, a5, b5, c5⟩ := pick_at h (p + 1 + 1 + 1 + 1 + 1) 4 (by omega) (by omega) (by decide)
  obtain ⟨r6, a6, b6, c6⟩ := pick_at h (p + 1 + 1 + 1 + 1 + 1 + 1) 2 (by omega) (by omega) (by decide)
  by_cases hz : r1 = 0
  · refine ⟨r0 == 0, r6 == 0, r1 == 0, r2, rd [r3, r4, 255, 0] r5, p + 1 + 1 + 1 + 1 + 1 + 1 + 1, ?_, ?_, fun k hk => ?_⟩
    rotate_left 2
    · unfold spec_l15Farm.f
      exact bnd _ (c0 k hk) (bnd _ (c1 k hk) (bnd _ (c2 k hk) (bnd _ (c3 k hk) (bnd _ (c4 k hk) (bnd _ rfl (bnd _ (c5 k hk) ((if_pos a5).trans ((if_pos b5).trans ((if_pos hz).trans (bnd _ (c6 k hk) rfl))))))))))
    · omega
    · omega
  · refine ⟨r0 == 0, false, r1 == 0, r2, rd [r3, r4, 255, 0] r5, p + 1 + 1 + 1 + 1 + 1 + 1, ?_, ?_, fun k hk => ?_⟩
    rotate_left 2
    · unfold spec_l15Farm.f
      exact bnd _ (c0 k hk) (bnd _ (c1 k hk) (bnd _ (c2 k hk) (bnd _ (c3 k hk) (bnd _ (c4 k hk) (bnd _ rfl (bnd _ (c5 k hk) ((if_pos a5).trans ((if_pos b5).trans ((if_neg hz).trans rfl)))))))))
    · omega
    · omega
theorem one2_at {xs : List Int} (h : Bytes xs) (p x y : Int) (hp0 : 0 ≤ p) (hp1 : p ≤ 100000) : ∃ v, ∀ k, 2 ≤ k → spec_l1Rd_one.f k xs p [x, y] = some (v, p + 1) := by
  obtain ⟨r0, a0, b0, c0⟩ := pick_at h p 2 (by omega) (by omega) (by decide)
  refine ⟨rd [x, y] r0, fun k hk => ?_⟩
  unfold spec_l1Rd_one.f
  exact bnd _ (c0 k hk) ((if_pos a0).trans ((if_pos b0).trans rfl))
theorem anyFarm_at {xs : List Int} (h : Bytes xs) (p : Int) (hp0 : 0 ≤ p) (hp1 : p ≤ 10000) : ∃ a b c n m q, ∀ k, 2 ≤ k → spec_l15AnyFarm.f k xs p = some (a, b, c, n, m, q) := by
  obtain ⟨a, b, c, n, m, q, q0, q1, hf⟩ := farm_at h p hp0 (by omega)
  obtain ⟨r0, a0, b0, c0⟩ := pick_at h q 20 (by omega) (by omega) (by decide)
  obtain ⟨v1, d1⟩ := one2_at h (q + 1) (-1) 4 (by omega) (by omega)
  obtain ⟨v2, d2⟩ := one2_at h (q + 1) (-1) 256 (by omega) (by omega)
  by_cases h0 : r0 = 0
  · refine ⟨a, b, c, v1, m, q + 1 + 1, fun k hk => ?_⟩
    unfold spec_l15AnyFarm.f
    exact bnd _ (hf k hk) (bnd _ (c0 k hk) ((if_pos h0).trans (bnd _ (d1 k hk) rfl)))
  by_cases h1 : r0 = 1
  · refine ⟨a, b, c, n, v2, q + 1 + 1, fun k hk => ?_⟩
    unfold spec_l15AnyFarm.f
    exact bnd _ (hf k hk) (bnd _ (c0 k hk) ((if_neg h0).trans ((if_pos h1).trans (bnd _ (d2 k hk) rfl))))
  by_cases h2 : r0 = 2
  · refine ⟨a, true, false, n, m, q + 1, fun k hk => ?_⟩
    unfold spec_l15AnyFarm.f
    exact bnd _ (hf k hk) (bnd _ (c0 k hk) ((if_neg h0).trans ((if_neg h1).trans ((if_pos h2).trans rfl))))
  · refine ⟨a, b, c, n, m, q + 1, fun k hk => ?_⟩
    unfold spec_l15AnyFarm.f
    exact bnd _ (hf k hk) (bnd _ (c0 k hk) ((if_neg h0).trans ((if_neg h1).trans ((if_neg h2).trans rfl))))
theorem drawFarmPut (l : List Int) (hl : l.length ≤ 140737488351232) (hw : ∀ x ∈ l, (Lit.int .u8 x).wf = true) : ∃ a b c n m, ∀ k, 2 ≤ k → spec_DrawFarmPut.f k l = some (a, b, c, n, m) := by
  obtain ⟨ho, hB⟩ := open_at l hl hw
  obtain ⟨a, b, c, n, m, q, hf⟩ := anyFarm_at hB 0 (by decide) (by decide)
  refine ⟨a, b, c, n, m, fun k hk => ?_⟩
  unfold spec_DrawFarmPut.f
  exact bnd _ ho (bnd _ (hf k hk) rfl)
theorem turn_at {xs : List Int} (h : Bytes xs) (p : Int) (t : ByteArray) (ht : t.size ≤ 1000000) (hp0 : 0 ≤ p) (hp1 : p ≤ 100000) : ∃ u q, ∀ k, 2 ≤ k → spec_l15Turn.f k xs p t = some (u, q) := by
  by_cases he : t.toList = ([] : List UInt8)
  · refine ⟨t, p, fun k hk => ?_⟩
    unfold spec_l15Turn.f
    exact (if_pos he).trans rfl
  have hs : 0 < t.size := by
    rcases Nat.eq_zero_or_pos t.size with h0 | h0
    · exfalso
      apply he
      have : t = ⟨#[]⟩ := by
        apply ByteArray.ext
        exact Array.eq_empty_of_size_eq_zero h0
      rw [this]
      unfold ByteArray.toList
      unfold ByteArray.toList.loop
      rfl
    · exact h0
  obtain ⟨r0, a0, b0, c0⟩ := pick_at h p 256 (by omega) (by omega) (by decide)
  obtain ⟨r1, a1, b1, c1⟩ := pick_at h (p + 1) 16 (by omega) (by omega) (by decide)
  obtain ⟨r2, a2, b2, c2⟩ := pick_at h (p + 1 + 1) 127 (by omega) (by omega) (by decide)
  have e : wrap64 (wrap64 (r0 + wrap64 (r1 * 256)) + wrap64 (r2 * 4096)) = r0 + r1 * 256 + r2 * 4096 := by
    rw [w64 (x := r1 * 256) (by omega) (by omega), w64 (x := r2 * 4096) (by omega) (by omega), w64 (x := r0 + r1 * 256) (by omega) (by omega), w64 (by omega) (by omega)]
  have hq : spec_l14Spoil.f t (r0 + r1 * 256 + r2 * 4096) = some (HSpoil.turned t ((r0 + r1 * 256 + r2 * 4096) % 4096 % t.size).toNat (1 + (r0 + r1 * 256 + r2 * 4096) / 4096 % 127), true) := if_pos ⟨hs, ht, by omega, by omega⟩
  refine ⟨HSpoil.turned t ((r0 + r1 * 256 + r2 * 4096) % 4096 % t.size).toNat (1 + (r0 + r1 * 256 + r2 * 4096) / 4096 % 127), p + 1 + 1 + 1, fun k hk => ?_⟩
  unfold spec_l15Turn.f
  exact (if_neg he).trans (bnd _ (c0 k hk) (bnd _ (c1 k hk) (bnd _ (c2 k hk) (bnd _ ((congrArg (spec_l14Spoil.f t) e).trans hq) rfl))))
theorem farmPut_size (a b c : Bool) (n m : Int) : (farmPut a b c n m).size ≤ 4 := by
  unfold farmPut
  split
  · rw [ByteArray.size_append, ByteArray.size_append, be1_size, be1_size]
    exact Nat.le_refl 4
  · exact Nat.zero_le 4
theorem drawFarmGet (l : List Int) (hl : l.length ≤ 140737488351232) (hw : ∀ x ∈ l, (Lit.int .u8 x).wf = true) : ∃ t, ∀ k, 12 ≤ k → spec_DrawFarmGet.f k l = some t := by
  obtain ⟨ho, hB⟩ := open_at l hl hw
  obtain ⟨a, b, c, n, m, q, q0, q1, hf⟩ := farm_at hB 0 (by decide) (by decide)
  obtain ⟨r0, a0, b0, c0⟩ := pick_at hB q 3 (by omega) (by omega) (by decide)
  have hz := farmPut_size a b c n m
  by_cases h0 : r0 = 0
  · obtain ⟨u, q', ht⟩ := turn_at hB (q + 1) (farmPut a b c n m) (by omega) (by omega) (by omega)
    refine ⟨u, fun k hk => ?_⟩
    unfold spec_DrawFarmGet.f
    exact bnd _ ho (bnd _ (hf k (by omega)) (bnd _ (specFarmPut_at k (by omega) a b c n m) (bnd _ (c0 k (by omega)) ((if_pos h0).trans (bnd _ (ht k (by omega)) rfl)))))
  · obtain ⟨t, q', ht, _, _, hk'⟩ := text_at hB (q + 1) 1 (by omega) (by omega) (by decide)
    refine ⟨farmPut a b c n m ++ t.extract 0 0, fun k hk => ?_⟩
    unfold spec_DrawFarmGet.f
    refine bnd _ ho (bnd _ (hf k (by omega)) (bnd _ (specFarmPut_at k (by omega) a b c n m) (bnd _ (c0 k (by omega)) ((if_neg h0).trans (bnd _ (hk' k (by omega)) ?_)))))
    have hz2 : (t.extract 0 0).size ≤ 0 := by
      rw [ByteArray.size_extract]
      omega
    show (if (0 : Int) ≤ 0 then (if (0 : Int) ≤ (t.size : Int) then (if (farmPut a b c n m).size + (t.extract 0 0).size ≤ 9223372036854775807 then some (farmPut a b c n m ++ t.extract 0 0) else none) else none) else none) = some (farmPut a b c n m ++ t.extract 0 0)
    rw [if_pos (Int.le_refl 0), if_pos (Int.natCast_nonneg _), if_pos (by omega)]
theorem tail_at (l : List Int) (hl : l.length ≤ 140737488351232) (hw : ∀ x ∈ l, (Lit.int .u8 x).wf = true) (k : Nat) (hk : 40 ≤ k) : laws_FnFarmText.j1 k l false = some true := by
  obtain ⟨k, rfl⟩ : ∃ m, k = m + 1 := ⟨k - 1, by omega⟩
  obtain ⟨t, hd⟩ := drawFarmGet l hl hw
  obtain ⟨h1, h2⟩ := farmGet_is k (by omega) t
  have h3 := farmGet_put t
  simp only [laws_FnFarmText.j1, Bool.false_eq_true, if_false, hd k (by omega), Option.bind_some, h1, h2, beq_self_eq_true, Bool.and_self, if_true, implFarmPut_at k (by omega)]
  generalize farmGet t = r at h3 ⊢
  by_cases hr : r.2.2.2.2.2 = true
  · rw [if_pos hr, h3 hr, beq_self_eq_true]
  · rw [if_neg hr]
end FnFarmTextL
open FnFarmTextL

theorem FnFarmText : laws_FnFarmText.Pure := by
  intro l0 l1 hl0 hm0 hw0 hl1 hm1 hw1
  refine ⟨100, ?_⟩
  unfold laws_FnFarmText.f
  have j0t : ∀ b, laws_FnFarmText.j0 100 l0 l1 b = some true := by
    intro b
    show laws_FnFarmText.j0 (99 + 1) l0 l1 b = some true
    obtain ⟨x, y, z, n, m, hd⟩ := drawFarmPut l0 (by omega) hw0
    have ht := tail_at l1 (by omega) hw1 99 (by decide)
    cases b with
    | true => simp only [laws_FnFarmText.j0, if_true]
    | false =>
      have hg := (farmGet_is 99 (by decide) (farmPut x y z n m)).2
      rw [farmPut_get] at hg
      simp only [laws_FnFarmText.j0, Bool.false_eq_true, if_false, hd 99 (by decide), Option.bind_some, implFarmPut_at 99 (by decide), specFarmPut_at 99 (by decide), specFarmOk_at, if_true, hg]
      cases hok : farmOk y z n m <;> simp [ht]
  by_cases h1 : (l0.length : Int) > 1048576
  · rw [if_pos h1, j0t]
  · rw [if_neg h1, j0t]

end Go.Proofs.Ytclhopldchndiaa.Pure
