/- The program's writer of bytes, and PacketPut, RepPut, CmdPut over it: what each call hands back; what there was is left alone. Conditions: ints, texts that a machine holds. -/
import Derived.Test.YtgioeghaopoabaaPHPackx1
import Derived.Test.YtgioeghaopoabaaAux
import Derived.Deep.RegionLaw
namespace Go.Proofs.Ytgioeghaopoabaa.HPack
open Go Go.RowKit Go.Proofs.YtgioeghaopoabaaW.PrintWords Go.Proofs.YtgioeghaopoabaaW.PrintLast Go.Proofs.YtgioeghaopoabaaW.PrintMore Go.Proofs.Ytgioeghaopoabaa.PHPack Go.Proofs.Ytgioeghaopoabaa.Aux
set_option linter.unusedVariables false
set_option linter.unusedSimpArgs false
theorem within_at (a c : Int) : impl_within.f a c = some (decide (0 ≤ a ∧ a ≤ c)) := by
  unfold impl_within.f
  by_cases h : 0 ≤ a
  · rw [if_pos h]
    simp [h]
  · rw [if_neg h]
    simp [h]
theorem implPut_l0 (d : Nat) : ∀ (k : Nat) (n : Int) (xs : List Int), d < k → 0 ≤ n → n ≤ 9223372036854775807 → d ≤ xs.length → xs.length ≤ 4 →
    impl_NumPut.l0 k n xs ((d : Int) - 1) = some (strOfNums (be d n ++ xs.drop d)) := by
  induction d with
  | zero =>
    intro k n xs hk h0 h1 hd hx
    obtain ⟨k, rfl⟩ : ∃ m, k = m + 1 := ⟨k - 1, by omega⟩
    simp only [impl_NumPut.l0]
    rw [if_neg (by omega)]
    simp [be]
  | succ d ih =>
    intro k n xs hk h0 h1 hd hx
    obtain ⟨k, rfl⟩ : ∃ m, k = m + 1 := ⟨k - 1, by omega⟩
    simp only [impl_NumPut.l0]
    have e1 : ((d + 1 : Nat) : Int) - 1 = d := by omega
    rw [e1, if_pos (by omega), if_pos (by omega), if_pos (by omega), and255 h0 (by omega), w64 (x := (d : Int) - 1) (by omega) (by omega)]
    have e2 : ((d : Int)).toNat = d := by omega
    rw [e2, ih _ _ _ (by omega) (by omega) (by omega) (by rw [List.length_set]; omega) (by rw [List.length_set]; omega)]
    have hl : d < (xs.set d (n % 256 % 256)).length := by rw [List.length_set]; omega
    rw [List.drop_eq_getElem_cons hl, List.getElem_set_self, List.drop_set_of_lt (by omega)]
    have e3 : n % 256 % 256 = n % 256 := by omega
    rw [e3, be, List.append_assoc]
    rfl
theorem implPut_at (k : Nat) (hk : 7 ≤ k) (n size : Int) (h1 : n ≤ 9223372036854775807) : impl_NumPut.f k n size = some (numPut n size) := by
  obtain ⟨k, rfl⟩ : ∃ m, k = m + 1 := ⟨k - 1, by omega⟩
  have j0t : ∀ a0 a1, impl_NumPut.j0 (k + 1) a0 a1 true = some (⟨#[]⟩ : ByteArray) := fun a0 a1 => by simp only [impl_NumPut.j0, if_true]
  unfold impl_NumPut.f numPut
  by_cases ha : size < 1
  · rw [if_pos ha, j0t, if_neg (by omega)]
  rw [if_neg ha]
  by_cases hb : size > 4
  · rw [if_pos hb, j0t, if_neg (by omega)]
  rw [if_neg hb]
  by_cases hc : n < 0
  · rw [if_pos hc, j0t, if_neg (by omega)]
  rw [if_neg hc, if_pos (by rw [w64 (by omega) (by omega)]; omega)]
  have hs : shr .i64 n (wrap64 (8 * size)) = n / 256 ^ size.toNat := by
    have h : size = 1 ∨ size = 2 ∨ size = 3 ∨ size = 4 := by omega
    unfold shr
    rcases h with rfl | rfl | rfl | rfl <;> exact congrArg (fun m => n / m) (by decide +kernel)
  have hp : (0 : Int) < 256 ^ size.toNat := Int.pow_pos (by decide)
  rw [hs]
  by_cases h : n < 256 ^ size.toNat
  · rw [if_pos ⟨by omega, by omega, by omega, h⟩, Int.ediv_eq_zero_of_lt (by omega) h]
    simp only [impl_NumPut.j0, bne_self_eq_false, Bool.false_eq_true, if_false]
    rw [if_pos (by omega), if_pos (by omega), w64 (by omega) (by omega)]
    have e : size - 1 = ((size.toNat : Nat) : Int) - 1 := by omega
    rw [e, implPut_l0 size.toNat k n _ (by omega) (by omega) h1 (by rw [List.length_replicate]; omega) (by rw [List.length_replicate]; omega)]
    rw [List.drop_eq_nil_of_le (by rw [List.length_replicate]; omega), List.append_nil]
  · have h2 : 1 ≤ n / 256 ^ size.toNat := Int.le_ediv_of_mul_le hp (by omega)
    have h3 : (n / 256 ^ size.toNat != 0) = true := by simp; omega
    rw [h3, j0t, if_neg (by omega)]
theorem numPut_size (n size : Int) : (numPut n size).size ≤ 4 := by
  unfold numPut
  split
  · rw [strOfNums_size, be_length]
    omega
  · exact Nat.zero_le 4
/-- A writer of the call's own: its cell, and the row that its slice leads to. -/
def Holds (W : World) (B g : Nat) (xs : List Int) : Prop := B ≤ g ∧ ∃ v, W.heap[g]? = some (.cells #[v] 65 (0, 0)) ∧ W.ownsRow B 5 1 v xs.length (nums .u8 xs)
theorem grown_cell {w w1 : World} {B g : Nat} {v v1 : Value} {xs ys : List Int} (hv : w.heap[g]? = some (.cells #[v] 65 (0, 0))) (ho : w.ownsRow B 5 1 v xs.length (nums .u8 xs)) (ho1 : w1.ownsRow B 5 1 v1 ys.length (nums .u8 ys)) (hg1 : w.grownBy w1 v.ownBlock) :
    w1.heap[g]? = some (.cells #[v] 65 (0, 0)) ∧ some g ≠ v1.ownBlock := by
  have h1 := blk_grown hv hg1 (own_ne ho hv (by decide))
  exact ⟨h1, own_ne ho1 h1 (by decide)⟩
set_option maxHeartbeats 400000 in
theorem text_any (B g : Nat) (xs : List Int) (s : ByteArray) (w : World) (h : Holds w B g xs) (hB : B ≤ w.heap.size) (hl : xs.length + s.size ≤ 1000000) :
    Calls Try.prog 38 #[.pointer (some ⟨g, 0, none⟩), .string s] w fun e w' => e = .returned (.tuple #[]) ∧ Holds w' B g (xs ++ bytesOf s) ∧ Below B w w' := by
  obtain ⟨hg, v, hv, ho⟩ := h
  have hc : w.cell? ⟨g, 0, none⟩ = some v := by rw [blk_cell hv]; rfl
  have hf : w.frozen? ⟨g, 0, none⟩ = false := blk_frozen hv 0
  have HV := Aside0.mk hv
  clear hv
  go_enter Try.func38, Try.ntmps38
  go_wp2_with (at_builtin; refine print_append_str (w0 := w) B rfl (.tmp 7) (.tmp 8) 65 9 5 rfl Try.underlying65 Try.underlying9 info5 v xs s rfl rfl ho (Below.refl _ _) hB (by omega) ?_; intro v1 w1 ho1 hb1 hg1; obtain ⟨hv1, hne1⟩ := grown_cell HV.out ho ho1 hg1; obtain ⟨A1, c1, rfl⟩ := own_slice ho1; have hc1 : w1.cell? ⟨g, 0, none⟩ = some v := (by rw [blk_cell hv1]; rfl); have hf1 : w1.frozen? ⟨g, 0, none⟩ = false := blk_frozen hv1 0; have HV1 := Aside0.mk hv1; have HN1 := Aside0.mk hne1; clear hv1 hne1)
  go_end0
  have ho2 := own_setCell (p := ⟨g, 0, none⟩) ho1 HN1.out (.slice A1 (xs.length + (bytesOf s).length) c1)
  rw [List.length_append] at ho2
  refine ⟨rfl, ⟨hg, _, blk_set HV1.out 0 _, ?_⟩, hb1.setCell hg _⟩
  rw [List.length_append]
  exact ho2
theorem step_append_str {P : Program} {ops : Array Oper} {o : Oper} {a : Act} {Q : Exit → Act → World → Prop} {K : Act → World → Prop} {E : Prop} {w0 W : World} (base : Nat) (hgd : o.guard = none) (s x : Operand) (t u e : TypeId)
    (ho : o.op = .call { callee := .builtin .append, args := #[s, x], argTypes := #[t, u] })
    (ht : P.underlying t = some (.slice e)) (hu : P.underlying u = some .string) (hinfo : (P.info? e).map (fun i => (i.zero, i.size, i.bytes)) = some (some (.int .u8 0), 1, 1))
    (v : Value) (xs : List Int) (y : ByteArray) (hs : a.eval s = v) (hx : a.eval x = .string y)
    (HO : W.ownsRow base e 1 v xs.length (nums .u8 xs)) (HB : Below base w0 W) (hbase : base ≤ W.heap.size) (hl : xs.length + y.size ≤ 140737488355328)
    (h : ∀ v1 w1, w1.ownsRow base e 1 v1 (xs ++ bytesOf y).length (nums .u8 (xs ++ bytesOf y)) → Below base w0 w1 → W.grownBy w1 v.ownBlock → K (a.put o.dst v1) w1) :
    if Region.wanted o (yielded ops a.tmps) = true then Oper.wp P o a W K Q else E := by
  have hw : Region.wanted o (yielded ops a.tmps) = true := by simp [Region.wanted, hgd]
  rw [if_pos hw]
  obtain ⟨i0, hi, hzz⟩ := Option.map_eq_some_iff.1 hinfo
  simp only [Prod.mk.injEq] at hzz
  obtain ⟨hz0, hz1, hz2⟩ := hzz
  obtain ⟨v1, w1, hr, hown, hg, _⟩ := Lib.run_append_own_string (P := P) W base t u o.type e i0 ht hu hi hz0 hz1 hz2 v xs.length (nums .u8 xs) HO y (by simp only [maxLen]; omega) hl hbase
  unfold Oper.wp execOp
  simp only [ho, resolve, invoke, builtin, Sem.run_bind, Sem.run_pure, Result.andThen_ok, List.map_toArray, List.map_cons, List.map_nil, hs, hx, hr]
  have hl2 : (xs ++ bytesOf y).length = xs.length + y.size := by rw [List.length_append, bytesOf_length]
  have hc : nums .u8 (xs ++ bytesOf y) = nums .u8 xs ++ Lib.strCells y := by
    rw [nums_append]
    congr 1
    simp [nums, bytesOf, Lib.strCells]
  exact h v1 w1 (by rw [hl2, hc]; exact hown) (HB.grown hg hbase (own_base HO)) hg
set_option maxHeartbeats 1000000 in
theorem number_any (B g : Nat) (xs : List Int) (n size : Int) (k : Nat) (s : ByteArray) (w : World) (hn : impl_NumPut.f k n size = some s) (hs : s.size ≤ 4) (h : Holds w B g xs) (hB : B ≤ w.heap.size) (hl : xs.length ≤ 1000000) :
    Calls Try.prog 37 #[.pointer (some ⟨g, 0, none⟩), .int .i64 n, .int .i64 size] w fun e w' => e = .returned (.tuple #[]) ∧ Holds w' B g (xs ++ bytesOf s) ∧ Below B w w' := by
  obtain ⟨hg, v, hv, ho⟩ := h
  have hc : w.cell? ⟨g, 0, none⟩ = some v := by rw [blk_cell hv]; rfl
  have hf : w.frozen? ⟨g, 0, none⟩ = false := blk_frozen hv 0
  have HV := Aside0.mk hv
  have HN := Aside0.mk hn
  clear hv hn
  go_enter Try.func37, Try.ntmps37
  go_wp2
  have HO := Aside0.mk ho
  clear ho
  have hgl : g < w.heap.size := blk_lt HV.out
  go_region_law (first | (refine step_append_str (w0 := w) B rfl (.tmp 9) (.tmp 12) 65 9 5 rfl Try.underlying65 Try.underlying9 info5 v xs s rfl rfl ho1.out (hz1.out.mono hB) (Nat.le_trans hB hz1.out.size) (by omega) ?_; intro v2 w2 ho2 hb2 hg2; obtain ⟨hv2, hne2⟩ := grown_cell hv1.out ho1.out ho2 hg2; obtain ⟨A2, c2, rfl⟩ := own_slice ho2; have hc2 : w2.cell? ⟨g, 0, none⟩ = some v := (by rw [blk_cell hv2]; rfl); have hf2 : w2.frozen? ⟨g, 0, none⟩ = false := blk_frozen hv2 0; have HV2 := Aside0.mk hv2; have HN2 := Aside0.mk hne2; have HB2 := Aside0.mk hb2; clear hv2 hne2 hb2) | (go_simp; go_at_call 18; refine (impl_NumPut.calls k n size s _ HN.out).mono ?_; rintro e w1 ⟨rfl, hb1⟩; have hv1 : Aside0 (w1.heap[g]? = some (.cells #[v] 65 (0, 0))) := ⟨(hb1.block g hgl).trans HV.out⟩; have ho1 : Aside0 (w1.ownsRow B 5 1 v xs.length (nums .u8 xs)) := ⟨pw_own_below (w := w.drew) HO.out hb1⟩; have hc1 : w1.cell? ⟨g, 0, none⟩ = some v := (by rw [blk_cell hv1.out]; rfl); have hf1 : w1.frozen? ⟨g, 0, none⟩ = false := blk_frozen hv1.out 0; have hz1 : Aside0 (Below w.heap.size w w1) := ⟨(Below.refl _ w).drew.trans hb1⟩; clear hb1))
  all_goals go_end0
  all_goals (have ho3 := own_setCell (p := ⟨g, 0, none⟩) ho2 HN2.out (.slice A2 (xs.length + (bytesOf s).length) c2); rw [List.length_append] at ho3; refine ⟨rfl, ⟨hg, _, blk_set HV2.out 0 _, ?_⟩, HB2.out.setCell hg _⟩; rw [List.length_append]; exact ho3)
theorem num_any (B g : Nat) (xs : List Int) (n size : Int) (w : World) (hn : n ≤ 9223372036854775807) (h : Holds w B g xs) (hB : B ≤ w.heap.size) (hl : xs.length ≤ 1000000) :
    Calls Try.prog 37 #[.pointer (some ⟨g, 0, none⟩), .int .i64 n, .int .i64 size] w fun e w' => e = .returned (.tuple #[]) ∧ Holds w' B g (xs ++ bytesOf (numPut n size)) ∧ Below B w w' :=
  number_any B g xs n size 7 (numPut n size) w (implPut_at 7 (Nat.le_refl _) n size hn) (numPut_size n size) h hB hl
/-- A writer that was just made. -/
theorem fresh (W : World) : Holds (W.alloc (.cells #[.slice none 0 0] 65)) W.heap.size W.heap.size [] :=
  ⟨Nat.le_refl _, _, heap_alloc_new _ _, own_nil _ _ _ _⟩
/-- What a writer holds, as a text. -/
theorem holds_string {W : World} {B g : Nat} {xs : List Int} (h : Holds W B g xs) : ∃ A c, W.cell? ⟨g, 0, none⟩ = some (.slice A xs.length c) ∧ ∀ W', W'.heap = W.heap → (convert 65 9 (.slice A xs.length c)).run Try.prog W' = .ok (.string (strOfNums xs)) W' := by
  obtain ⟨_, v, hv, ho⟩ := h
  obtain ⟨A, c, rfl, hr⟩ := own_reads ho
  refine ⟨A, c, by rw [blk_cell hv]; rfl, fun W' hW => ?_⟩
  have hr' : ReadsInt W' .u8 A xs.length xs := ⟨hr.1, hr.2.1, fun hn => by
    obtain ⟨ad, e, hc⟩ := hr.2.2 hn
    refine ⟨ad, e, fun j hj => ?_⟩
    have h2 := hc j hj
    unfold World.cell? at h2 ⊢
    rw [hW]
    exact h2⟩
  exact string_of_reads Try.underlying65 Try.underlying5 Try.underlying9 hr'
/-- packetOk's answer. -/
def pOk (apid count : Int) (s : ByteArray) : Bool := decide (0 ≤ apid ∧ apid ≤ 2047) && (decide (0 ≤ count ∧ count ≤ 16383) && decide (1 ≤ (s.size : Int) ∧ (s.size : Int) ≤ 100))
theorem packetOk_at (up : Bool) (apid count : Int) (s : ByteArray) : impl_packetOk.f up apid count s = some (pOk apid count s) := by
  simp only [impl_packetOk.f, within_at, Option.bind_some, pOk]
  by_cases h1 : 0 ≤ apid ∧ apid ≤ 2047 <;> by_cases h2 : 0 ≤ count ∧ count ≤ 16383 <;> by_cases h3 : 1 ≤ (s.size : Int) <;> simp [h1, h2, h3]
/-- PacketPut's answer. -/
def packetPut (up : Bool) (apid count : Int) (s : ByteArray) : ByteArray :=
  if pOk apid count s = true then strOfNums ((([] ++ bytesOf (numPut (2048 + apid + (if up = true then 4096 else 0)) 2)) ++ bytesOf (numPut (49152 + count) 2)) ++ bytesOf (numPut ((s.size : Int) - 1) 2) ++ bytesOf s) else ⟨#[]⟩
theorem box_below {W W1 : World} {b : Nat} (h : Below W.heap.size W W1) {v : Value} {j : Nat} (hc : W.cell? ⟨b, j, none⟩ = some v) : W1.cell? ⟨b, j, none⟩ = some v := pw_cell_below h hc
theorem pOk_of {apid count : Int} {s : ByteArray} (h : pOk apid count s = true) : 0 ≤ apid ∧ apid ≤ 2047 ∧ 0 ≤ count ∧ count ≤ 16383 ∧ 1 ≤ s.size ∧ s.size ≤ 100 := by
  simp only [pOk, Bool.and_eq_true, decide_eq_true_eq] at h
  omega
theorem len_put (xs : List Int) (n size : Int) : (xs ++ bytesOf (numPut n size)).length ≤ xs.length + 4 := by
  rw [List.length_append, bytesOf_length]
  have := numPut_size n size
  omega
set_option maxHeartbeats 2000000 in
theorem packet_false (apid count : Int) (s : ByteArray) (w : World) (hok : pOk apid count s = true) :
    Calls Try.prog 17 #[.agg #[.bool false, .int .i64 apid, .int .i64 count, .string s]] w fun e w' => e = .returned (.string (packetPut false apid count s)) ∧ Below w.heap.size w w' := by
  have hu := Try.underlying32
  have hp : packetPut false apid count s = strOfNums ((([] ++ bytesOf (numPut (2048 + apid) 2)) ++ bytesOf (numPut (49152 + count) 2)) ++ bytesOf (numPut ((s.size : Int) - 1) 2) ++ bytesOf s) := by
    rw [packetPut, hok]
    simp
  have HP := Aside0.mk hp
  obtain ⟨a0, a1, c0, c1, s0, s1⟩ := pOk_of hok
  have HOK := Aside0.mk ((packetOk_at false apid count s).trans (congrArg some hok))
  clear hok hp
  go_enter Try.func17, Try.ntmps17
  go_wp2_with fail
  refine (impl_packetOk.calls false apid count s true _ HOK.out).mono ?_
  rintro e w1 ⟨rfl, hb1⟩
  have hlt : w.heap.size < w1.heap.size := by have := hb1.size; simp at this; omega
  have b0 : w1.cell? ⟨w.heap.size, 0, none⟩ = some (.bool false) := box_below hb1 (by rw [blk_cell (heap_alloc_new _ _)]; rfl)
  have b1 : w1.cell? ⟨w.heap.size, 1, none⟩ = some (.int .i64 apid) := box_below hb1 (by rw [blk_cell (heap_alloc_new _ _)]; rfl)
  have b2 : w1.cell? ⟨w.heap.size, 2, none⟩ = some (.int .i64 count) := box_below hb1 (by rw [blk_cell (heap_alloc_new _ _)]; rfl)
  have b3 : w1.cell? ⟨w.heap.size, 3, none⟩ = some (.string s) := box_below hb1 (by rw [blk_cell (heap_alloc_new _ _)]; rfl)
  go_wp2_with fail
  refine (num_any w1.heap.size w1.heap.size [] _ _ _ (by omega) (fresh w1) (by simp) (by simp)).mono ?_
  rintro e w2 ⟨rfl, h2, hb2⟩
  have hB2 : Below w1.heap.size w1 w2 := ((Below.refl _ w1).alloc (Nat.le_refl _) _).trans hb2
  have l2 := len_put [] (2048 + apid) 2
  have e2 := box_below hB2 b2
  have e3 := box_below hB2 b3
  clear hb2 b0 b1
  go_wp2_with fail
  refine (num_any w1.heap.size w1.heap.size _ _ _ _ (by omega) h2 hB2.size (by simp only [List.length_nil] at l2; omega)).mono ?_
  rintro e w3 ⟨rfl, h3, hb3⟩
  have hB3 : Below w1.heap.size w1 w3 := hB2.trans hb3
  have l3 := len_put ([] ++ bytesOf (numPut (2048 + apid) 2)) (49152 + count) 2
  have f3 := box_below hB3 b3
  clear hb3 e2 e3 h2
  go_wp2_with fail
  refine (num_any w1.heap.size w1.heap.size _ _ _ _ (by omega) h3 hB3.size (by simp only [List.length_nil] at l2; omega)).mono ?_
  rintro e w4 ⟨rfl, h4, hb4⟩
  have hB4 : Below w1.heap.size w1 w4 := hB3.trans hb4
  have l4 := len_put (([] ++ bytesOf (numPut (2048 + apid) 2)) ++ bytesOf (numPut (49152 + count) 2)) ((s.size : Int) - 1) 2
  have g3 := box_below hB4 b3
  clear hb4 f3 h3
  go_wp2_with fail
  refine (text_any w1.heap.size w1.heap.size _ _ _ h4 hB4.size (by simp only [List.length_nil] at l2; omega)).mono ?_
  rintro e w5 ⟨rfl, h5, hb5⟩
  have hB5 : Below w1.heap.size w1 w5 := hB4.trans hb5
  obtain ⟨X, hX⟩ : ∃ X, X = ((([] ++ bytesOf (numPut (2048 + apid) 2)) ++ bytesOf (numPut (49152 + count) 2)) ++ bytesOf (numPut ((s.size : Int) - 1) 2) ++ bytesOf s) := ⟨_, rfl⟩
  rw [← hX] at h5
  have HX := Aside0.mk hX
  clear hX
  obtain ⟨A, c, hc, hconv⟩ := holds_string h5
  have hk := hconv w5 rfl
  clear hb5 g3 h4 h5 hconv b2 b3 l2 l3 l4
  go_wp2
  go_ret
  exact ⟨by rw [HP.out, ← HX.out]; rfl, below_step (below_step (below_alloc (Below.refl _ _) _) hb1) hB5⟩
set_option maxHeartbeats 2000000 in
theorem packet_true (apid count : Int) (s : ByteArray) (w : World) (hok : pOk apid count s = true) :
    Calls Try.prog 17 #[.agg #[.bool true, .int .i64 apid, .int .i64 count, .string s]] w fun e w' => e = .returned (.string (packetPut true apid count s)) ∧ Below w.heap.size w w' := by
  have hu := Try.underlying32
  have hp : packetPut true apid count s = strOfNums ((([] ++ bytesOf (numPut (2048 + apid + 4096) 2)) ++ bytesOf (numPut (49152 + count) 2)) ++ bytesOf (numPut ((s.size : Int) - 1) 2) ++ bytesOf s) := by
    rw [packetPut, hok]
    simp
  have HP := Aside0.mk hp
  obtain ⟨a0, a1, c0, c1, s0, s1⟩ := pOk_of hok
  have HOK := Aside0.mk ((packetOk_at true apid count s).trans (congrArg some hok))
  clear hok hp
  go_enter Try.func17, Try.ntmps17
  go_wp2_with fail
  refine (impl_packetOk.calls true apid count s true _ HOK.out).mono ?_
  rintro e w1 ⟨rfl, hb1⟩
  have hlt : w.heap.size < w1.heap.size := by have := hb1.size; simp at this; omega
  have b0 : w1.cell? ⟨w.heap.size, 0, none⟩ = some (.bool true) := box_below hb1 (by rw [blk_cell (heap_alloc_new _ _)]; rfl)
  have b1 : w1.cell? ⟨w.heap.size, 1, none⟩ = some (.int .i64 apid) := box_below hb1 (by rw [blk_cell (heap_alloc_new _ _)]; rfl)
  have b2 : w1.cell? ⟨w.heap.size, 2, none⟩ = some (.int .i64 count) := box_below hb1 (by rw [blk_cell (heap_alloc_new _ _)]; rfl)
  have b3 : w1.cell? ⟨w.heap.size, 3, none⟩ = some (.string s) := box_below hb1 (by rw [blk_cell (heap_alloc_new _ _)]; rfl)
  go_wp2_with fail
  refine (num_any w1.heap.size w1.heap.size [] _ _ _ (by omega) (fresh w1) (by simp) (by simp)).mono ?_
  rintro e w2 ⟨rfl, h2, hb2⟩
  have hB2 : Below w1.heap.size w1 w2 := ((Below.refl _ w1).alloc (Nat.le_refl _) _).trans hb2
  have l2 := len_put [] (2048 + apid + 4096) 2
  have e2 := box_below hB2 b2
  have e3 := box_below hB2 b3
  clear hb2 b0 b1
  go_wp2_with fail
  refine (num_any w1.heap.size w1.heap.size _ _ _ _ (by omega) h2 hB2.size (by simp only [List.length_nil] at l2; omega)).mono ?_
  rintro e w3 ⟨rfl, h3, hb3⟩
  have hB3 : Below w1.heap.size w1 w3 := hB2.trans hb3
  have l3 := len_put ([] ++ bytesOf (numPut (2048 + apid + 4096) 2)) (49152 + count) 2
  have f3 := box_below hB3 b3
  clear hb3 e2 e3 h2
  go_wp2_with fail
  refine (num_any w1.heap.size w1.heap.size _ _ _ _ (by omega) h3 hB3.size (by simp only [List.length_nil] at l2; omega)).mono ?_
  rintro e w4 ⟨rfl, h4, hb4⟩
  have hB4 : Below w1.heap.size w1 w4 := hB3.trans hb4
  have l4 := len_put (([] ++ bytesOf (numPut (2048 + apid + 4096) 2)) ++ bytesOf (numPut (49152 + count) 2)) ((s.size : Int) - 1) 2
  have g3 := box_below hB4 b3
  clear hb4 f3 h3
  go_wp2_with fail
  refine (text_any w1.heap.size w1.heap.size _ _ _ h4 hB4.size (by simp only [List.length_nil] at l2; omega)).mono ?_
  rintro e w5 ⟨rfl, h5, hb5⟩
  have hB5 : Below w1.heap.size w1 w5 := hB4.trans hb5
  obtain ⟨X, hX⟩ : ∃ X, X = ((([] ++ bytesOf (numPut (2048 + apid + 4096) 2)) ++ bytesOf (numPut (49152 + count) 2)) ++ bytesOf (numPut ((s.size : Int) - 1) 2) ++ bytesOf s) := ⟨_, rfl⟩
  rw [← hX] at h5
  have HX := Aside0.mk hX
  clear hX
  obtain ⟨A, c, hc, hconv⟩ := holds_string h5
  have hk := hconv w5 rfl
  clear hb5 g3 h4 h5 hconv b2 b3 l2 l3 l4
  go_wp2
  go_ret
  exact ⟨by rw [HP.out, ← HX.out]; rfl, below_step (below_step (below_alloc (Below.refl _ _) _) hb1) hB5⟩
set_option maxHeartbeats 1000000 in
theorem packet_any (up : Bool) (apid count : Int) (s : ByteArray) (w : World) :
    Calls Try.prog 17 #[.agg #[.bool up, .int .i64 apid, .int .i64 count, .string s]] w fun e w' => e = .returned (.string (packetPut up apid count s)) ∧ Below w.heap.size w w' := by
  cases hok : pOk apid count s with
  | false =>
    have hu := Try.underlying32
    have hp : packetPut up apid count s = ⟨#[]⟩ := by rw [packetPut, hok]; rfl
    have HP := Aside0.mk hp
    have HOK := Aside0.mk ((packetOk_at up apid count s).trans (congrArg some hok))
    clear hok hp
    go_enter Try.func17, Try.ntmps17
    go_wp2_with (go_at_call 36; refine (impl_packetOk.calls up apid count s false _ HOK.out).mono ?_; rintro e w1 ⟨rfl, hb1⟩)
    go_ret
    exact ⟨by rw [HP.out]; rfl, below_step (below_alloc (Below.refl _ _) _) hb1⟩
  | true =>
    cases up with
    | false => exact packet_false apid count s w hok
    | true => exact packet_true apid count s w hok
end Go.Proofs.Ytgioeghaopoabaa.HPack
