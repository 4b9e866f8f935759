/- RepPut and CmdPut over the writer of bytes: what each call hands back; what there was is left alone. Conditions: ints, texts that a machine holds. -/
import Derived.Test.YtgioeghaopoabaaHPack
import Derived.Test.YtgioeghaopoabaaHCrc
namespace Go.Proofs.Ytgioeghaopoabaa.HPack
open Go Go.RowKit Go.Proofs.YtgioeghaopoabaaW.PrintWords Go.Proofs.YtgioeghaopoabaaW.PrintLast Go.Proofs.YtgioeghaopoabaaW.PrintMore Go.Proofs.Ytgioeghaopoabaa.PHPack Go.Proofs.Ytgioeghaopoabaa.Aux
set_option linter.unusedVariables false
set_option linter.unusedSimpArgs false
theorem len_text (xs : List Int) (s : ByteArray) : (xs ++ bytesOf s).length = xs.length + s.size := by
  rw [List.length_append, bytesOf_length]
/-- repOk's answer. -/
def rOk (apid count service sub time : Int) (s : ByteArray) : Bool := decide (0 ≤ apid ∧ apid ≤ 2046) && (decide (0 ≤ count ∧ count ≤ 16383) && (decide (0 ≤ service ∧ service ≤ 255) && (decide (0 ≤ sub ∧ sub ≤ 255) && (decide (0 ≤ time ∧ time ≤ 99999) && decide ((s.size : Int) ≤ 60)))))
theorem repOk_at (apid count service sub time : Int) (s : ByteArray) : impl_repOk.f apid count service sub time s = some (rOk apid count service sub time s) := by
  simp only [impl_repOk.f, within_at, Option.bind_some, rOk]
  generalize decide (0 ≤ apid ∧ apid ≤ 2046) = b1
  generalize decide (0 ≤ count ∧ count ≤ 16383) = b2
  generalize decide (0 ≤ service ∧ service ≤ 255) = b3
  generalize decide (0 ≤ sub ∧ sub ≤ 255) = b4
  generalize decide (0 ≤ time ∧ time ≤ 99999) = b5
  cases b1 <;> cases b2 <;> cases b3 <;> cases b4 <;> cases b5 <;> rfl
theorem rOk_of {apid count service sub time : Int} {s : ByteArray} (h : rOk apid count service sub time s = true) : 0 ≤ apid ∧ apid ≤ 2046 ∧ 0 ≤ count ∧ count ≤ 16383 ∧ 0 ≤ service ∧ service ≤ 255 ∧ 0 ≤ sub ∧ sub ≤ 255 ∧ 0 ≤ time ∧ time ≤ 99999 ∧ s.size ≤ 60 := by
  simp only [rOk, Bool.and_eq_true, decide_eq_true_eq] at h
  omega
/-- cmdOk's answer. -/
def cOk (apid count source service sub : Int) (s : ByteArray) : Bool := decide (0 ≤ apid ∧ apid ≤ 2047) && (decide (0 ≤ count ∧ count ≤ 16383) && (decide (0 ≤ source ∧ source ≤ 255) && (decide (0 ≤ service ∧ service ≤ 255) && (decide (0 ≤ sub ∧ sub ≤ 255) && decide ((s.size : Int) ≤ 60)))))
theorem cmdOk_at (apid count source service sub : Int) (s : ByteArray) : impl_cmdOk.f apid count source service sub s = some (cOk apid count source service sub s) := by
  simp only [impl_cmdOk.f, within_at, Option.bind_some, cOk]
  generalize decide (0 ≤ apid ∧ apid ≤ 2047) = b1
  generalize decide (0 ≤ count ∧ count ≤ 16383) = b2
  generalize decide (0 ≤ source ∧ source ≤ 255) = b3
  generalize decide (0 ≤ service ∧ service ≤ 255) = b4
  generalize decide (0 ≤ sub ∧ sub ≤ 255) = b5
  cases b1 <;> cases b2 <;> cases b3 <;> cases b4 <;> cases b5 <;> rfl
theorem cOk_of {apid count source service sub : Int} {s : ByteArray} (h : cOk apid count source service sub s = true) : 0 ≤ apid ∧ apid ≤ 2047 ∧ 0 ≤ count ∧ count ≤ 16383 ∧ 0 ≤ source ∧ source ≤ 255 ∧ 0 ≤ service ∧ service ≤ 255 ∧ 0 ≤ sub ∧ sub ≤ 255 ∧ s.size ≤ 60 := by
  simp only [cOk, Bool.and_eq_true, decide_eq_true_eq] at h
  omega
/-- The bytes that RepPut puts into a packet. -/
def repBytes (service sub time : Int) (s : ByteArray) : List Int := ((((([] ++ bytesOf ⟨#[32]⟩) ++ bytesOf (numPut service 1)) ++ bytesOf (numPut sub 1)) ++ bytesOf (numPut time 4)) ++ bytesOf s)
/-- RepPut's answer. -/
def repPut (apid count service sub time : Int) (s : ByteArray) : ByteArray := if rOk apid count service sub time s = true then packetPut false apid count (strOfNums (repBytes service sub time s)) else ⟨#[]⟩
/-- The bytes that CmdPut puts into a packet. -/
def cmdBytes (source service sub : Int) (s : ByteArray) : List Int := (((((([] ++ bytesOf ⟨#[47]⟩) ++ bytesOf (numPut service 1)) ++ bytesOf (numPut sub 1)) ++ bytesOf (numPut source 1)) ++ bytesOf s) ++ bytesOf (numPut 0 2))
/-- CmdPut's packet, before its sum. -/
def cmdWhole (apid count source service sub : Int) (s : ByteArray) : ByteArray := packetPut true apid count (strOfNums (cmdBytes source service sub s))
def cmdAhead (apid count source service sub : Int) (s : ByteArray) : ByteArray := (cmdWhole apid count source service sub s).extract 0 ((cmdWhole apid count source service sub s).size - 2)
/-- CmdPut's answer. -/
def cmdPut (apid count source service sub : Int) (s : ByteArray) : ByteArray := if cOk apid count source service sub s = true then cmdAhead apid count source service sub s ++ numPut (HCrc.foldT (cmdAhead apid count source service sub s) (cmdAhead apid count source service sub s).size) 2 else ⟨#[]⟩
set_option maxHeartbeats 1000000 in
theorem repPut_false (apid count service sub time : Int) (s : ByteArray) (w : World) (hok : rOk apid count service sub time s = false) :
    Calls Try.prog 22 #[.agg #[.int .i64 apid, .int .i64 count, .int .i64 service, .int .i64 sub, .int .i64 time, .string s]] w fun e w' => e = .returned (.string (repPut apid count service sub time s)) ∧ Below w.heap.size w w' := by
  have hu := Try.underlying41
  have hp : repPut apid count service sub time s = ⟨#[]⟩ := by rw [repPut, hok]; rfl
  have HP := Aside0.mk hp
  have HOK := Aside0.mk ((repOk_at apid count service sub time s).trans (congrArg some hok))
  clear hok hp
  go_enter Try.func22, Try.ntmps22
  go_wp2_with fail
  refine (impl_repOk.calls apid count service sub time s false _ HOK.out).mono ?_
  rintro e w1 ⟨rfl, hb1⟩
  go_wp2
  go_ret
  exact ⟨by rw [HP.out]; rfl, below_step (below_alloc (Below.refl _ _) _) hb1⟩
set_option maxHeartbeats 2000000 in
theorem repPut_true (apid count service sub time : Int) (s : ByteArray) (w : World) (hok : rOk apid count service sub time s = true) :
    Calls Try.prog 22 #[.agg #[.int .i64 apid, .int .i64 count, .int .i64 service, .int .i64 sub, .int .i64 time, .string s]] w fun e w' => e = .returned (.string (repPut apid count service sub time s)) ∧ Below w.heap.size w w' := by
  have hu := Try.underlying41
  have hu2 := Try.underlying32
  have hB0 := rOk_of hok
  obtain ⟨q0, q1, q2, q3, q4, q5, q6, q7, q8, q9, q10⟩ := hB0
  have HOK := Aside0.mk ((repOk_at apid count service sub time s).trans (congrArg some hok))
  have HK0 := Aside0.mk hok
  clear hok
  go_enter Try.func22, Try.ntmps22
  go_wp2_with fail
  refine (impl_repOk.calls apid count service sub time s true _ HOK.out).mono ?_
  rintro e w1 ⟨rfl, hb1⟩
  have hlt : w.heap.size < w1.heap.size := by have := hb1.size; simp at this; omega
  have b0 : w1.cell? ⟨w.heap.size, 0, none⟩ = some (.int .i64 apid) := box_below hb1 (by rw [blk_cell (heap_alloc_new _ _)]; rfl)
  have b1 : w1.cell? ⟨w.heap.size, 1, none⟩ = some (.int .i64 count) := box_below hb1 (by rw [blk_cell (heap_alloc_new _ _)]; rfl)
  have b2 : w1.cell? ⟨w.heap.size, 2, none⟩ = some (.int .i64 service) := box_below hb1 (by rw [blk_cell (heap_alloc_new _ _)]; rfl)
  have b3 : w1.cell? ⟨w.heap.size, 3, none⟩ = some (.int .i64 sub) := box_below hb1 (by rw [blk_cell (heap_alloc_new _ _)]; rfl)
  have b4 : w1.cell? ⟨w.heap.size, 4, none⟩ = some (.int .i64 time) := box_below hb1 (by rw [blk_cell (heap_alloc_new _ _)]; rfl)
  have b5 : w1.cell? ⟨w.heap.size, 5, none⟩ = some (.string s) := box_below hb1 (by rw [blk_cell (heap_alloc_new _ _)]; rfl)
  go_wp2_with fail
  refine (text_any w1.heap.size w1.heap.size _ _ _ (fresh w1) (by simp) (by show 0 + 1 ≤ _; decide)).mono ?_
  rintro e v0 ⟨rfl, h0, hb⟩
  have hB0 : Below w1.heap.size w1 v0 := ((Below.refl _ w1).alloc (Nat.le_refl _) _).trans hb
  have l0 : ([] ++ bytesOf ⟨#[32]⟩).length ≤ 1 := by rw [len_text]; show 0 + 1 ≤ _; decide
  have b0_0 := box_below hB0 b0
  have b1_0 := box_below hB0 b1
  have b2_0 := box_below hB0 b2
  have b3_0 := box_below hB0 b3
  have b4_0 := box_below hB0 b4
  have b5_0 := box_below hB0 b5
  clear hb
  go_wp2_with fail
  refine (num_any w1.heap.size w1.heap.size _ _ _ _ (by omega) h0 hB0.size (by omega)).mono ?_
  rintro e v1 ⟨rfl, h1, hb⟩
  have hB1 : Below w1.heap.size w1 v1 := hB0.trans hb
  have l1 : (([] ++ bytesOf ⟨#[32]⟩) ++ bytesOf (numPut service 1)).length ≤ 5 := by have := len_put ([] ++ bytesOf ⟨#[32]⟩) service 1; omega
  have b0_1 := box_below hB1 b0
  have b1_1 := box_below hB1 b1
  have b2_1 := box_below hB1 b2
  have b3_1 := box_below hB1 b3
  have b4_1 := box_below hB1 b4
  have b5_1 := box_below hB1 b5
  clear h0 b0_0 b1_0 b2_0 b3_0 b4_0 b5_0
  clear hb
  go_wp2_with fail
  refine (num_any w1.heap.size w1.heap.size _ _ _ _ (by omega) h1 hB1.size (by omega)).mono ?_
  rintro e v2 ⟨rfl, h2, hb⟩
  have hB2 : Below w1.heap.size w1 v2 := hB1.trans hb
  have l2 : ((([] ++ bytesOf ⟨#[32]⟩) ++ bytesOf (numPut service 1)) ++ bytesOf (numPut sub 1)).length ≤ 9 := by have := len_put (([] ++ bytesOf ⟨#[32]⟩) ++ bytesOf (numPut service 1)) sub 1; omega
  have b0_2 := box_below hB2 b0
  have b1_2 := box_below hB2 b1
  have b2_2 := box_below hB2 b2
  have b3_2 := box_below hB2 b3
  have b4_2 := box_below hB2 b4
  have b5_2 := box_below hB2 b5
  clear h1 b0_1 b1_1 b2_1 b3_1 b4_1 b5_1
  clear hb
  go_wp2_with fail
  refine (num_any w1.heap.size w1.heap.size _ _ _ _ (by omega) h2 hB2.size (by omega)).mono ?_
  rintro e v3 ⟨rfl, h3, hb⟩
  have hB3 : Below w1.heap.size w1 v3 := hB2.trans hb
  have l3 : (((([] ++ bytesOf ⟨#[32]⟩) ++ bytesOf (numPut service 1)) ++ bytesOf (numPut sub 1)) ++ bytesOf (numPut time 4)).length ≤ 13 := by have := len_put ((([] ++ bytesOf ⟨#[32]⟩) ++ bytesOf (numPut service 1)) ++ bytesOf (numPut sub 1)) time 4; omega
  have b0_3 := box_below hB3 b0
  have b1_3 := box_below hB3 b1
  have b2_3 := box_below hB3 b2
  have b3_3 := box_below hB3 b3
  have b4_3 := box_below hB3 b4
  have b5_3 := box_below hB3 b5
  clear h2 b0_2 b1_2 b2_2 b3_2 b4_2 b5_2
  clear hb
  go_wp2_with fail
  refine (text_any w1.heap.size w1.heap.size _ _ _ h3 hB3.size (by omega)).mono ?_
  rintro e v4 ⟨rfl, h4, hb⟩
  have hB4 : Below w1.heap.size w1 v4 := hB3.trans hb
  have l4 : ((((([] ++ bytesOf ⟨#[32]⟩) ++ bytesOf (numPut service 1)) ++ bytesOf (numPut sub 1)) ++ bytesOf (numPut time 4)) ++ bytesOf s).length ≤ 73 := by rw [len_text]; omega
  have b0_4 := box_below hB4 b0
  have b1_4 := box_below hB4 b1
  have b2_4 := box_below hB4 b2
  have b3_4 := box_below hB4 b3
  have b4_4 := box_below hB4 b4
  have b5_4 := box_below hB4 b5
  clear h3 b0_3 b1_3 b2_3 b3_3 b4_3 b5_3
  clear hb
  obtain ⟨X, hX⟩ : ∃ X, X = repBytes service sub time s := ⟨_, rfl⟩
  have h9 : Holds v4 w1.heap.size w1.heap.size X := by rw [hX]; exact h4
  have HX := Aside0.mk hX
  clear hX h4
  obtain ⟨A, c, hc, hconv⟩ := holds_string h9
  have hk := hconv v4 rfl
  clear h9 hconv l0 l1 l2 l3 l4
  go_wp2_with fail
  refine (packet_any false apid count (strOfNums X) _).mono ?_
  rintro e w9 ⟨rfl, hb9⟩
  go_wp2
  go_ret
  refine ⟨?_, below_step (below_step (below_alloc (Below.refl _ _) _) hb1) (below_then (hB4) hB4.size hb9)⟩
  rw [repPut, if_pos HK0.out, ← HX.out]
  rfl
set_option maxHeartbeats 1000000 in
theorem cmdPut_false (apid count source service sub : Int) (s : ByteArray) (w : World) (hok : cOk apid count source service sub s = false) :
    Calls Try.prog 30 #[.agg #[.int .i64 apid, .int .i64 count, .int .i64 source, .int .i64 service, .int .i64 sub, .string s]] w fun e w' => e = .returned (.string (cmdPut apid count source service sub s)) ∧ Below w.heap.size w w' := by
  have hu := Try.underlying55
  have hp : cmdPut apid count source service sub s = ⟨#[]⟩ := by rw [cmdPut, hok]; rfl
  have HP := Aside0.mk hp
  have HOK := Aside0.mk ((cmdOk_at apid count source service sub s).trans (congrArg some hok))
  clear hok hp
  go_enter Try.func30, Try.ntmps30
  go_wp2_with fail
  refine (impl_cmdOk.calls apid count source service sub s false _ HOK.out).mono ?_
  rintro e w1 ⟨rfl, hb1⟩
  go_wp2
  go_ret
  exact ⟨by rw [HP.out]; rfl, below_step (below_alloc (Below.refl _ _) _) hb1⟩
set_option maxHeartbeats 2000000 in
theorem cmdPut_true (apid count source service sub : Int) (s : ByteArray) (w : World) (hok : cOk apid count source service sub s = true) (hlen : 2 ≤ (cmdWhole apid count source service sub s).size) (hlen2 : (cmdWhole apid count source service sub s).size ≤ 1000) :
    Calls Try.prog 30 #[.agg #[.int .i64 apid, .int .i64 count, .int .i64 source, .int .i64 service, .int .i64 sub, .string s]] w fun e w' => e = .returned (.string (cmdPut apid count source service sub s)) ∧ Below w.heap.size w w' := by
  have hu := Try.underlying55
  have hu2 := Try.underlying32
  have hB0 := cOk_of hok
  obtain ⟨q0, q1, q2, q3, q4, q5, q6, q7, q8, q9, q10⟩ := hB0
  have HOK := Aside0.mk ((cmdOk_at apid count source service sub s).trans (congrArg some hok))
  have HK0 := Aside0.mk hok
  clear hok
  go_enter Try.func30, Try.ntmps30
  go_wp2_with fail
  refine (impl_cmdOk.calls apid count source service sub s true _ HOK.out).mono ?_
  rintro e w1 ⟨rfl, hb1⟩
  have hlt : w.heap.size < w1.heap.size := by have := hb1.size; simp at this; omega
  have b0 : w1.cell? ⟨w.heap.size, 0, none⟩ = some (.int .i64 apid) := box_below hb1 (by rw [blk_cell (heap_alloc_new _ _)]; rfl)
  have b1 : w1.cell? ⟨w.heap.size, 1, none⟩ = some (.int .i64 count) := box_below hb1 (by rw [blk_cell (heap_alloc_new _ _)]; rfl)
  have b2 : w1.cell? ⟨w.heap.size, 2, none⟩ = some (.int .i64 source) := box_below hb1 (by rw [blk_cell (heap_alloc_new _ _)]; rfl)
  have b3 : w1.cell? ⟨w.heap.size, 3, none⟩ = some (.int .i64 service) := box_below hb1 (by rw [blk_cell (heap_alloc_new _ _)]; rfl)
  have b4 : w1.cell? ⟨w.heap.size, 4, none⟩ = some (.int .i64 sub) := box_below hb1 (by rw [blk_cell (heap_alloc_new _ _)]; rfl)
  have b5 : w1.cell? ⟨w.heap.size, 5, none⟩ = some (.string s) := box_below hb1 (by rw [blk_cell (heap_alloc_new _ _)]; rfl)
  go_wp2_with fail
  refine (text_any w1.heap.size w1.heap.size _ _ _ (fresh w1) (by simp) (by show 0 + 1 ≤ _; decide)).mono ?_
  rintro e v0 ⟨rfl, h0, hb⟩
  have hB0 : Below w1.heap.size w1 v0 := ((Below.refl _ w1).alloc (Nat.le_refl _) _).trans hb
  have l0 : ([] ++ bytesOf ⟨#[47]⟩).length ≤ 1 := by rw [len_text]; show 0 + 1 ≤ _; decide
  have b0_0 := box_below hB0 b0
  have b1_0 := box_below hB0 b1
  have b2_0 := box_below hB0 b2
  have b3_0 := box_below hB0 b3
  have b4_0 := box_below hB0 b4
  have b5_0 := box_below hB0 b5
  clear hb
  go_wp2_with fail
  refine (num_any w1.heap.size w1.heap.size _ _ _ _ (by omega) h0 hB0.size (by omega)).mono ?_
  rintro e v1 ⟨rfl, h1, hb⟩
  have hB1 : Below w1.heap.size w1 v1 := hB0.trans hb
  have l1 : (([] ++ bytesOf ⟨#[47]⟩) ++ bytesOf (numPut service 1)).length ≤ 5 := by have := len_put ([] ++ bytesOf ⟨#[47]⟩) service 1; omega
  have b0_1 := box_below hB1 b0
  have b1_1 := box_below hB1 b1
  have b2_1 := box_below hB1 b2
  have b3_1 := box_below hB1 b3
  have b4_1 := box_below hB1 b4
  have b5_1 := box_below hB1 b5
  clear h0 b0_0 b1_0 b2_0 b3_0 b4_0 b5_0
  clear hb
  go_wp2_with fail
  refine (num_any w1.heap.size w1.heap.size _ _ _ _ (by omega) h1 hB1.size (by omega)).mono ?_
  rintro e v2 ⟨rfl, h2, hb⟩
  have hB2 : Below w1.heap.size w1 v2 := hB1.trans hb
  have l2 : ((([] ++ bytesOf ⟨#[47]⟩) ++ bytesOf (numPut service 1)) ++ bytesOf (numPut sub 1)).length ≤ 9 := by have := len_put (([] ++ bytesOf ⟨#[47]⟩) ++ bytesOf (numPut service 1)) sub 1; omega
  have b0_2 := box_below hB2 b0
  have b1_2 := box_below hB2 b1
  have b2_2 := box_below hB2 b2
  have b3_2 := box_below hB2 b3
  have b4_2 := box_below hB2 b4
  have b5_2 := box_below hB2 b5
  clear h1 b0_1 b1_1 b2_1 b3_1 b4_1 b5_1
  clear hb
  go_wp2_with fail
  refine (num_any w1.heap.size w1.heap.size _ _ _ _ (by omega) h2 hB2.size (by omega)).mono ?_
  rintro e v3 ⟨rfl, h3, hb⟩
  have hB3 : Below w1.heap.size w1 v3 := hB2.trans hb
  have l3 : (((([] ++ bytesOf ⟨#[47]⟩) ++ bytesOf (numPut service 1)) ++ bytesOf (numPut sub 1)) ++ bytesOf (numPut source 1)).length ≤ 13 := by have := len_put ((([] ++ bytesOf ⟨#[47]⟩) ++ bytesOf (numPut service 1)) ++ bytesOf (numPut sub 1)) source 1; omega
  have b0_3 := box_below hB3 b0
  have b1_3 := box_below hB3 b1
  have b2_3 := box_below hB3 b2
  have b3_3 := box_below hB3 b3
  have b4_3 := box_below hB3 b4
  have b5_3 := box_below hB3 b5
  clear h2 b0_2 b1_2 b2_2 b3_2 b4_2 b5_2
  clear hb
  go_wp2_with fail
  refine (text_any w1.heap.size w1.heap.size _ _ _ h3 hB3.size (by omega)).mono ?_
  rintro e v4 ⟨rfl, h4, hb⟩
  have hB4 : Below w1.heap.size w1 v4 := hB3.trans hb
  have l4 : ((((([] ++ bytesOf ⟨#[47]⟩) ++ bytesOf (numPut service 1)) ++ bytesOf (numPut sub 1)) ++ bytesOf (numPut source 1)) ++ bytesOf s).length ≤ 73 := by rw [len_text]; omega
  have b0_4 := box_below hB4 b0
  have b1_4 := box_below hB4 b1
  have b2_4 := box_below hB4 b2
  have b3_4 := box_below hB4 b3
  have b4_4 := box_below hB4 b4
  have b5_4 := box_below hB4 b5
  clear h3 b0_3 b1_3 b2_3 b3_3 b4_3 b5_3
  clear hb
  go_wp2_with fail
  refine (num_any w1.heap.size w1.heap.size _ _ _ _ (by omega) h4 hB4.size (by omega)).mono ?_
  rintro e v5 ⟨rfl, h5, hb⟩
  have hB5 : Below w1.heap.size w1 v5 := hB4.trans hb
  have l5 : (((((([] ++ bytesOf ⟨#[47]⟩) ++ bytesOf (numPut service 1)) ++ bytesOf (numPut sub 1)) ++ bytesOf (numPut source 1)) ++ bytesOf s) ++ bytesOf (numPut 0 2)).length ≤ 77 := by have := len_put ((((([] ++ bytesOf ⟨#[47]⟩) ++ bytesOf (numPut service 1)) ++ bytesOf (numPut sub 1)) ++ bytesOf (numPut source 1)) ++ bytesOf s) 0 2; omega
  have b0_5 := box_below hB5 b0
  have b1_5 := box_below hB5 b1
  have b2_5 := box_below hB5 b2
  have b3_5 := box_below hB5 b3
  have b4_5 := box_below hB5 b4
  have b5_5 := box_below hB5 b5
  clear h4 b0_4 b1_4 b2_4 b3_4 b4_4 b5_4
  clear hb
  obtain ⟨X, hX⟩ : ∃ X, X = cmdBytes source service sub s := ⟨_, rfl⟩
  have h9 : Holds v5 w1.heap.size w1.heap.size X := by rw [hX]; exact h5
  have HX := Aside0.mk hX
  clear hX h5
  obtain ⟨A, c, hc, hconv⟩ := holds_string h9
  have hk := hconv v5 rfl
  clear h9 hconv l0 l1 l2 l3 l4 l5
  go_wp2_with fail
  refine (packet_any true apid count (strOfNums X) _).mono ?_
  rintro e w9 ⟨rfl, hb9⟩
  obtain ⟨Y, hY⟩ : ∃ Y, Y = packetPut true apid count (strOfNums X) := ⟨_, rfl⟩
  rw [← hY]
  have hW : cmdWhole apid count source service sub s = Y := by rw [cmdWhole, ← HX.out, hY]
  rw [hW] at hlen hlen2
  have HW := Aside0.mk hW
  clear hY hW
  have hk2 : (0 : Int) ≤ (Y.size : Int) - 2 := by omega
  go_wp2_with fail
  obtain ⟨Z, hZ⟩ : ∃ Z, Z = Y.extract 0 (Y.size - 2) := ⟨_, rfl⟩
  have hZs : Z.size ≤ 1000 := by rw [hZ, ByteArray.size_extract]; omega
  rw [← hZ]
  have HZ := Aside0.mk hZ
  clear hZ
  refine (HCrc.crc16_any Z _ (by omega)).mono ?_
  rintro e w10 ⟨rfl, hb10⟩
  obtain ⟨f0, f1⟩ := HCrc.foldT_rng Z Z.size
  go_wp2_with fail
  refine (impl_NumPut.calls 7 _ 2 (numPut (HCrc.foldT Z Z.size) 2) _ (implPut_at 7 (Nat.le_refl _) _ 2 (by omega))).mono ?_
  rintro e w11 ⟨rfl, hb11⟩
  obtain ⟨N, hN⟩ : ∃ N, N = numPut (HCrc.foldT Z Z.size) 2 := ⟨_, rfl⟩
  have hNs : N.size ≤ 4 := by rw [hN]; exact numPut_size _ _
  rw [← hN]
  have HN := Aside0.mk hN
  clear hN f0 f1
  go_wp2
  go_ret
  refine ⟨?_, below_step (below_step (below_step (below_step (below_alloc (Below.refl _ _) _) hb1) (below_then (hB5) hB5.size hb9)) hb10) hb11⟩
  have hA : cmdAhead apid count source service sub s = Z := by rw [cmdAhead, HW.out, HZ.out]
  rw [cmdPut, if_pos HK0.out, hA, ← HN.out]
  rfl
end Go.Proofs.Ytgioeghaopoabaa.HPack
