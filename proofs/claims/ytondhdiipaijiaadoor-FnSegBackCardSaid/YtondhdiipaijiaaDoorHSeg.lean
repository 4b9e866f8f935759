/- Hearing a part of a packet (SegHear): what comes of it, for all that may be heard. Conditions: JoinOk's answer is known. -/
import Derived.Test.YtondhdiipaijiaaDoorProg
import Derived.Below
import Derived.Deep.Draws
import Derived.Deep.AppendLies
import Derived.Maps.AppendAt
import Derived.OwnWalk
import Derived.Laws.BytesArg
import Derived.Laws.MakeOwn
import Derived.Laws.OwnMore
import Derived.Deep.OwnRows
import Derived.Tactics
import Derived.Lib.ConvBytes
import Derived.Laws.Slices
import Derived.WalkKit
import Derived.KernelRfl
import Derived.RowKit3
import Derived.Deep.LoopGhost
import Derived.Deep.QuietTactic
import Derived.BigQuiet
import Derived.WideLaws
import Derived.Deep.DeepCutAuto
import Derived.Deep.CutBlock
import Derived.Deep.RegionHeld3
import Derived.Laws.Rows
import Derived.Lib.AppendStr
import Derived.ArgAppend
import Derived.Laws.IdiomCopy
import Derived.OrdersHeld
import Derived.Laws.BitsLemmas
import Derived.RowKit
import Derived.Test.YtondhdiipaijiaaDoorWWords
import Derived.Test.YtondhdiipaijiaaDoorWLast
import Derived.Test.YtondhdiipaijiaaDoorWTab
import Derived.Test.YtondhdiipaijiaaDoorWFour
import Derived.Test.YtondhdiipaijiaaDoorWQPut
import Derived.Test.YtondhdiipaijiaaDoorWApart
import Derived.Test.YtondhdiipaijiaaDoorWArr
import Derived.Test.YtondhdiipaijiaaDoorWZeros
import Derived.Test.YtondhdiipaijiaaDoorWFoot
import Derived.Test.YtondhdiipaijiaaDoorWKept
import Derived.Test.YtondhdiipaijiaaDoorWShare
import Derived.Test.YtondhdiipaijiaaDoorWN
import Derived.Test.YtondhdiipaijiaaDoorWFootNe
import Derived.Test.YtondhdiipaijiaaDoorWAt
import Derived.Test.YtondhdiipaijiaaDoorWEqStruct
import Derived.Test.YtondhdiipaijiaaDoorWRepsOne
import Derived.Test.YtondhdiipaijiaaDoorWInv
import Derived.Test.YtondhdiipaijiaaDoorWInvWords
import Derived.Test.YtondhdiipaijiaaDoorWGuard
import Derived.Test.YtondhdiipaijiaaDoorWNEv
import Derived.Test.YtondhdiipaijiaaDoorWMore
import Derived.Laws.ResultCell
import Derived.Lib.Hide
import Derived.Test.YtondhdiipaijiaaDoorShelf
import Derived.Test.YtondhdiipaijiaaDoorAux
namespace Go.Proofs.YtondhdiipaijiaaDoor.HSeg
open Go Go.RowKit Go.Proofs.YtondhdiipaijiaaDoorW.PrintWords Go.Proofs.YtondhdiipaijiaaDoorW.PrintLast Go.Proofs.YtondhdiipaijiaaDoorW.PrintMore Go.Proofs.YtondhdiipaijiaaDoor.Aux
set_option linter.unusedVariables false
set_option linter.unusedSimpArgs false
/-- What is together behind a part that is not the first | that is the first. -/
def came (f : Bool) (t p : ByteArray) : ByteArray := (if f = true then (⟨#[]⟩ : ByteArray) else t) ++ p.extract 1 p.size
/-- What comes of a part. -/
def hearV (o f l : Bool) (t p : ByteArray) : Bool × ByteArray × ByteArray :=
  if (o || f) = true then (if (came f t p).size ≤ 106 then (if l = true then (false, (⟨#[]⟩ : ByteArray), came f t p) else (true, came f t p, (⟨#[]⟩ : ByteArray))) else (false, (⟨#[]⟩ : ByteArray), (⟨#[]⟩ : ByteArray))) else (false, (⟨#[]⟩ : ByteArray), (⟨#[]⟩ : ByteArray))
theorem bytes_back (a b : ByteArray) : (⟨(a.data.toList ++ b.data.toList).toArray⟩ : ByteArray) = a ++ b := by
  apply ByteArray.ext
  simp
theorem bytes_one (a : ByteArray) : (⟨a.data.toList.toArray⟩ : ByteArray) = a := by
  apply ByteArray.ext
  simp
theorem cells_len (a : ByteArray) : (Lib.byteCells a.data.toList).length = a.size := by rw [Lib.byteCells_length, ← Lib.size_eq]
theorem ret2 {a b : Bool} {x y u z : ByteArray} (h : (a, x, u) = (b, y, z)) : Ending.returned (.tuple #[.agg #[.bool a, .string x], .string u]) = .returned (.tuple #[.agg #[.bool b, .string y], .string z]) := by
  obtain ⟨rfl, h2⟩ := Prod.mk.inj h
  obtain ⟨rfl, rfl⟩ := Prod.mk.inj h2
  rfl
theorem frame_drew {B : Nat} {w w' : World} {n : Nat} (h : Below B w w') : Below B w (w'.drewN n) := h.trans ⟨rfl, rfl, rfl, Nat.le_refl _, fun _ _ => rfl⟩
set_option maxHeartbeats 2000000 in
theorem hear_no (o : Bool) (t p : ByteArray) (v : Int) (w : World) (HJ : Aside0 (∀ w, Calls Tryd.prog 14 #[.agg #[.bool o, .string t]] w fun e w' => e = .returned (.bool false) ∧ Below w.heap.size w w')) :
    Calls Tryd.prog 10 #[.agg #[.bool o, .string t], .string p, .int .i64 v] w fun e w' => e = .returned (.tuple #[.agg #[.bool false, .string ⟨#[]⟩], .string ⟨#[]⟩]) ∧ Below w.heap.size w w' := by
  go_enter Tryd.func10, Tryd.ntmps10
  go_wp2_with fail
  refine (HJ.out _).mono ?_
  rintro e w1 ⟨rfl, hb⟩
  have hz : w.heap.size + 1 < w1.heap.size := by have := hb.size; simp at this; omega
  have BK0 := Aside0.mk (blk_below (blk_alloc (blk_new w (.cells #[.bool _, .string t] 25)) _) hb)
  have BK1 := Aside0.mk (blk_below (blk_new _ _) hb)
  simp only [World.size_alloc] at BK1
  have HB := Aside0.mk (((((Below.refl w.heap.size w).alloc (Nat.le_refl _) _).alloc (by simp) _)).trans (hb.mono (by simp; omega)))
  clear hb
  have c00 := (blk_cell BK0.out 0).trans rfl
  have c01 := (blk_cell BK0.out 1).trans rfl
  have c10 := (blk_cell BK1.out 0).trans rfl
  have c11 := (blk_cell BK1.out 1).trans rfl
  have f0 := blk_frozen BK0.out
  have f1 := blk_frozen BK1.out
  have c01a : ∀ o' : Obj, (w1.alloc o').cell? ⟨w.heap.size, 1, none⟩ = some (.string t) := fun o' => (blk_cell (blk_alloc BK0.out o') 1).trans rfl
  go_wp2
  refine bodyPost_ret (results_ct rfl _ _ (w.heap.size + 1) 25 #[.bool false, .string ⟨#[]⟩] (0, 0) _ rfl (blk_put (cs := #[.bool false, .string ⟨#[]⟩]) (blk_put (cs := #[.bool false, .string ⟨#[]⟩]) BK1.out 0 _ rfl) 1 _ rfl) Tryd.underlying25 rfl (by kernel_rfl)) rfl ⟨rfl, ?_⟩
  exact (HB.out.setCell (by show w.heap.size ≤ w.heap.size + 1; omega) _).setCell (by show w.heap.size ≤ w.heap.size + 1; omega) _
set_option maxHeartbeats 2000000 in
theorem hear_short (o : Bool) (t p : ByteArray) (v : Int) (w : World) (HJ : Aside0 (∀ w, Calls Tryd.prog 14 #[.agg #[.bool o, .string t]] w fun e w' => e = .returned (.bool true) ∧ Below w.heap.size w w')) (h2 : p.size < 2) :
    Calls Tryd.prog 10 #[.agg #[.bool o, .string t], .string p, .int .i64 v] w fun e w' => e = .returned (.tuple #[.agg #[.bool o, .string t], .string ⟨#[]⟩]) ∧ Below w.heap.size w w' := by
  have d1 : decide ((p.size : Int) < 2) = true := decide_eq_true (by omega)
  have d3 : decide (p.size < 2) = true := decide_eq_true (by omega)
  clear h2
  go_enter Tryd.func10, Tryd.ntmps10
  go_wp2_with fail
  refine (HJ.out _).mono ?_
  rintro e w1 ⟨rfl, hb⟩
  have hz : w.heap.size + 1 < w1.heap.size := by have := hb.size; simp at this; omega
  have BK0 := Aside0.mk (blk_below (blk_alloc (blk_new w (.cells #[.bool _, .string t] 25)) _) hb)
  have BK1 := Aside0.mk (blk_below (blk_new _ _) hb)
  simp only [World.size_alloc] at BK1
  have HB := Aside0.mk (((((Below.refl w.heap.size w).alloc (Nat.le_refl _) _).alloc (by simp) _)).trans (hb.mono (by simp; omega)))
  clear hb
  have c00 := (blk_cell BK0.out 0).trans rfl
  have c01 := (blk_cell BK0.out 1).trans rfl
  have c10 := (blk_cell BK1.out 0).trans rfl
  have c11 := (blk_cell BK1.out 1).trans rfl
  have f0 := blk_frozen BK0.out
  have f1 := blk_frozen BK1.out
  have c01a : ∀ o' : Obj, (w1.alloc o').cell? ⟨w.heap.size, 1, none⟩ = some (.string t) := fun o' => (blk_cell (blk_alloc BK0.out o') 1).trans rfl
  go_wp2
  refine bodyPost_ret (results_ct rfl _ _ (w.heap.size + 1) 25 #[.bool o, .string t] (0, 0) _ rfl (blk_put (cs := #[.bool o, .string ⟨#[]⟩]) (blk_put (cs := #[.bool false, .string ⟨#[]⟩]) BK1.out 0 _ rfl) 1 _ rfl) Tryd.underlying25 rfl (by kernel_rfl)) rfl ⟨rfl, ?_⟩
  exact (HB.out.setCell (by show w.heap.size ≤ w.heap.size + 1; omega) _).setCell (by show w.heap.size ≤ w.heap.size + 1; omega) _
set_option maxHeartbeats 2000000 in
theorem hear_long (o : Bool) (t p : ByteArray) (v : Int) (w : World) (HJ : Aside0 (∀ w, Calls Tryd.prog 14 #[.agg #[.bool o, .string t]] w fun e w' => e = .returned (.bool true) ∧ Below w.heap.size w w')) (h2 : 21 < p.size) :
    Calls Tryd.prog 10 #[.agg #[.bool o, .string t], .string p, .int .i64 v] w fun e w' => e = .returned (.tuple #[.agg #[.bool o, .string t], .string ⟨#[]⟩]) ∧ Below w.heap.size w w' := by
  have d1 : decide ((p.size : Int) < 2) = false := decide_eq_false (by omega)
  have d3 : decide (p.size < 2) = false := decide_eq_false (by omega)
  have d2 : decide ((p.size : Int) > 21) = true := decide_eq_true (by omega)
  have d4 : decide (21 < p.size) = true := decide_eq_true (by omega)
  clear h2
  go_enter Tryd.func10, Tryd.ntmps10
  go_wp2_with fail
  refine (HJ.out _).mono ?_
  rintro e w1 ⟨rfl, hb⟩
  have hz : w.heap.size + 1 < w1.heap.size := by have := hb.size; simp at this; omega
  have BK0 := Aside0.mk (blk_below (blk_alloc (blk_new w (.cells #[.bool _, .string t] 25)) _) hb)
  have BK1 := Aside0.mk (blk_below (blk_new _ _) hb)
  simp only [World.size_alloc] at BK1
  have HB := Aside0.mk (((((Below.refl w.heap.size w).alloc (Nat.le_refl _) _).alloc (by simp) _)).trans (hb.mono (by simp; omega)))
  clear hb
  have c00 := (blk_cell BK0.out 0).trans rfl
  have c01 := (blk_cell BK0.out 1).trans rfl
  have c10 := (blk_cell BK1.out 0).trans rfl
  have c11 := (blk_cell BK1.out 1).trans rfl
  have f0 := blk_frozen BK0.out
  have f1 := blk_frozen BK1.out
  have c01a : ∀ o' : Obj, (w1.alloc o').cell? ⟨w.heap.size, 1, none⟩ = some (.string t) := fun o' => (blk_cell (blk_alloc BK0.out o') 1).trans rfl
  go_wp2
  refine bodyPost_ret (results_ct rfl _ _ (w.heap.size + 1) 25 #[.bool o, .string t] (0, 0) _ rfl (blk_put (cs := #[.bool o, .string ⟨#[]⟩]) (blk_put (cs := #[.bool false, .string ⟨#[]⟩]) BK1.out 0 _ rfl) 1 _ rfl) Tryd.underlying25 rfl (by kernel_rfl)) rfl ⟨rfl, ?_⟩
  exact (HB.out.setCell (by show w.heap.size ≤ w.heap.size + 1; omega) _).setCell (by show w.heap.size ≤ w.heap.size + 1; omega) _
set_option maxHeartbeats 2000000 in
theorem hear_other (o : Bool) (t p : ByteArray) (v : Int) (w : World) (HJ : Aside0 (∀ w, Calls Tryd.prog 14 #[.agg #[.bool o, .string t]] w fun e w' => e = .returned (.bool true) ∧ Below w.heap.size w w')) (h2 : 2 ≤ p.size) (h21 : p.size ≤ 21) (hv : ((wrap64 (bt p 0)).tmod 64 != v) = true) :
    Calls Tryd.prog 10 #[.agg #[.bool o, .string t], .string p, .int .i64 v] w fun e w' => e = .returned (.tuple #[.agg #[.bool o, .string t], .string ⟨#[]⟩]) ∧ Below w.heap.size w w' := by
  have d1 : decide ((p.size : Int) < 2) = false := decide_eq_false (by omega)
  have d2 : decide ((p.size : Int) > 21) = false := decide_eq_false (by omega)
  have d3 : decide (p.size < 2) = false := decide_eq_false (by omega)
  have d4 : decide (21 < p.size) = false := decide_eq_false (by omega)
  have d5 : (0 < (p.size : Int)) = True := eq_true (by omega)
  have d6 : (0 < p.size) = True := eq_true (by omega)
  have d7 : (1 ≤ p.size) = True := eq_true (by omega)
  have d8 : (1 ≤ (p.size : Int)) = True := eq_true (by omega)
  have d9 : decide (1 ≤ (p.size : Int)) = true := decide_eq_true (by omega)
  have hx : ∀ h : 0 < p.size, ((p[0]'h).toNat : Int) = bt p 0 := bt_at p 0
  clear h2 h21
  go_enter Tryd.func10, Tryd.ntmps10
  go_wp2_with fail
  refine (HJ.out _).mono ?_
  rintro e w1 ⟨rfl, hb⟩
  have hz : w.heap.size + 1 < w1.heap.size := by have := hb.size; simp at this; omega
  have BK0 := Aside0.mk (blk_below (blk_alloc (blk_new w (.cells #[.bool _, .string t] 25)) _) hb)
  have BK1 := Aside0.mk (blk_below (blk_new _ _) hb)
  simp only [World.size_alloc] at BK1
  have HB := Aside0.mk (((((Below.refl w.heap.size w).alloc (Nat.le_refl _) _).alloc (by simp) _)).trans (hb.mono (by simp; omega)))
  clear hb
  have c00 := (blk_cell BK0.out 0).trans rfl
  have c01 := (blk_cell BK0.out 1).trans rfl
  have c10 := (blk_cell BK1.out 0).trans rfl
  have c11 := (blk_cell BK1.out 1).trans rfl
  have f0 := blk_frozen BK0.out
  have f1 := blk_frozen BK1.out
  have c01a : ∀ o' : Obj, (w1.alloc o').cell? ⟨w.heap.size, 1, none⟩ = some (.string t) := fun o' => (blk_cell (blk_alloc BK0.out o') 1).trans rfl
  go_wp2
  refine bodyPost_ret (results_ct rfl _ _ (w.heap.size + 1) 25 #[.bool o, .string t] (0, 0) _ rfl (blk_put (cs := #[.bool o, .string ⟨#[]⟩]) (blk_put (cs := #[.bool false, .string ⟨#[]⟩]) BK1.out 0 _ rfl) 1 _ rfl) Tryd.underlying25 rfl (by kernel_rfl)) rfl ⟨rfl, ?_⟩
  exact (HB.out.setCell (by show w.heap.size ≤ w.heap.size + 1; omega) _).setCell (by show w.heap.size ≤ w.heap.size + 1; omega) _
set_option maxHeartbeats 2000000 in
theorem hear_first_false (o : Bool) (t p : ByteArray) (v : Int) (w : World) (HJ : Aside0 (∀ w, Calls Tryd.prog 14 #[.agg #[.bool o, .string t]] w fun e w' => e = .returned (.bool true) ∧ Below w.heap.size w w')) (h2 : 2 ≤ p.size) (h21 : p.size ≤ 21) (hv : ((wrap64 (bt p 0)).tmod 64 != v) = false) (hf : (bits .and .i64 (wrap64 (bt p 0)) 64 != 0) = true) (hl : (bits .and .i64 (wrap64 (bt p 0)) 128 != 0) = false) :
    Calls Tryd.prog 10 #[.agg #[.bool o, .string t], .string p, .int .i64 v] w fun e w' => e = .returned (.tuple #[.agg #[.bool (hearV o true false t p).1, .string (hearV o true false t p).2.1], .string (hearV o true false t p).2.2]) ∧ Below w.heap.size w w' := by
  have d1 : decide ((p.size : Int) < 2) = false := decide_eq_false (by omega)
  have d2 : decide ((p.size : Int) > 21) = false := decide_eq_false (by omega)
  have d3 : decide (p.size < 2) = false := decide_eq_false (by omega)
  have d4 : decide (21 < p.size) = false := decide_eq_false (by omega)
  have d5 : (0 < (p.size : Int)) = True := eq_true (by omega)
  have d6 : (0 < p.size) = True := eq_true (by omega)
  have d7 : (1 ≤ p.size) = True := eq_true (by omega)
  have d8 : (1 ≤ (p.size : Int)) = True := eq_true (by omega)
  have d9 : decide (1 ≤ (p.size : Int)) = true := decide_eq_true (by omega)
  have hx : ∀ h : 0 < p.size, ((p[0]'h).toNat : Int) = bt p 0 := bt_at p 0
  have hps : (p.extract 1 p.size).size = p.size - 1 := by rw [ByteArray.size_extract]; omega
  have hcz : (came true t p).size = p.size - 1 := by unfold came; rw [if_pos rfl, ByteArray.size_append, hps]; show 0 + _ = _; omega
  have hce : came true t p = p.extract 1 p.size := by unfold came; rw [if_pos rfl]; exact str_nil_append _
  have HV := Aside0.mk (show hearV o true false t p = if false = true then (false, (⟨#[]⟩ : ByteArray), p.extract 1 p.size) else (true, p.extract 1 p.size, (⟨#[]⟩ : ByteArray)) by unfold hearV; rw [Bool.or_true, if_pos rfl, if_pos (by omega), hce])
  obtain ⟨m, hm⟩ : ∃ m, m = (p.extract 1 p.size).size := ⟨_, rfl⟩
  have HL := Aside0.mk ((cells_len (p.extract 1 p.size)).trans hm.symm)
  have dl : decide ((m : Int) > 106) = false := decide_eq_false (by omega)
  have dm : decide (106 < m) = false := decide_eq_false (by omega)
  have HP := Aside0.mk (And.intro h2 (And.intro h21 hps))
  clear h2 h21 hps hcz hce hm
  cases o
  all_goals
    go_enter Tryd.func10, Tryd.ntmps10
    go_wp2_with fail
    refine (HJ.out _).mono ?_
    rintro e w1 ⟨rfl, hb⟩
    have hz : w.heap.size + 1 < w1.heap.size := by have := hb.size; simp at this; omega
    have BK0 := Aside0.mk (blk_below (blk_alloc (blk_new w (.cells #[.bool _, .string t] 25)) _) hb)
    have BK1 := Aside0.mk (blk_below (blk_new _ _) hb)
    simp only [World.size_alloc] at BK1
    have HB := Aside0.mk (((((Below.refl w.heap.size w).alloc (Nat.le_refl _) _).alloc (by simp) _)).trans (hb.mono (by simp; omega)))
    clear hb
    have c00 := (blk_cell BK0.out 0).trans rfl
    have c01 := (blk_cell BK0.out 1).trans rfl
    have c10 := (blk_cell BK1.out 0).trans rfl
    have c11 := (blk_cell BK1.out 1).trans rfl
    have f0 := blk_frozen BK0.out
    have f1 := blk_frozen BK1.out
    have c01a : ∀ o' : Obj, (w1.alloc o').cell? ⟨w.heap.size, 1, none⟩ = some (.string t) := fun o' => (blk_cell (blk_alloc BK0.out o') 1).trans rfl
    go_wp2_with fail
    refine (Tryd.Buffer_WriteString w1.heap.size w1.heap.size [] _ _ (Lib.fresh_isBuffer 46 5 w1) (by simp) (by simp) (by rw [HP.out.2.2]; have := HP.out.2.1; simp; omega)).mono ?_
    rintro e w2 ⟨rfl, i2, b2⟩
    rw [List.nil_append] at i2
    have I2 := Aside0.mk i2
    have BK0 := Aside0.mk ((b2.block _ (by omega)).trans (blk_alloc BK0.out _))
    have BK1 := Aside0.mk ((b2.block _ (by omega)).trans (blk_alloc BK1.out _))
    have HB := Aside0.mk ((HB.out.alloc (by omega) _).trans (b2.mono (by omega)))
    clear i2 b2
    have c10 := (blk_cell BK1.out 0).trans rfl
    have c11 := (blk_cell BK1.out 1).trans rfl
    have f1 := blk_frozen BK1.out
    go_wp2_with fail
    refine (Tryd.Buffer_Len w1.heap.size w1.heap.size _ _ I2.out).mono ?_
    rintro e w3 ⟨he, n3, rfl⟩
    rw [HL.out] at he
    subst he
    go_wp2_with fail
    refine (Tryd.Buffer_String w1.heap.size w1.heap.size (p.extract 1 p.size).data.toList (w2.drewN n3) I2.out).mono ?_
    rintro e w4 ⟨he, n4, rfl⟩
    rw [bytes_one] at he
    subst he
    go_wp2
    have HE : Below w.heap.size w (((w2.drewN (n3 + n4)).setCell ⟨w.heap.size + 1, 0, none⟩ (.bool true)).setCell ⟨w.heap.size + 1, 1, none⟩ (.string (p.extract 1 p.size))) := ((frame_drew HB.out).setCell (by show w.heap.size ≤ w.heap.size + 1; omega) _).setCell (by show w.heap.size ≤ w.heap.size + 1; omega) _
    refine bodyPost_ret (results_ct rfl _ _ (w.heap.size + 1) 25 #[.bool true, .string (p.extract 1 p.size)] (0, 0) _ rfl (blk_put (cs := #[.bool true, .string ⟨#[]⟩]) (blk_put (cs := #[.bool false, .string ⟨#[]⟩]) (blk_drewN BK1.out _) 0 _ rfl) 1 _ rfl) Tryd.underlying25 rfl (by kernel_rfl)) rfl ⟨ret2 (by rw [HV.out]; rfl), HE⟩
set_option maxHeartbeats 2000000 in
theorem hear_first_true (o : Bool) (t p : ByteArray) (v : Int) (w : World) (HJ : Aside0 (∀ w, Calls Tryd.prog 14 #[.agg #[.bool o, .string t]] w fun e w' => e = .returned (.bool true) ∧ Below w.heap.size w w')) (h2 : 2 ≤ p.size) (h21 : p.size ≤ 21) (hv : ((wrap64 (bt p 0)).tmod 64 != v) = false) (hf : (bits .and .i64 (wrap64 (bt p 0)) 64 != 0) = true) (hl : (bits .and .i64 (wrap64 (bt p 0)) 128 != 0) = true) :
    Calls Tryd.prog 10 #[.agg #[.bool o, .string t], .string p, .int .i64 v] w fun e w' => e = .returned (.tuple #[.agg #[.bool (hearV o true true t p).1, .string (hearV o true true t p).2.1], .string (hearV o true true t p).2.2]) ∧ Below w.heap.size w w' := by
  have d1 : decide ((p.size : Int) < 2) = false := decide_eq_false (by omega)
  have d2 : decide ((p.size : Int) > 21) = false := decide_eq_false (by omega)
  have d3 : decide (p.size < 2) = false := decide_eq_false (by omega)
  have d4 : decide (21 < p.size) = false := decide_eq_false (by omega)
  have d5 : (0 < (p.size : Int)) = True := eq_true (by omega)
  have d6 : (0 < p.size) = True := eq_true (by omega)
  have d7 : (1 ≤ p.size) = True := eq_true (by omega)
  have d8 : (1 ≤ (p.size : Int)) = True := eq_true (by omega)
  have d9 : decide (1 ≤ (p.size : Int)) = true := decide_eq_true (by omega)
  have hx : ∀ h : 0 < p.size, ((p[0]'h).toNat : Int) = bt p 0 := bt_at p 0
  have hps : (p.extract 1 p.size).size = p.size - 1 := by rw [ByteArray.size_extract]; omega
  have hcz : (came true t p).size = p.size - 1 := by unfold came; rw [if_pos rfl, ByteArray.size_append, hps]; show 0 + _ = _; omega
  have hce : came true t p = p.extract 1 p.size := by unfold came; rw [if_pos rfl]; exact str_nil_append _
  have HV := Aside0.mk (show hearV o true true t p = if true = true then (false, (⟨#[]⟩ : ByteArray), p.extract 1 p.size) else (true, p.extract 1 p.size, (⟨#[]⟩ : ByteArray)) by unfold hearV; rw [Bool.or_true, if_pos rfl, if_pos (by omega), hce])
  obtain ⟨m, hm⟩ : ∃ m, m = (p.extract 1 p.size).size := ⟨_, rfl⟩
  have HL := Aside0.mk ((cells_len (p.extract 1 p.size)).trans hm.symm)
  have dl : decide ((m : Int) > 106) = false := decide_eq_false (by omega)
  have dm : decide (106 < m) = false := decide_eq_false (by omega)
  have HP := Aside0.mk (And.intro h2 (And.intro h21 hps))
  clear h2 h21 hps hcz hce hm
  cases o
  all_goals
    go_enter Tryd.func10, Tryd.ntmps10
    go_wp2_with fail
    refine (HJ.out _).mono ?_
    rintro e w1 ⟨rfl, hb⟩
    have hz : w.heap.size + 1 < w1.heap.size := by have := hb.size; simp at this; omega
    have BK0 := Aside0.mk (blk_below (blk_alloc (blk_new w (.cells #[.bool _, .string t] 25)) _) hb)
    have BK1 := Aside0.mk (blk_below (blk_new _ _) hb)
    simp only [World.size_alloc] at BK1
    have HB := Aside0.mk (((((Below.refl w.heap.size w).alloc (Nat.le_refl _) _).alloc (by simp) _)).trans (hb.mono (by simp; omega)))
    clear hb
    have c00 := (blk_cell BK0.out 0).trans rfl
    have c01 := (blk_cell BK0.out 1).trans rfl
    have c10 := (blk_cell BK1.out 0).trans rfl
    have c11 := (blk_cell BK1.out 1).trans rfl
    have f0 := blk_frozen BK0.out
    have f1 := blk_frozen BK1.out
    have c01a : ∀ o' : Obj, (w1.alloc o').cell? ⟨w.heap.size, 1, none⟩ = some (.string t) := fun o' => (blk_cell (blk_alloc BK0.out o') 1).trans rfl
    go_wp2_with fail
    refine (Tryd.Buffer_WriteString w1.heap.size w1.heap.size [] _ _ (Lib.fresh_isBuffer 46 5 w1) (by simp) (by simp) (by rw [HP.out.2.2]; have := HP.out.2.1; simp; omega)).mono ?_
    rintro e w2 ⟨rfl, i2, b2⟩
    rw [List.nil_append] at i2
    have I2 := Aside0.mk i2
    have BK0 := Aside0.mk ((b2.block _ (by omega)).trans (blk_alloc BK0.out _))
    have BK1 := Aside0.mk ((b2.block _ (by omega)).trans (blk_alloc BK1.out _))
    have HB := Aside0.mk ((HB.out.alloc (by omega) _).trans (b2.mono (by omega)))
    clear i2 b2
    have c10 := (blk_cell BK1.out 0).trans rfl
    have c11 := (blk_cell BK1.out 1).trans rfl
    have f1 := blk_frozen BK1.out
    go_wp2_with fail
    refine (Tryd.Buffer_Len w1.heap.size w1.heap.size _ _ I2.out).mono ?_
    rintro e w3 ⟨he, n3, rfl⟩
    rw [HL.out] at he
    subst he
    go_wp2_with fail
    refine (Tryd.Buffer_String w1.heap.size w1.heap.size (p.extract 1 p.size).data.toList (w2.drewN n3) I2.out).mono ?_
    rintro e w4 ⟨he, n4, rfl⟩
    rw [bytes_one] at he
    subst he
    go_wp2
    have HE : Below w.heap.size w (((w2.drewN (n3 + n4)).setCell ⟨w.heap.size + 1, 0, none⟩ (.bool false)).setCell ⟨w.heap.size + 1, 1, none⟩ (.string ⟨#[]⟩)) := ((frame_drew HB.out).setCell (by show w.heap.size ≤ w.heap.size + 1; omega) _).setCell (by show w.heap.size ≤ w.heap.size + 1; omega) _
    refine bodyPost_ret (results_ct rfl _ _ (w.heap.size + 1) 25 #[.bool false, .string ⟨#[]⟩] (0, 0) _ rfl (blk_put (cs := #[.bool false, .string ⟨#[]⟩]) (blk_put (cs := #[.bool false, .string ⟨#[]⟩]) (blk_drewN BK1.out _) 0 _ rfl) 1 _ rfl) Tryd.underlying25 rfl (by kernel_rfl)) rfl ⟨ret2 (by rw [HV.out]; rfl), HE⟩
set_option maxHeartbeats 2000000 in
theorem hear_closed_false (t p : ByteArray) (v : Int) (w : World) (HJ : Aside0 (∀ w, Calls Tryd.prog 14 #[.agg #[.bool false, .string t]] w fun e w' => e = .returned (.bool true) ∧ Below w.heap.size w w')) (h106 : t.size ≤ 106) (h2 : 2 ≤ p.size) (h21 : p.size ≤ 21) (hv : ((wrap64 (bt p 0)).tmod 64 != v) = false) (hf : (bits .and .i64 (wrap64 (bt p 0)) 64 != 0) = false) (hl : (bits .and .i64 (wrap64 (bt p 0)) 128 != 0) = false) :
    Calls Tryd.prog 10 #[.agg #[.bool false, .string t], .string p, .int .i64 v] w fun e w' => e = .returned (.tuple #[.agg #[.bool (hearV false false false t p).1, .string (hearV false false false t p).2.1], .string (hearV false false false t p).2.2]) ∧ Below w.heap.size w w' := by
  have d1 : decide ((p.size : Int) < 2) = false := decide_eq_false (by omega)
  have d2 : decide ((p.size : Int) > 21) = false := decide_eq_false (by omega)
  have d3 : decide (p.size < 2) = false := decide_eq_false (by omega)
  have d4 : decide (21 < p.size) = false := decide_eq_false (by omega)
  have d5 : (0 < (p.size : Int)) = True := eq_true (by omega)
  have d6 : (0 < p.size) = True := eq_true (by omega)
  have d7 : (1 ≤ p.size) = True := eq_true (by omega)
  have d8 : (1 ≤ (p.size : Int)) = True := eq_true (by omega)
  have d9 : decide (1 ≤ (p.size : Int)) = true := decide_eq_true (by omega)
  have hx : ∀ h : 0 < p.size, ((p[0]'h).toNat : Int) = bt p 0 := bt_at p 0
  have hps : (p.extract 1 p.size).size = p.size - 1 := by rw [ByteArray.size_extract]; omega
  have hce : came false t p = t ++ p.extract 1 p.size := by unfold came; rw [if_neg (by decide)]
  have HV := Aside0.mk (show hearV false false false t p = (false, (⟨#[]⟩ : ByteArray), (⟨#[]⟩ : ByteArray)) from if_neg (by decide))
  have HP := Aside0.mk (And.intro h106 (And.intro h21 hps))
  clear h2 h21 hps h106 hce
  go_enter Tryd.func10, Tryd.ntmps10
  go_wp2_with fail
  refine (HJ.out _).mono ?_
  rintro e w1 ⟨rfl, hb⟩
  have hz : w.heap.size + 1 < w1.heap.size := by have := hb.size; simp at this; omega
  have BK0 := Aside0.mk (blk_below (blk_alloc (blk_new w (.cells #[.bool _, .string t] 25)) _) hb)
  have BK1 := Aside0.mk (blk_below (blk_new _ _) hb)
  simp only [World.size_alloc] at BK1
  have HB := Aside0.mk (((((Below.refl w.heap.size w).alloc (Nat.le_refl _) _).alloc (by simp) _)).trans (hb.mono (by simp; omega)))
  clear hb
  have c00 := (blk_cell BK0.out 0).trans rfl
  have c01 := (blk_cell BK0.out 1).trans rfl
  have c10 := (blk_cell BK1.out 0).trans rfl
  have c11 := (blk_cell BK1.out 1).trans rfl
  have f0 := blk_frozen BK0.out
  have f1 := blk_frozen BK1.out
  have c01a : ∀ o' : Obj, (w1.alloc o').cell? ⟨w.heap.size, 1, none⟩ = some (.string t) := fun o' => (blk_cell (blk_alloc BK0.out o') 1).trans rfl
  go_wp2_with fail
  refine (Tryd.Buffer_WriteString w1.heap.size w1.heap.size [] t _ (Lib.fresh_isBuffer 46 5 w1) (by simp) (by simp) (by have := HP.out.1; simp; omega)).mono ?_
  rintro e w2 ⟨rfl, i2, b2⟩
  rw [List.nil_append] at i2
  have I2 := Aside0.mk i2
  have BK0 := Aside0.mk ((b2.block _ (by omega)).trans (blk_alloc BK0.out _))
  have BK1 := Aside0.mk ((b2.block _ (by omega)).trans (blk_alloc BK1.out _))
  have HB := Aside0.mk ((HB.out.alloc (by omega) _).trans (b2.mono (by omega)))
  have hz2 : w1.heap.size ≤ w2.heap.size := by have := b2.size; simp at this; omega
  clear i2 b2
  have c10 := (blk_cell BK1.out 0).trans rfl
  have c11 := (blk_cell BK1.out 1).trans rfl
  have f1 := blk_frozen BK1.out
  go_wp2_with fail
  refine (Tryd.Buffer_WriteString w1.heap.size w1.heap.size _ (p.extract 1 p.size) w2 I2.out hz2 (Lib.byteCells_one _) (by rw [cells_len, HP.out.2.2]; have := HP.out.1; have := HP.out.2.1; omega)).mono ?_
  rintro e w3 ⟨rfl, i3, b3⟩
  rw [← Lib.byteCells_append] at i3
  have I3 := Aside0.mk i3
  have BK1 := Aside0.mk ((b3.block _ (by omega)).trans BK1.out)
  have HB := Aside0.mk (HB.out.trans (b3.mono (by omega)))
  clear i3 b3
  have c10 := (blk_cell BK1.out 0).trans rfl
  have c11 := (blk_cell BK1.out 1).trans rfl
  have f1 := blk_frozen BK1.out
  go_wp2
  have HE : Below w.heap.size w (((w3).setCell ⟨w.heap.size + 1, 0, none⟩ (.bool false)).setCell ⟨w.heap.size + 1, 1, none⟩ (.string ⟨#[]⟩)) := ((HB.out).setCell (by show w.heap.size ≤ w.heap.size + 1; omega) _).setCell (by show w.heap.size ≤ w.heap.size + 1; omega) _
  refine bodyPost_ret (results_ct rfl _ _ (w.heap.size + 1) 25 #[.bool false, .string ⟨#[]⟩] (0, 0) _ rfl (blk_put (cs := #[.bool false, .string ⟨#[]⟩]) (blk_put (cs := #[.bool false, .string ⟨#[]⟩]) (BK1.out) 0 _ rfl) 1 _ rfl) Tryd.underlying25 rfl (by kernel_rfl)) rfl ⟨ret2 (by rw [HV.out]), HE⟩
set_option maxHeartbeats 2000000 in
theorem hear_full_false (t p : ByteArray) (v : Int) (w : World) (HJ : Aside0 (∀ w, Calls Tryd.prog 14 #[.agg #[.bool true, .string t]] w fun e w' => e = .returned (.bool true) ∧ Below w.heap.size w w')) (h106 : t.size ≤ 106) (h2 : 2 ≤ p.size) (h21 : p.size ≤ 21) (hv : ((wrap64 (bt p 0)).tmod 64 != v) = false) (hf : (bits .and .i64 (wrap64 (bt p 0)) 64 != 0) = false) (hl : (bits .and .i64 (wrap64 (bt p 0)) 128 != 0) = false) (hm1 : 106 < (t ++ p.extract 1 p.size).size) :
    Calls Tryd.prog 10 #[.agg #[.bool true, .string t], .string p, .int .i64 v] w fun e w' => e = .returned (.tuple #[.agg #[.bool (hearV true false false t p).1, .string (hearV true false false t p).2.1], .string (hearV true false false t p).2.2]) ∧ Below w.heap.size w w' := by
  have d1 : decide ((p.size : Int) < 2) = false := decide_eq_false (by omega)
  have d2 : decide ((p.size : Int) > 21) = false := decide_eq_false (by omega)
  have d3 : decide (p.size < 2) = false := decide_eq_false (by omega)
  have d4 : decide (21 < p.size) = false := decide_eq_false (by omega)
  have d5 : (0 < (p.size : Int)) = True := eq_true (by omega)
  have d6 : (0 < p.size) = True := eq_true (by omega)
  have d7 : (1 ≤ p.size) = True := eq_true (by omega)
  have d8 : (1 ≤ (p.size : Int)) = True := eq_true (by omega)
  have d9 : decide (1 ≤ (p.size : Int)) = true := decide_eq_true (by omega)
  have hx : ∀ h : 0 < p.size, ((p[0]'h).toNat : Int) = bt p 0 := bt_at p 0
  have hps : (p.extract 1 p.size).size = p.size - 1 := by rw [ByteArray.size_extract]; omega
  have hce : came false t p = t ++ p.extract 1 p.size := by unfold came; rw [if_neg (by decide)]
  have HV := Aside0.mk (show hearV true false false t p = (false, (⟨#[]⟩ : ByteArray), (⟨#[]⟩ : ByteArray)) by unfold hearV; rw [if_pos (by decide), if_neg (by rw [hce]; omega)])
  obtain ⟨m, hm⟩ : ∃ m, m = (t ++ p.extract 1 p.size).size := ⟨_, rfl⟩
  have hcl : (Lib.byteCells (t.data.toList ++ (p.extract 1 p.size).data.toList)).length = m := by rw [hm, Lib.byteCells_append, List.length_append, cells_len, cells_len, ByteArray.size_append]
  have HL := Aside0.mk hcl
  have dl : decide ((m : Int) > 106) = true := decide_eq_true (by omega)
  have dm : decide (106 < m) = true := decide_eq_true (by omega)
  have HP := Aside0.mk (And.intro h106 (And.intro h21 hps))
  clear h2 h21 hps h106 hce hm hcl hm1
  go_enter Tryd.func10, Tryd.ntmps10
  go_wp2_with fail
  refine (HJ.out _).mono ?_
  rintro e w1 ⟨rfl, hb⟩
  have hz : w.heap.size + 1 < w1.heap.size := by have := hb.size; simp at this; omega
  have BK0 := Aside0.mk (blk_below (blk_alloc (blk_new w (.cells #[.bool _, .string t] 25)) _) hb)
  have BK1 := Aside0.mk (blk_below (blk_new _ _) hb)
  simp only [World.size_alloc] at BK1
  have HB := Aside0.mk (((((Below.refl w.heap.size w).alloc (Nat.le_refl _) _).alloc (by simp) _)).trans (hb.mono (by simp; omega)))
  clear hb
  have c00 := (blk_cell BK0.out 0).trans rfl
  have c01 := (blk_cell BK0.out 1).trans rfl
  have c10 := (blk_cell BK1.out 0).trans rfl
  have c11 := (blk_cell BK1.out 1).trans rfl
  have f0 := blk_frozen BK0.out
  have f1 := blk_frozen BK1.out
  have c01a : ∀ o' : Obj, (w1.alloc o').cell? ⟨w.heap.size, 1, none⟩ = some (.string t) := fun o' => (blk_cell (blk_alloc BK0.out o') 1).trans rfl
  go_wp2_with fail
  refine (Tryd.Buffer_WriteString w1.heap.size w1.heap.size [] t _ (Lib.fresh_isBuffer 46 5 w1) (by simp) (by simp) (by have := HP.out.1; simp; omega)).mono ?_
  rintro e w2 ⟨rfl, i2, b2⟩
  rw [List.nil_append] at i2
  have I2 := Aside0.mk i2
  have BK0 := Aside0.mk ((b2.block _ (by omega)).trans (blk_alloc BK0.out _))
  have BK1 := Aside0.mk ((b2.block _ (by omega)).trans (blk_alloc BK1.out _))
  have HB := Aside0.mk ((HB.out.alloc (by omega) _).trans (b2.mono (by omega)))
  have hz2 : w1.heap.size ≤ w2.heap.size := by have := b2.size; simp at this; omega
  clear i2 b2
  have c10 := (blk_cell BK1.out 0).trans rfl
  have c11 := (blk_cell BK1.out 1).trans rfl
  have f1 := blk_frozen BK1.out
  go_wp2_with fail
  refine (Tryd.Buffer_WriteString w1.heap.size w1.heap.size _ (p.extract 1 p.size) w2 I2.out hz2 (Lib.byteCells_one _) (by rw [cells_len, HP.out.2.2]; have := HP.out.1; have := HP.out.2.1; omega)).mono ?_
  rintro e w3 ⟨rfl, i3, b3⟩
  rw [← Lib.byteCells_append] at i3
  have I3 := Aside0.mk i3
  have BK1 := Aside0.mk ((b3.block _ (by omega)).trans BK1.out)
  have HB := Aside0.mk (HB.out.trans (b3.mono (by omega)))
  clear i3 b3
  have c10 := (blk_cell BK1.out 0).trans rfl
  have c11 := (blk_cell BK1.out 1).trans rfl
  have f1 := blk_frozen BK1.out
  go_wp2_with fail
  refine (Tryd.Buffer_Len w1.heap.size w1.heap.size _ _ I3.out).mono ?_
  rintro e w4 ⟨he, n3, rfl⟩
  rw [HL.out] at he
  subst he
  go_wp2
  have HE : Below w.heap.size w (((w3.drewN n3).setCell ⟨w.heap.size + 1, 0, none⟩ (.bool false)).setCell ⟨w.heap.size + 1, 1, none⟩ (.string ⟨#[]⟩)) := ((frame_drew HB.out).setCell (by show w.heap.size ≤ w.heap.size + 1; omega) _).setCell (by show w.heap.size ≤ w.heap.size + 1; omega) _
  refine bodyPost_ret (results_ct rfl _ _ (w.heap.size + 1) 25 #[.bool false, .string ⟨#[]⟩] (0, 0) _ rfl (blk_put (cs := #[.bool false, .string ⟨#[]⟩]) (blk_put (cs := #[.bool false, .string ⟨#[]⟩]) (blk_drewN BK1.out _) 0 _ rfl) 1 _ rfl) Tryd.underlying25 rfl (by kernel_rfl)) rfl ⟨ret2 (by rw [HV.out]), HE⟩
set_option maxHeartbeats 2000000 in
theorem hear_more_false (t p : ByteArray) (v : Int) (w : World) (HJ : Aside0 (∀ w, Calls Tryd.prog 14 #[.agg #[.bool true, .string t]] w fun e w' => e = .returned (.bool true) ∧ Below w.heap.size w w')) (h106 : t.size ≤ 106) (h2 : 2 ≤ p.size) (h21 : p.size ≤ 21) (hv : ((wrap64 (bt p 0)).tmod 64 != v) = false) (hf : (bits .and .i64 (wrap64 (bt p 0)) 64 != 0) = false) (hl : (bits .and .i64 (wrap64 (bt p 0)) 128 != 0) = false) (hm1 : (t ++ p.extract 1 p.size).size ≤ 106) :
    Calls Tryd.prog 10 #[.agg #[.bool true, .string t], .string p, .int .i64 v] w fun e w' => e = .returned (.tuple #[.agg #[.bool (hearV true false false t p).1, .string (hearV true false false t p).2.1], .string (hearV true false false t p).2.2]) ∧ Below w.heap.size w w' := by
  have d1 : decide ((p.size : Int) < 2) = false := decide_eq_false (by omega)
  have d2 : decide ((p.size : Int) > 21) = false := decide_eq_false (by omega)
  have d3 : decide (p.size < 2) = false := decide_eq_false (by omega)
  have d4 : decide (21 < p.size) = false := decide_eq_false (by omega)
  have d5 : (0 < (p.size : Int)) = True := eq_true (by omega)
  have d6 : (0 < p.size) = True := eq_true (by omega)
  have d7 : (1 ≤ p.size) = True := eq_true (by omega)
  have d8 : (1 ≤ (p.size : Int)) = True := eq_true (by omega)
  have d9 : decide (1 ≤ (p.size : Int)) = true := decide_eq_true (by omega)
  have hx : ∀ h : 0 < p.size, ((p[0]'h).toNat : Int) = bt p 0 := bt_at p 0
  have hps : (p.extract 1 p.size).size = p.size - 1 := by rw [ByteArray.size_extract]; omega
  have hce : came false t p = t ++ p.extract 1 p.size := by unfold came; rw [if_neg (by decide)]
  have HV := Aside0.mk (show hearV true false false t p = (true, t ++ p.extract 1 p.size, (⟨#[]⟩ : ByteArray)) by unfold hearV; rw [if_pos (by decide), if_pos (by rw [hce]; omega), hce]; rfl)
  obtain ⟨m, hm⟩ : ∃ m, m = (t ++ p.extract 1 p.size).size := ⟨_, rfl⟩
  have hcl : (Lib.byteCells (t.data.toList ++ (p.extract 1 p.size).data.toList)).length = m := by rw [hm, Lib.byteCells_append, List.length_append, cells_len, cells_len, ByteArray.size_append]
  have HL := Aside0.mk hcl
  have dl : decide ((m : Int) > 106) = false := decide_eq_false (by omega)
  have dm : decide (106 < m) = false := decide_eq_false (by omega)
  have HP := Aside0.mk (And.intro h106 (And.intro h21 hps))
  clear h2 h21 hps h106 hce hm hcl hm1
  go_enter Tryd.func10, Tryd.ntmps10
  go_wp2_with fail
  refine (HJ.out _).mono ?_
  rintro e w1 ⟨rfl, hb⟩
  have hz : w.heap.size + 1 < w1.heap.size := by have := hb.size; simp at this; omega
  have BK0 := Aside0.mk (blk_below (blk_alloc (blk_new w (.cells #[.bool _, .string t] 25)) _) hb)
  have BK1 := Aside0.mk (blk_below (blk_new _ _) hb)
  simp only [World.size_alloc] at BK1
  have HB := Aside0.mk (((((Below.refl w.heap.size w).alloc (Nat.le_refl _) _).alloc (by simp) _)).trans (hb.mono (by simp; omega)))
  clear hb
  have c00 := (blk_cell BK0.out 0).trans rfl
  have c01 := (blk_cell BK0.out 1).trans rfl
  have c10 := (blk_cell BK1.out 0).trans rfl
  have c11 := (blk_cell BK1.out 1).trans rfl
  have f0 := blk_frozen BK0.out
  have f1 := blk_frozen BK1.out
  have c01a : ∀ o' : Obj, (w1.alloc o').cell? ⟨w.heap.size, 1, none⟩ = some (.string t) := fun o' => (blk_cell (blk_alloc BK0.out o') 1).trans rfl
  go_wp2_with fail
  refine (Tryd.Buffer_WriteString w1.heap.size w1.heap.size [] t _ (Lib.fresh_isBuffer 46 5 w1) (by simp) (by simp) (by have := HP.out.1; simp; omega)).mono ?_
  rintro e w2 ⟨rfl, i2, b2⟩
  rw [List.nil_append] at i2
  have I2 := Aside0.mk i2
  have BK0 := Aside0.mk ((b2.block _ (by omega)).trans (blk_alloc BK0.out _))
  have BK1 := Aside0.mk ((b2.block _ (by omega)).trans (blk_alloc BK1.out _))
  have HB := Aside0.mk ((HB.out.alloc (by omega) _).trans (b2.mono (by omega)))
  have hz2 : w1.heap.size ≤ w2.heap.size := by have := b2.size; simp at this; omega
  clear i2 b2
  have c10 := (blk_cell BK1.out 0).trans rfl
  have c11 := (blk_cell BK1.out 1).trans rfl
  have f1 := blk_frozen BK1.out
  go_wp2_with fail
  refine (Tryd.Buffer_WriteString w1.heap.size w1.heap.size _ (p.extract 1 p.size) w2 I2.out hz2 (Lib.byteCells_one _) (by rw [cells_len, HP.out.2.2]; have := HP.out.1; have := HP.out.2.1; omega)).mono ?_
  rintro e w3 ⟨rfl, i3, b3⟩
  rw [← Lib.byteCells_append] at i3
  have I3 := Aside0.mk i3
  have BK1 := Aside0.mk ((b3.block _ (by omega)).trans BK1.out)
  have HB := Aside0.mk (HB.out.trans (b3.mono (by omega)))
  clear i3 b3
  have c10 := (blk_cell BK1.out 0).trans rfl
  have c11 := (blk_cell BK1.out 1).trans rfl
  have f1 := blk_frozen BK1.out
  go_wp2_with fail
  refine (Tryd.Buffer_Len w1.heap.size w1.heap.size _ _ I3.out).mono ?_
  rintro e w4 ⟨he, n3, rfl⟩
  rw [HL.out] at he
  subst he
  go_wp2_with fail
  refine (Tryd.Buffer_String w1.heap.size w1.heap.size (t.data.toList ++ (p.extract 1 p.size).data.toList) (w3.drewN n3) I3.out).mono ?_
  rintro e w5 ⟨he, n4, rfl⟩
  rw [bytes_back] at he
  subst he
  go_wp2
  have HE : Below w.heap.size w (((w3.drewN (n3 + n4)).setCell ⟨w.heap.size + 1, 0, none⟩ (.bool true)).setCell ⟨w.heap.size + 1, 1, none⟩ (.string (t ++ p.extract 1 p.size))) := ((frame_drew HB.out).setCell (by show w.heap.size ≤ w.heap.size + 1; omega) _).setCell (by show w.heap.size ≤ w.heap.size + 1; omega) _
  refine bodyPost_ret (results_ct rfl _ _ (w.heap.size + 1) 25 #[.bool true, .string (t ++ p.extract 1 p.size)] (0, 0) _ rfl (blk_put (cs := #[.bool true, .string ⟨#[]⟩]) (blk_put (cs := #[.bool false, .string ⟨#[]⟩]) (blk_drewN BK1.out _) 0 _ rfl) 1 _ rfl) Tryd.underlying25 rfl (by kernel_rfl)) rfl ⟨ret2 (by rw [HV.out]), HE⟩
set_option maxHeartbeats 2000000 in
theorem hear_closed_true (t p : ByteArray) (v : Int) (w : World) (HJ : Aside0 (∀ w, Calls Tryd.prog 14 #[.agg #[.bool false, .string t]] w fun e w' => e = .returned (.bool true) ∧ Below w.heap.size w w')) (h106 : t.size ≤ 106) (h2 : 2 ≤ p.size) (h21 : p.size ≤ 21) (hv : ((wrap64 (bt p 0)).tmod 64 != v) = false) (hf : (bits .and .i64 (wrap64 (bt p 0)) 64 != 0) = false) (hl : (bits .and .i64 (wrap64 (bt p 0)) 128 != 0) = true) :
    Calls Tryd.prog 10 #[.agg #[.bool false, .string t], .string p, .int .i64 v] w fun e w' => e = .returned (.tuple #[.agg #[.bool (hearV false false true t p).1, .string (hearV false false true t p).2.1], .string (hearV false false true t p).2.2]) ∧ Below w.heap.size w w' := by
  have d1 : decide ((p.size : Int) < 2) = false := decide_eq_false (by omega)
  have d2 : decide ((p.size : Int) > 21) = false := decide_eq_false (by omega)
  have d3 : decide (p.size < 2) = false := decide_eq_false (by omega)
  have d4 : decide (21 < p.size) = false := decide_eq_false (by omega)
  have d5 : (0 < (p.size : Int)) = True := eq_true (by omega)
  have d6 : (0 < p.size) = True := eq_true (by omega)
  have d7 : (1 ≤ p.size) = True := eq_true (by omega)
  have d8 : (1 ≤ (p.size : Int)) = True := eq_true (by omega)
  have d9 : decide (1 ≤ (p.size : Int)) = true := decide_eq_true (by omega)
  have hx : ∀ h : 0 < p.size, ((p[0]'h).toNat : Int) = bt p 0 := bt_at p 0
  have hps : (p.extract 1 p.size).size = p.size - 1 := by rw [ByteArray.size_extract]; omega
  have hce : came false t p = t ++ p.extract 1 p.size := by unfold came; rw [if_neg (by decide)]
  have HV := Aside0.mk (show hearV false false true t p = (false, (⟨#[]⟩ : ByteArray), (⟨#[]⟩ : ByteArray)) from if_neg (by decide))
  have HP := Aside0.mk (And.intro h106 (And.intro h21 hps))
  clear h2 h21 hps h106 hce
  go_enter Tryd.func10, Tryd.ntmps10
  go_wp2_with fail
  refine (HJ.out _).mono ?_
  rintro e w1 ⟨rfl, hb⟩
  have hz : w.heap.size + 1 < w1.heap.size := by have := hb.size; simp at this; omega
  have BK0 := Aside0.mk (blk_below (blk_alloc (blk_new w (.cells #[.bool _, .string t] 25)) _) hb)
  have BK1 := Aside0.mk (blk_below (blk_new _ _) hb)
  simp only [World.size_alloc] at BK1
  have HB := Aside0.mk (((((Below.refl w.heap.size w).alloc (Nat.le_refl _) _).alloc (by simp) _)).trans (hb.mono (by simp; omega)))
  clear hb
  have c00 := (blk_cell BK0.out 0).trans rfl
  have c01 := (blk_cell BK0.out 1).trans rfl
  have c10 := (blk_cell BK1.out 0).trans rfl
  have c11 := (blk_cell BK1.out 1).trans rfl
  have f0 := blk_frozen BK0.out
  have f1 := blk_frozen BK1.out
  have c01a : ∀ o' : Obj, (w1.alloc o').cell? ⟨w.heap.size, 1, none⟩ = some (.string t) := fun o' => (blk_cell (blk_alloc BK0.out o') 1).trans rfl
  go_wp2_with fail
  refine (Tryd.Buffer_WriteString w1.heap.size w1.heap.size [] t _ (Lib.fresh_isBuffer 46 5 w1) (by simp) (by simp) (by have := HP.out.1; simp; omega)).mono ?_
  rintro e w2 ⟨rfl, i2, b2⟩
  rw [List.nil_append] at i2
  have I2 := Aside0.mk i2
  have BK0 := Aside0.mk ((b2.block _ (by omega)).trans (blk_alloc BK0.out _))
  have BK1 := Aside0.mk ((b2.block _ (by omega)).trans (blk_alloc BK1.out _))
  have HB := Aside0.mk ((HB.out.alloc (by omega) _).trans (b2.mono (by omega)))
  have hz2 : w1.heap.size ≤ w2.heap.size := by have := b2.size; simp at this; omega
  clear i2 b2
  have c10 := (blk_cell BK1.out 0).trans rfl
  have c11 := (blk_cell BK1.out 1).trans rfl
  have f1 := blk_frozen BK1.out
  go_wp2_with fail
  refine (Tryd.Buffer_WriteString w1.heap.size w1.heap.size _ (p.extract 1 p.size) w2 I2.out hz2 (Lib.byteCells_one _) (by rw [cells_len, HP.out.2.2]; have := HP.out.1; have := HP.out.2.1; omega)).mono ?_
  rintro e w3 ⟨rfl, i3, b3⟩
  rw [← Lib.byteCells_append] at i3
  have I3 := Aside0.mk i3
  have BK1 := Aside0.mk ((b3.block _ (by omega)).trans BK1.out)
  have HB := Aside0.mk (HB.out.trans (b3.mono (by omega)))
  clear i3 b3
  have c10 := (blk_cell BK1.out 0).trans rfl
  have c11 := (blk_cell BK1.out 1).trans rfl
  have f1 := blk_frozen BK1.out
  go_wp2
  have HE : Below w.heap.size w (((w3).setCell ⟨w.heap.size + 1, 0, none⟩ (.bool false)).setCell ⟨w.heap.size + 1, 1, none⟩ (.string ⟨#[]⟩)) := ((HB.out).setCell (by show w.heap.size ≤ w.heap.size + 1; omega) _).setCell (by show w.heap.size ≤ w.heap.size + 1; omega) _
  refine bodyPost_ret (results_ct rfl _ _ (w.heap.size + 1) 25 #[.bool false, .string ⟨#[]⟩] (0, 0) _ rfl (blk_put (cs := #[.bool false, .string ⟨#[]⟩]) (blk_put (cs := #[.bool false, .string ⟨#[]⟩]) (BK1.out) 0 _ rfl) 1 _ rfl) Tryd.underlying25 rfl (by kernel_rfl)) rfl ⟨ret2 (by rw [HV.out]), HE⟩
set_option maxHeartbeats 2000000 in
theorem hear_full_true (t p : ByteArray) (v : Int) (w : World) (HJ : Aside0 (∀ w, Calls Tryd.prog 14 #[.agg #[.bool true, .string t]] w fun e w' => e = .returned (.bool true) ∧ Below w.heap.size w w')) (h106 : t.size ≤ 106) (h2 : 2 ≤ p.size) (h21 : p.size ≤ 21) (hv : ((wrap64 (bt p 0)).tmod 64 != v) = false) (hf : (bits .and .i64 (wrap64 (bt p 0)) 64 != 0) = false) (hl : (bits .and .i64 (wrap64 (bt p 0)) 128 != 0) = true) (hm1 : 106 < (t ++ p.extract 1 p.size).size) :
    Calls Tryd.prog 10 #[.agg #[.bool true, .string t], .string p, .int .i64 v] w fun e w' => e = .returned (.tuple #[.agg #[.bool (hearV true false true t p).1, .string (hearV true false true t p).2.1], .string (hearV true false true t p).2.2]) ∧ Below w.heap.size w w' := by
  have d1 : decide ((p.size : Int) < 2) = false := decide_eq_false (by omega)
  have d2 : decide ((p.size : Int) > 21) = false := decide_eq_false (by omega)
  have d3 : decide (p.size < 2) = false := decide_eq_false (by omega)
  have d4 : decide (21 < p.size) = false := decide_eq_false (by omega)
  have d5 : (0 < (p.size : Int)) = True := eq_true (by omega)
  have d6 : (0 < p.size) = True := eq_true (by omega)
  have d7 : (1 ≤ p.size) = True := eq_true (by omega)
  have d8 : (1 ≤ (p.size : Int)) = True := eq_true (by omega)
  have d9 : decide (1 ≤ (p.size : Int)) = true := decide_eq_true (by omega)
  have hx : ∀ h : 0 < p.size, ((p[0]'h).toNat : Int) = bt p 0 := bt_at p 0
  have hps : (p.extract 1 p.size).size = p.size - 1 := by rw [ByteArray.size_extract]; omega
  have hce : came false t p = t ++ p.extract 1 p.size := by unfold came; rw [if_neg (by decide)]
  have HV := Aside0.mk (show hearV true false true t p = (false, (⟨#[]⟩ : ByteArray), (⟨#[]⟩ : ByteArray)) by unfold hearV; rw [if_pos (by decide), if_neg (by rw [hce]; omega)])
  obtain ⟨m, hm⟩ : ∃ m, m = (t ++ p.extract 1 p.size).size := ⟨_, rfl⟩
  have hcl : (Lib.byteCells (t.data.toList ++ (p.extract 1 p.size).data.toList)).length = m := by rw [hm, Lib.byteCells_append, List.length_append, cells_len, cells_len, ByteArray.size_append]
  have HL := Aside0.mk hcl
  have dl : decide ((m : Int) > 106) = true := decide_eq_true (by omega)
  have dm : decide (106 < m) = true := decide_eq_true (by omega)
  have HP := Aside0.mk (And.intro h106 (And.intro h21 hps))
  clear h2 h21 hps h106 hce hm hcl hm1
  go_enter Tryd.func10, Tryd.ntmps10
  go_wp2_with fail
  refine (HJ.out _).mono ?_
  rintro e w1 ⟨rfl, hb⟩
  have hz : w.heap.size + 1 < w1.heap.size := by have := hb.size; simp at this; omega
  have BK0 := Aside0.mk (blk_below (blk_alloc (blk_new w (.cells #[.bool _, .string t] 25)) _) hb)
  have BK1 := Aside0.mk (blk_below (blk_new _ _) hb)
  simp only [World.size_alloc] at BK1
  have HB := Aside0.mk (((((Below.refl w.heap.size w).alloc (Nat.le_refl _) _).alloc (by simp) _)).trans (hb.mono (by simp; omega)))
  clear hb
  have c00 := (blk_cell BK0.out 0).trans rfl
  have c01 := (blk_cell BK0.out 1).trans rfl
  have c10 := (blk_cell BK1.out 0).trans rfl
  have c11 := (blk_cell BK1.out 1).trans rfl
  have f0 := blk_frozen BK0.out
  have f1 := blk_frozen BK1.out
  have c01a : ∀ o' : Obj, (w1.alloc o').cell? ⟨w.heap.size, 1, none⟩ = some (.string t) := fun o' => (blk_cell (blk_alloc BK0.out o') 1).trans rfl
  go_wp2_with fail
  refine (Tryd.Buffer_WriteString w1.heap.size w1.heap.size [] t _ (Lib.fresh_isBuffer 46 5 w1) (by simp) (by simp) (by have := HP.out.1; simp; omega)).mono ?_
  rintro e w2 ⟨rfl, i2, b2⟩
  rw [List.nil_append] at i2
  have I2 := Aside0.mk i2
  have BK0 := Aside0.mk ((b2.block _ (by omega)).trans (blk_alloc BK0.out _))
  have BK1 := Aside0.mk ((b2.block _ (by omega)).trans (blk_alloc BK1.out _))
  have HB := Aside0.mk ((HB.out.alloc (by omega) _).trans (b2.mono (by omega)))
  have hz2 : w1.heap.size ≤ w2.heap.size := by have := b2.size; simp at this; omega
  clear i2 b2
  have c10 := (blk_cell BK1.out 0).trans rfl
  have c11 := (blk_cell BK1.out 1).trans rfl
  have f1 := blk_frozen BK1.out
  go_wp2_with fail
  refine (Tryd.Buffer_WriteString w1.heap.size w1.heap.size _ (p.extract 1 p.size) w2 I2.out hz2 (Lib.byteCells_one _) (by rw [cells_len, HP.out.2.2]; have := HP.out.1; have := HP.out.2.1; omega)).mono ?_
  rintro e w3 ⟨rfl, i3, b3⟩
  rw [← Lib.byteCells_append] at i3
  have I3 := Aside0.mk i3
  have BK1 := Aside0.mk ((b3.block _ (by omega)).trans BK1.out)
  have HB := Aside0.mk (HB.out.trans (b3.mono (by omega)))
  clear i3 b3
  have c10 := (blk_cell BK1.out 0).trans rfl
  have c11 := (blk_cell BK1.out 1).trans rfl
  have f1 := blk_frozen BK1.out
  go_wp2_with fail
  refine (Tryd.Buffer_Len w1.heap.size w1.heap.size _ _ I3.out).mono ?_
  rintro e w4 ⟨he, n3, rfl⟩
  rw [HL.out] at he
  subst he
  go_wp2
  have HE : Below w.heap.size w (((w3.drewN n3).setCell ⟨w.heap.size + 1, 0, none⟩ (.bool false)).setCell ⟨w.heap.size + 1, 1, none⟩ (.string ⟨#[]⟩)) := ((frame_drew HB.out).setCell (by show w.heap.size ≤ w.heap.size + 1; omega) _).setCell (by show w.heap.size ≤ w.heap.size + 1; omega) _
  refine bodyPost_ret (results_ct rfl _ _ (w.heap.size + 1) 25 #[.bool false, .string ⟨#[]⟩] (0, 0) _ rfl (blk_put (cs := #[.bool false, .string ⟨#[]⟩]) (blk_put (cs := #[.bool false, .string ⟨#[]⟩]) (blk_drewN BK1.out _) 0 _ rfl) 1 _ rfl) Tryd.underlying25 rfl (by kernel_rfl)) rfl ⟨ret2 (by rw [HV.out]), HE⟩
set_option maxHeartbeats 2000000 in
theorem hear_more_true (t p : ByteArray) (v : Int) (w : World) (HJ : Aside0 (∀ w, Calls Tryd.prog 14 #[.agg #[.bool true, .string t]] w fun e w' => e = .returned (.bool true) ∧ Below w.heap.size w w')) (h106 : t.size ≤ 106) (h2 : 2 ≤ p.size) (h21 : p.size ≤ 21) (hv : ((wrap64 (bt p 0)).tmod 64 != v) = false) (hf : (bits .and .i64 (wrap64 (bt p 0)) 64 != 0) = false) (hl : (bits .and .i64 (wrap64 (bt p 0)) 128 != 0) = true) (hm1 : (t ++ p.extract 1 p.size).size ≤ 106) :
    Calls Tryd.prog 10 #[.agg #[.bool true, .string t], .string p, .int .i64 v] w fun e w' => e = .returned (.tuple #[.agg #[.bool (hearV true false true t p).1, .string (hearV true false true t p).2.1], .string (hearV true false true t p).2.2]) ∧ Below w.heap.size w w' := by
  have d1 : decide ((p.size : Int) < 2) = false := decide_eq_false (by omega)
  have d2 : decide ((p.size : Int) > 21) = false := decide_eq_false (by omega)
  have d3 : decide (p.size < 2) = false := decide_eq_false (by omega)
  have d4 : decide (21 < p.size) = false := decide_eq_false (by omega)
  have d5 : (0 < (p.size : Int)) = True := eq_true (by omega)
  have d6 : (0 < p.size) = True := eq_true (by omega)
  have d7 : (1 ≤ p.size) = True := eq_true (by omega)
  have d8 : (1 ≤ (p.size : Int)) = True := eq_true (by omega)
  have d9 : decide (1 ≤ (p.size : Int)) = true := decide_eq_true (by omega)
  have hx : ∀ h : 0 < p.size, ((p[0]'h).toNat : Int) = bt p 0 := bt_at p 0
  have hps : (p.extract 1 p.size).size = p.size - 1 := by rw [ByteArray.size_extract]; omega
  have hce : came false t p = t ++ p.extract 1 p.size := by unfold came; rw [if_neg (by decide)]
  have HV := Aside0.mk (show hearV true false true t p = (false, (⟨#[]⟩ : ByteArray), t ++ p.extract 1 p.size) by unfold hearV; rw [if_pos (by decide), if_pos (by rw [hce]; omega), hce]; rfl)
  obtain ⟨m, hm⟩ : ∃ m, m = (t ++ p.extract 1 p.size).size := ⟨_, rfl⟩
  have hcl : (Lib.byteCells (t.data.toList ++ (p.extract 1 p.size).data.toList)).length = m := by rw [hm, Lib.byteCells_append, List.length_append, cells_len, cells_len, ByteArray.size_append]
  have HL := Aside0.mk hcl
  have dl : decide ((m : Int) > 106) = false := decide_eq_false (by omega)
  have dm : decide (106 < m) = false := decide_eq_false (by omega)
  have HP := Aside0.mk (And.intro h106 (And.intro h21 hps))
  clear h2 h21 hps h106 hce hm hcl hm1
  go_enter Tryd.func10, Tryd.ntmps10
  go_wp2_with fail
  refine (HJ.out _).mono ?_
  rintro e w1 ⟨rfl, hb⟩
  have hz : w.heap.size + 1 < w1.heap.size := by have := hb.size; simp at this; omega
  have BK0 := Aside0.mk (blk_below (blk_alloc (blk_new w (.cells #[.bool _, .string t] 25)) _) hb)
  have BK1 := Aside0.mk (blk_below (blk_new _ _) hb)
  simp only [World.size_alloc] at BK1
  have HB := Aside0.mk (((((Below.refl w.heap.size w).alloc (Nat.le_refl _) _).alloc (by simp) _)).trans (hb.mono (by simp; omega)))
  clear hb
  have c00 := (blk_cell BK0.out 0).trans rfl
  have c01 := (blk_cell BK0.out 1).trans rfl
  have c10 := (blk_cell BK1.out 0).trans rfl
  have c11 := (blk_cell BK1.out 1).trans rfl
  have f0 := blk_frozen BK0.out
  have f1 := blk_frozen BK1.out
  have c01a : ∀ o' : Obj, (w1.alloc o').cell? ⟨w.heap.size, 1, none⟩ = some (.string t) := fun o' => (blk_cell (blk_alloc BK0.out o') 1).trans rfl
  go_wp2_with fail
  refine (Tryd.Buffer_WriteString w1.heap.size w1.heap.size [] t _ (Lib.fresh_isBuffer 46 5 w1) (by simp) (by simp) (by have := HP.out.1; simp; omega)).mono ?_
  rintro e w2 ⟨rfl, i2, b2⟩
  rw [List.nil_append] at i2
  have I2 := Aside0.mk i2
  have BK0 := Aside0.mk ((b2.block _ (by omega)).trans (blk_alloc BK0.out _))
  have BK1 := Aside0.mk ((b2.block _ (by omega)).trans (blk_alloc BK1.out _))
  have HB := Aside0.mk ((HB.out.alloc (by omega) _).trans (b2.mono (by omega)))
  have hz2 : w1.heap.size ≤ w2.heap.size := by have := b2.size; simp at this; omega
  clear i2 b2
  have c10 := (blk_cell BK1.out 0).trans rfl
  have c11 := (blk_cell BK1.out 1).trans rfl
  have f1 := blk_frozen BK1.out
  go_wp2_with fail
  refine (Tryd.Buffer_WriteString w1.heap.size w1.heap.size _ (p.extract 1 p.size) w2 I2.out hz2 (Lib.byteCells_one _) (by rw [cells_len, HP.out.2.2]; have := HP.out.1; have := HP.out.2.1; omega)).mono ?_
  rintro e w3 ⟨rfl, i3, b3⟩
  rw [← Lib.byteCells_append] at i3
  have I3 := Aside0.mk i3
  have BK1 := Aside0.mk ((b3.block _ (by omega)).trans BK1.out)
  have HB := Aside0.mk (HB.out.trans (b3.mono (by omega)))
  clear i3 b3
  have c10 := (blk_cell BK1.out 0).trans rfl
  have c11 := (blk_cell BK1.out 1).trans rfl
  have f1 := blk_frozen BK1.out
  go_wp2_with fail
  refine (Tryd.Buffer_Len w1.heap.size w1.heap.size _ _ I3.out).mono ?_
  rintro e w4 ⟨he, n3, rfl⟩
  rw [HL.out] at he
  subst he
  go_wp2_with fail
  refine (Tryd.Buffer_String w1.heap.size w1.heap.size (t.data.toList ++ (p.extract 1 p.size).data.toList) (w3.drewN n3) I3.out).mono ?_
  rintro e w5 ⟨he, n4, rfl⟩
  rw [bytes_back] at he
  subst he
  go_wp2
  have HE : Below w.heap.size w (((w3.drewN (n3 + n4)).setCell ⟨w.heap.size + 1, 0, none⟩ (.bool false)).setCell ⟨w.heap.size + 1, 1, none⟩ (.string ⟨#[]⟩)) := ((frame_drew HB.out).setCell (by show w.heap.size ≤ w.heap.size + 1; omega) _).setCell (by show w.heap.size ≤ w.heap.size + 1; omega) _
  refine bodyPost_ret (results_ct rfl _ _ (w.heap.size + 1) 25 #[.bool false, .string ⟨#[]⟩] (0, 0) _ rfl (blk_put (cs := #[.bool false, .string ⟨#[]⟩]) (blk_put (cs := #[.bool false, .string ⟨#[]⟩]) (blk_drewN BK1.out _) 0 _ rfl) 1 _ rfl) Tryd.underlying25 rfl (by kernel_rfl)) rfl ⟨ret2 (by rw [HV.out]), HE⟩
end Go.Proofs.YtondhdiipaijiaaDoor.HSeg
