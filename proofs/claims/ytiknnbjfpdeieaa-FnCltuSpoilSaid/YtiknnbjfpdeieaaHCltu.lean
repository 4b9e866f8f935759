/- Code blocks written (CltuPut) and read (CltuGet): what they come to. Conditions: Bch's answer at seven bytes is known. -/
import Derived.Test.YtiknnbjfpdeieaaProg
import Derived.Below
import Derived.Deep.Draws
import Derived.Deep.AppendLies
import Derived.Maps.AppendAt
import Derived.OwnWalk
import Derived.Laws.BytesArg
import Derived.Laws.MakeOwn
import Derived.Laws.OwnMore
import Derived.Deep.OwnRows
import Derived.Tactics
import Derived.Lib.ConvBytes
import Derived.Laws.Slices
import Derived.WalkKit
import Derived.KernelRfl
import Derived.RowKit3
import Derived.Deep.LoopGhost
import Derived.Deep.QuietTactic
import Derived.BigQuiet
import Derived.WideLaws
import Derived.Deep.DeepCutAuto
import Derived.Deep.CutBlock
import Derived.Deep.RegionHeld3
import Derived.Laws.Rows
import Derived.Lib.AppendStr
import Derived.ArgAppend
import Derived.Laws.IdiomCopy
import Derived.OrdersHeld
import Derived.Laws.BitsLemmas
import Derived.RowKit
import Derived.Test.YtiknnbjfpdeieaaWWords
import Derived.Test.YtiknnbjfpdeieaaWLast
import Derived.Test.YtiknnbjfpdeieaaWTab
import Derived.Test.YtiknnbjfpdeieaaWFour
import Derived.Test.YtiknnbjfpdeieaaWQPut
import Derived.Test.YtiknnbjfpdeieaaWApart
import Derived.Test.YtiknnbjfpdeieaaWArr
import Derived.Test.YtiknnbjfpdeieaaWZeros
import Derived.Test.YtiknnbjfpdeieaaWFoot
import Derived.Test.YtiknnbjfpdeieaaWKept
import Derived.Test.YtiknnbjfpdeieaaWShare
import Derived.Test.YtiknnbjfpdeieaaWN
import Derived.Test.YtiknnbjfpdeieaaWFootNe
import Derived.Test.YtiknnbjfpdeieaaWAt
import Derived.Test.YtiknnbjfpdeieaaWEqStruct
import Derived.Test.YtiknnbjfpdeieaaWRepsOne
import Derived.Test.YtiknnbjfpdeieaaWInv
import Derived.Test.YtiknnbjfpdeieaaWInvWords
import Derived.Test.YtiknnbjfpdeieaaWGuard
import Derived.Test.YtiknnbjfpdeieaaWNEv
import Derived.Test.YtiknnbjfpdeieaaWMore
import Derived.Laws.ResultCell
import Derived.Lib.Hide
import Derived.Lib.Repeat
import Derived.Test.YtiknnbjfpdeieaaShelf
import Derived.Test.YtiknnbjfpdeieaaAux
namespace Go.Proofs.Ytiknnbjfpdeieaa.HCltu
open Go Go.RowKit Go.Proofs.YtiknnbjfpdeieaaW.PrintWords Go.Proofs.YtiknnbjfpdeieaaW.PrintLast Go.Proofs.YtiknnbjfpdeieaaW.PrintMore Go.Proofs.Ytiknnbjfpdeieaa.Aux
set_option linter.unusedVariables false
set_option linter.unusedSimpArgs false
def start : ByteArray := ⟨#[235, 144]⟩
def fin : ByteArray := ⟨#[197, 197, 197, 197, 197, 197, 197, 121]⟩
def one (x : Int) : ByteArray := strOfNums [x % 256]
/-- So many code blocks. -/
def runs (v : ByteArray → Int) : Nat → ByteArray → ByteArray
  | 0, _ => ⟨#[]⟩
  | m + 1, r => ((r.extract 0 7) ++ one (v (r.extract 0 7))) ++ runs v m (r.extract 7 r.size)
def fill (c : Nat) : ByteArray := ⟨(Lib.repeatL [85] c).toArray⟩
/-- A text with what fills its last block. -/
def pad (t : ByteArray) : ByteArray := if t.size % 7 = 0 then t else t ++ fill (7 - t.size % 7)
/-- CltuPut's answer. -/
def put (v : ByteArray → Int) (t : ByteArray) : ByteArray := if 1 ≤ t.size ∧ t.size ≤ 63 then (start ++ runs v ((pad t).size / 7) (pad t)) ++ fin else ⟨#[]⟩
def textLen : Value → Nat
  | .string s => s.size
  | _ => 0
theorem tmod7 (n : Nat) : Int.tmod (n : Int) 7 = ((n % 7 : Nat) : Int) := by rw [tmodp (by omega)]; omega
theorem fill_size (q : Nat) : (fill q).size = q := by
  show (Lib.repeatL [85] q).toArray.size = q
  rw [List.size_toArray, Lib.repeatL_length]
  simp
theorem ne_nil {s : ByteArray} (h : 0 < s.size) : s.toList ≠ [] := by
  intro e
  have h2 : s.data.toList = [] := by
    rw [← Lib.toList_data s]
    exact e
  have h3 : s.data.size = 0 := by
    have := congrArg List.length h2
    simpa using this
  have : s.size = s.data.size := rfl
  omega
/-- Between two rounds: what is left, what is written. -/
def Inv (v : ByteArray → Int) (T : ByteArray) (M b : Nat) (w : World) (m : Nat) (r acc : ByteArray) (wr : World) : Prop :=
  r.size = 7 * m ∧ m ≤ M ∧ acc ++ runs v m r = start ++ runs v M T ∧ acc.size + 8 * m ≤ 80 ∧ Lib.BuilderAt 39 5 b b (.pointer (some ⟨b, 0, none⟩)) (Lib.byteCells acc.data.toList) wr ∧ Below w.heap.size w wr
theorem bytes_back (a b : ByteArray) : (⟨(a.data.toList ++ b.data.toList).toArray⟩ : ByteArray) = a ++ b := by
  apply ByteArray.ext
  simp
theorem cells_add (a b : ByteArray) : Lib.byteCells a.data.toList ++ Lib.strCells b = Lib.byteCells (a ++ b).data.toList := by
  rw [Lib.strCells_eq, ← Lib.byteCells_append]
  exact congrArg Lib.byteCells (by simp)
theorem one_cells (x : Int) : [Value.int .u8 (x % 256)] = Lib.strCells (one x) := by
  have h0 : 0 ≤ x % 256 := by omega
  have h1 : x % 256 < 256 := by omega
  have e : ((UInt8.ofNat (x % 256).toNat).toNat : Int) = x % 256 := by
    rw [UInt8.toNat_ofNat']
    omega
  show [Value.int .u8 (x % 256)] = [Value.int .u8 ((UInt8.ofNat (x % 256).toNat).toNat : Int)]
  rw [e]
theorem cells_len (a : ByteArray) : (Lib.byteCells a.data.toList).length = a.size := by rw [Lib.byteCells_length, ← Lib.size_eq]
theorem one_size (x : Int) : (one x).size = 1 := rfl
theorem ret1 {a b : ByteArray} (h : a = b) : Ending.returned (.string a) = .returned (.string b) := by rw [h]
theorem head7 {r : ByteArray} {m : Nat} (h : r.size = 7 * (m + 1)) : (r.extract 0 7).size = 7 ∧ (r.extract 7 r.size).size = 7 * m := by
  rw [ByteArray.size_extract, ByteArray.size_extract]
  omega
theorem frame_drew {B : Nat} {w w' : World} {n : Nat} (h : Below B w w') : Below B w (w'.drewN n) := h.trans ⟨rfl, rfl, rfl, Nat.le_refl _, fun _ _ => rfl⟩
set_option maxHeartbeats 4000000 in
theorem put_any (v : ByteArray → Int) (t : ByteArray) (w : World) (HV : Aside0 (∀ s w, s.size = 7 → Calls Try.prog 17 #[.string s] w fun e w' => e = .returned (.int .i64 (v s)) ∧ ∃ n, w' = w.drewN n)) (h1 : 1 ≤ t.size) (h63 : t.size ≤ 63) :
    Calls Try.prog 10 #[.string t] w fun e w' => e = .returned (.string (put v t)) ∧ Below w.heap.size w w' := by
  have d1 : decide ((t.size : Int) < 1) = false := decide_eq_false (by omega)
  have d2 : decide ((t.size : Int) > 63) = false := decide_eq_false (by omega)
  have d3 : decide (t.size < 1) = false := decide_eq_false (by omega)
  have d4 : decide (63 < t.size) = false := decide_eq_false (by omega)
  have hm := tmod7 t.size
  have hm7 : t.size % 7 < 7 := Nat.mod_lt _ (by decide)
  by_cases hr : t.size % 7 = 0
  · obtain ⟨M, hM⟩ : ∃ M, t.size = 7 * M := ⟨t.size / 7, by omega⟩
    have HM := Aside0.mk (show M ≤ 9 by omega)
    have HT := Aside0.mk hM
    have HR := Aside0.mk (show put v t = (start ++ runs v M t) ++ fin by unfold put pad; rw [if_pos ⟨h1, h63⟩, if_pos hr, show t.size / 7 = M by omega])
    rw [hr] at hm
    clear h1 h63 hm7 hr hM
    go_enter Try.func10, Try.ntmps10
    go_wp2_with fail
    refine (Try.Builder_WriteString w.heap.size w.heap.size [] start _ (Lib.fresh_isBuilder 39 5 w) (by show 0 + 2 ≤ _; decide) (by simp)).mono ?_
    rintro e w2 ⟨rfl, i2, b2⟩
    have hz : w.heap.size < w2.heap.size := i2.lt
    have I2 := Aside0.mk i2
    have HB := Aside0.mk (((Below.refl w.heap.size w).alloc ((Nat.le_refl _)) _).trans (b2.mono (Nat.le_refl _)))
    clear i2 b2
    go_wp2_with fail
    go_loopw [0] (fun x0 wr => ∃ (m : Nat) (r acc : ByteArray), x0 = .string r ∧ Inv v t M w.heap.size w m r acc wr) (fun x0 wr => textLen x0)
    case atStart =>
      exact ⟨M, t, start, rfl, HT.out, Nat.le_refl _, rfl, by have := HM.out; show 2 + 8 * M ≤ 80; omega, I2.out, HB.out⟩
    case round =>
      obtain ⟨m, r, acc, rfl, hI⟩ := hrel
      obtain ⟨hs, hmM, hacc, h80, hB, hBel⟩ := hI
      have HA := Aside0.mk hacc
      have HI := Aside0.mk hB
      have HBe := Aside0.mk hBel
      have hw := hB.lt
      clear hacc hB hBel
      cases m with
      | zero =>
        have hr0 : r = ⟨#[]⟩ := by
          apply ByteArray.ext
          exact Array.eq_empty_of_size_eq_zero hs
        subst hr0
        clear hs
        go_wp2_with fail
        refine (Try.Builder_WriteString w.heap.size w.heap.size _ fin _ (Or.inr HI.out) (by rw [cells_len]; show acc.size + 8 ≤ _; omega) (by omega)).mono ?_
        rintro e w4 ⟨rfl, i4, b4⟩
        rw [cells_add] at i4
        have I4 := Aside0.mk i4
        have hz4 := i4.lt
        have HB4 := Aside0.mk (HBe.out.trans (b4.mono (Nat.le_refl _)))
        clear i4 b4
        go_wp2_with fail
        refine (Try.Builder_String_any w.heap.size w.heap.size (acc ++ fin).data.toList _ (Or.inr I4.out) (by omega)).mono ?_
        rintro e w5 ⟨he, b5⟩
        rw [show (⟨(acc ++ fin).data.toList.toArray⟩ : ByteArray) = acc ++ fin from by apply ByteArray.ext; simp] at he
        subst he
        have HB5 := Aside0.mk (HB4.out.trans (b5.mono (Nat.le_refl _)))
        clear b5
        go_wp2
        go_ret
        refine ⟨ret1 ?_, HB5.out⟩
        have h := HA.out
        rw [show runs v 0 ⟨#[]⟩ = (⟨#[]⟩ : ByteArray) from rfl, str_append_nil] at h
        rw [h, HR.out]
      | succ m =>
        have hne : r.toList ≠ [] := ne_nil (by omega)
        have g1 : (r.toList == []) = false := by rw [beq_eq_false_iff_ne]; exact hne
        have g2 : (r.toList != []) = true := by rw [bne_iff_ne]; exact hne
        have g3 : (7 ≤ (r.size : Int)) = True := eq_true (by omega)
        have g4 : decide (7 ≤ (r.size : Int)) = true := decide_eq_true (by omega)
        have g5 : (7 ≤ r.size) = True := eq_true (by omega)
        have HS := Aside0.mk hs
        clear hs hne
        obtain ⟨hd7, htl⟩ := head7 HS.out
        have HD := Aside0.mk hd7
        have HTL := Aside0.mk htl
        clear hd7 htl
        go_wp2_with fail
        refine (Try.Builder_WriteString w.heap.size w.heap.size _ (r.extract 0 7) _ (Or.inr HI.out) (by rw [cells_len, HD.out]; omega) (by omega)).mono ?_
        rintro e w4 ⟨rfl, i4, b4⟩
        rw [cells_add] at i4
        have I4 := Aside0.mk i4
        have hz4 := i4.lt
        have HB4 := Aside0.mk (HBe.out.trans (b4.mono (Nat.le_refl _)))
        clear i4 b4
        go_wp2_with fail
        refine (HV.out (r.extract 0 7) _ HD.out).mono ?_
        rintro e w5 ⟨rfl, n5, rfl⟩
        go_wp2_with fail
        refine (Try.Builder_WriteByte w.heap.size w.heap.size _ _ (w4.drewN n5) (Or.inr I4.out) (by rw [cells_len, ByteArray.size_append, HD.out]; omega) (by show w.heap.size ≤ w4.heap.size; omega)).mono ?_
        rintro e w6 ⟨rfl, i6, b6⟩
        rw [one_cells, cells_add] at i6
        have I6 := Aside0.mk i6
        have HB6 := Aside0.mk ((frame_drew HB4.out).trans (b6.mono (Nat.le_refl _)))
        clear i6 b6
        go_wp2_with fail
        go_roundw
        case rel =>
          refine ⟨m, r.extract 7 r.size, (acc ++ r.extract 0 7) ++ one (v (r.extract 0 7)), rfl, HTL.out, by omega, ?_, ?_, I6.out, HB6.out⟩
          · rw [← HA.out, runs]
            simp only [ByteArray.append_assoc]
          · rw [ByteArray.size_append, ByteArray.size_append, HD.out, one_size]
            omega
        case measure =>
          show (r.extract 7 r.size).size < r.size
          rw [HTL.out, HS.out]
          omega
  · obtain ⟨c, hc⟩ : ∃ c, c = t.size % 7 := ⟨_, rfl⟩
    obtain ⟨q, hq⟩ : ∃ q, q = 7 - c := ⟨_, rfl⟩
    have HQ := Aside0.mk (show (7 : Int) - (c : Int) = (q : Int) by omega)
    have hfz : (fill q).size = q := fill_size q
    have hTz : (t ++ fill q).size = t.size + q := by rw [ByteArray.size_append, hfz]
    obtain ⟨M, hM⟩ : ∃ M, (t ++ fill q).size = 7 * M := ⟨(t.size + q) / 7, by omega⟩
    have HM := Aside0.mk (show M ≤ 9 by omega)
    have HR := Aside0.mk (show put v t = (start ++ runs v M (t ++ fill q)) ++ fin by unfold put pad; rw [if_pos ⟨h1, h63⟩, if_neg hr, ← hc, ← hq, show (t ++ fill q).size / 7 = M by omega])
    have k1 : (t.size + (fill q).size ≤ 9223372036854775807) = True := eq_true (by omega)
    have k2 : (9223372036854775807 < t.size + (fill q).size) = False := eq_false (by omega)
    have KQ := Aside0.mk (show q ≤ 7 by omega)
    rw [← hc] at hm hr hm7
    have e1 : decide ((c : Int) > 0) = true := decide_eq_true (by omega)
    have e2 : decide (0 < c) = true := decide_eq_true (by omega)
    have HT0 := Aside0.mk hM
    clear h1 h63 hr hc hq hfz hTz hM
    go_enter Try.func10, Try.ntmps10
    go_wp2_with fail
    rw [HQ.out]
    refine (Try.strings_Repeat (⟨#[85]⟩ : ByteArray) q _ (by have := KQ.out; omega) (by have := KQ.out; show 1 * q ≤ _; omega)).mono ?_
    rintro e w1 ⟨he, hb1⟩
    rw [show (⟨(Lib.repeatL (⟨#[85]⟩ : ByteArray).data.toList q).toArray⟩ : ByteArray) = fill q from rfl] at he
    subst he
    have HB1 := Aside0.mk hb1
    have HW1 := Aside0.mk hb1.size
    clear hb1
    obtain ⟨T, hT⟩ : ∃ T, T = t ++ fill q := ⟨_, rfl⟩
    have HT : Aside0 (T.size = 7 * M) := ⟨by rw [hT]; exact HT0.out⟩
    have HTe := Aside0.mk hT
    clear hT HT0
    go_wp2_with fail
    rw [← HTe.out]
    refine (Try.Builder_WriteString w1.heap.size w1.heap.size [] start _ (Lib.fresh_isBuilder 39 5 w1) (by show 0 + 2 ≤ _; decide) (by simp)).mono ?_
    rintro e w2 ⟨rfl, i2, b2⟩
    have hz : w1.heap.size < w2.heap.size := i2.lt
    have I2 := Aside0.mk i2
    have HB := Aside0.mk ((HB1.out.alloc (HW1.out) _).trans (b2.mono HW1.out))
    clear i2 b2
    go_wp2_with fail
    go_loopw [0] (fun x0 wr => ∃ (m : Nat) (r acc : ByteArray), x0 = .string r ∧ Inv v T M w1.heap.size w m r acc wr) (fun x0 wr => textLen x0)
    case atStart =>
      exact ⟨M, T, start, rfl, HT.out, Nat.le_refl _, rfl, by have := HM.out; show 2 + 8 * M ≤ 80; omega, I2.out, HB.out⟩
    case round =>
      obtain ⟨m, r, acc, rfl, hI⟩ := hrel
      obtain ⟨hs, hmM, hacc, h80, hB, hBel⟩ := hI
      have HA := Aside0.mk hacc
      have HI := Aside0.mk hB
      have HBe := Aside0.mk hBel
      have hw := hB.lt
      clear hacc hB hBel
      cases m with
      | zero =>
        have hr0 : r = ⟨#[]⟩ := by
          apply ByteArray.ext
          exact Array.eq_empty_of_size_eq_zero hs
        subst hr0
        clear hs
        go_wp2_with fail
        refine (Try.Builder_WriteString w1.heap.size w1.heap.size _ fin _ (Or.inr HI.out) (by rw [cells_len]; show acc.size + 8 ≤ _; omega) (by omega)).mono ?_
        rintro e w4 ⟨rfl, i4, b4⟩
        rw [cells_add] at i4
        have I4 := Aside0.mk i4
        have hz4 := i4.lt
        have HB4 := Aside0.mk (HBe.out.trans (b4.mono HW1.out))
        clear i4 b4
        go_wp2_with fail
        refine (Try.Builder_String_any w1.heap.size w1.heap.size (acc ++ fin).data.toList _ (Or.inr I4.out) (by omega)).mono ?_
        rintro e w5 ⟨he, b5⟩
        rw [show (⟨(acc ++ fin).data.toList.toArray⟩ : ByteArray) = acc ++ fin from by apply ByteArray.ext; simp] at he
        subst he
        have HB5 := Aside0.mk (HB4.out.trans (b5.mono HW1.out))
        clear b5
        go_wp2
        go_ret
        refine ⟨ret1 ?_, HB5.out⟩
        have h := HA.out
        rw [show runs v 0 ⟨#[]⟩ = (⟨#[]⟩ : ByteArray) from rfl, str_append_nil] at h
        rw [h, HR.out]
        rw [HTe.out]
      | succ m =>
        have hne : r.toList ≠ [] := ne_nil (by omega)
        have g1 : (r.toList == []) = false := by rw [beq_eq_false_iff_ne]; exact hne
        have g2 : (r.toList != []) = true := by rw [bne_iff_ne]; exact hne
        have g3 : (7 ≤ (r.size : Int)) = True := eq_true (by omega)
        have g4 : decide (7 ≤ (r.size : Int)) = true := decide_eq_true (by omega)
        have g5 : (7 ≤ r.size) = True := eq_true (by omega)
        have HS := Aside0.mk hs
        clear hs hne
        obtain ⟨hd7, htl⟩ := head7 HS.out
        have HD := Aside0.mk hd7
        have HTL := Aside0.mk htl
        clear hd7 htl
        go_wp2_with fail
        refine (Try.Builder_WriteString w1.heap.size w1.heap.size _ (r.extract 0 7) _ (Or.inr HI.out) (by rw [cells_len, HD.out]; omega) (by omega)).mono ?_
        rintro e w4 ⟨rfl, i4, b4⟩
        rw [cells_add] at i4
        have I4 := Aside0.mk i4
        have hz4 := i4.lt
        have HB4 := Aside0.mk (HBe.out.trans (b4.mono HW1.out))
        clear i4 b4
        go_wp2_with fail
        refine (HV.out (r.extract 0 7) _ HD.out).mono ?_
        rintro e w5 ⟨rfl, n5, rfl⟩
        go_wp2_with fail
        refine (Try.Builder_WriteByte w1.heap.size w1.heap.size _ _ (w4.drewN n5) (Or.inr I4.out) (by rw [cells_len, ByteArray.size_append, HD.out]; omega) (by show w1.heap.size ≤ w4.heap.size; omega)).mono ?_
        rintro e w6 ⟨rfl, i6, b6⟩
        rw [one_cells, cells_add] at i6
        have I6 := Aside0.mk i6
        have HB6 := Aside0.mk ((frame_drew HB4.out).trans (b6.mono HW1.out))
        clear i6 b6
        go_wp2_with fail
        go_roundw
        case rel =>
          refine ⟨m, r.extract 7 r.size, (acc ++ r.extract 0 7) ++ one (v (r.extract 0 7)), rfl, HTL.out, by omega, ?_, ?_, I6.out, HB6.out⟩
          · rw [← HA.out, runs]
            simp only [ByteArray.append_assoc]
          · rw [ByteArray.size_append, ByteArray.size_append, HD.out, one_size]
            omega
        case measure =>
          show (r.extract 7 r.size).size < r.size
          rw [HTL.out, HS.out]
          omega
theorem put_none (v : ByteArray → Int) (t : ByteArray) (w : World) (h : ¬ (1 ≤ t.size ∧ t.size ≤ 63)) :
    Calls Try.prog 10 #[.string t] w fun e w' => e = .returned (.string (put v t)) ∧ Below w.heap.size w w' := by
  have HR := Aside0.mk (show put v t = ⟨#[]⟩ from if_neg h)
  by_cases h1 : t.size < 1
  · have d1 : decide ((t.size : Int) < 1) = true := decide_eq_true (by omega)
    have d3 : decide (t.size < 1) = true := decide_eq_true (by omega)
    clear h h1
    go_enter Try.func10, Try.ntmps10
    go_wp2
    go_ret
    exact ⟨ret1 HR.out.symm, Below.refl _ _⟩
  · have d1 : decide ((t.size : Int) < 1) = false := decide_eq_false (by omega)
    have d3 : decide (t.size < 1) = false := decide_eq_false (by omega)
    have d2 : decide ((t.size : Int) > 63) = true := decide_eq_true (by omega)
    have d4 : decide (63 < t.size) = true := decide_eq_true (by omega)
    clear h h1
    go_enter Try.func10, Try.ntmps10
    go_wp2
    go_ret
    exact ⟨ret1 HR.out.symm, Below.refl _ _⟩
end Go.Proofs.Ytiknnbjfpdeieaa.HCltu
