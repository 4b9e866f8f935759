/- A packet in parts (SegCut): the iterator segPieces walked, and the loop over it. Condition: NumPut's answer at one byte is known. -/
import Derived.Test.YtondhdiipaijiaaDoorProg
import Derived.Below
import Derived.Deep.Draws
import Derived.Deep.AppendLies
import Derived.Maps.AppendAt
import Derived.OwnWalk
import Derived.Laws.BytesArg
import Derived.Laws.MakeOwn
import Derived.Laws.OwnMore
import Derived.Deep.OwnRows
import Derived.Tactics
import Derived.Lib.ConvBytes
import Derived.Laws.Slices
import Derived.WalkKit
import Derived.KernelRfl
import Derived.RowKit3
import Derived.Deep.LoopGhost
import Derived.Deep.QuietTactic
import Derived.BigQuiet
import Derived.WideLaws
import Derived.Deep.DeepCutAuto
import Derived.Deep.CutBlock
import Derived.Deep.RegionHeld3
import Derived.Laws.Rows
import Derived.Lib.AppendStr
import Derived.ArgAppend
import Derived.Laws.IdiomCopy
import Derived.OrdersHeld
import Derived.Laws.BitsLemmas
import Derived.RowKit
import Derived.Test.YtondhdiipaijiaaDoorWWords
import Derived.Test.YtondhdiipaijiaaDoorWLast
import Derived.Test.YtondhdiipaijiaaDoorWTab
import Derived.Test.YtondhdiipaijiaaDoorWFour
import Derived.Test.YtondhdiipaijiaaDoorWQPut
import Derived.Test.YtondhdiipaijiaaDoorWApart
import Derived.Test.YtondhdiipaijiaaDoorWArr
import Derived.Test.YtondhdiipaijiaaDoorWZeros
import Derived.Test.YtondhdiipaijiaaDoorWFoot
import Derived.Test.YtondhdiipaijiaaDoorWKept
import Derived.Test.YtondhdiipaijiaaDoorWShare
import Derived.Test.YtondhdiipaijiaaDoorWN
import Derived.Test.YtondhdiipaijiaaDoorWFootNe
import Derived.Test.YtondhdiipaijiaaDoorWAt
import Derived.Test.YtondhdiipaijiaaDoorWEqStruct
import Derived.Test.YtondhdiipaijiaaDoorWRepsOne
import Derived.Test.YtondhdiipaijiaaDoorWInv
import Derived.Test.YtondhdiipaijiaaDoorWInvWords
import Derived.Test.YtondhdiipaijiaaDoorWGuard
import Derived.Test.YtondhdiipaijiaaDoorWNEv
import Derived.Test.YtondhdiipaijiaaDoorWMore
import Derived.Laws.ResultCell
import Derived.Lib.Hide
import Derived.RangeFuncNested
import Derived.RangeFuncBound
import Derived.RangeFuncCalls
import Derived.RangeFuncLeaves
import Derived.RangeFuncFrom
import Derived.Shelf.Abstract
import Derived.Shelf.RegionOpen
import Derived.OwnWalkIn
import Derived.TacticsInMore
import Derived.LoopNIn
import Derived.LoopIn
import Derived.Maps.AppendAt
import Derived.Test.YtondhdiipaijiaaDoorAux
import Derived.Test.YtondhdiipaijiaaDoorHRound
namespace Go.Proofs.YtondhdiipaijiaaDoor.HSegCut
open Go Go.RowKit Go.Proofs.YtondhdiipaijiaaDoorW.PrintWords Go.Proofs.YtondhdiipaijiaaDoorW.PrintLast Go.Proofs.YtondhdiipaijiaaDoorW.PrintMore Go.Proofs.YtondhdiipaijiaaDoor.Aux Go.Proofs.YtondhdiipaijiaaDoor.HRound
set_option linter.unusedVariables false
set_option linter.unusedSimpArgs false
attribute [local go_sem] Oper.semAt_some
/-- Marks and a piece. -/
abbrev PM := { p : Int × ByteArray // (0 ≤ p.1 ∧ p.1 ≤ 192) ∧ p.2.size ≤ 20 }
def mark (t : ByteArray) (a : Nat) : Int := (if a = 0 then 64 else 0) + (if t.size ≤ a + 20 then 128 else 0)
def text (t : ByteArray) (a : Nat) : ByteArray := t.extract a (if t.size ≤ a + 20 then t.size else a + 20)
theorem mark_rng (t : ByteArray) (a : Nat) : 0 ≤ mark t a ∧ mark t a ≤ 192 := by
  unfold mark
  split <;> split <;> omega
theorem text_size (t : ByteArray) (a : Nat) : (text t a).size ≤ 20 := by
  unfold text
  rw [ByteArray.size_extract]
  split <;> omega
def piece (t : ByteArray) (a : Nat) : PM := ⟨(mark t a, text t a), mark_rng t a, text_size t a⟩
def upto (t : ByteArray) (j : Nat) : List PM := (List.range j).map fun i => piece t (20 * i)
theorem upto_succ (t : ByteArray) (j : Nat) : upto t (j + 1) = upto t j ++ [piece t (20 * j)] := by simp [upto, List.range_succ]
theorem upto_len (t : ByteArray) (j : Nat) : (upto t j).length = j := by simp [upto]
theorem upto_pre (t : ByteArray) (j d : Nat) : upto t j <+: upto t (j + d) := by
  induction d with
  | zero => exact List.prefix_refl _
  | succ d ih =>
    rw [← Nat.add_assoc, upto_succ]
    exact ih.trans (List.prefix_append _ _)
def count (t : ByteArray) : Nat := (t.size + 19) / 20
/-- All the pieces. -/
def pieces (t : ByteArray) : List PM := upto t (count t)
def one (x : Int) : ByteArray := strOfNums [x % 256]
def outOf (via : Int) (q : List PM) : List ByteArray := q.map fun x => one (x.1.1 + via) ++ x.1.2
/-- SegCut's answer. -/
def cut (t : ByteArray) (via : Int) : List ByteArray := outOf via (pieces t)
theorem num_eq {a b : Int} (h : a = b) : Value.int .i64 a = .int .i64 b := by rw [h]
theorem two {e : Ending} {A B : Prop} (h : (e = .returned (.bool true) ∧ A) ∨ (e = .returned (.bool false) ∧ B)) : ∃ b, e = .returned (.bool b) ∧ ((b = true ∧ A) ∨ (b = false ∧ B)) := by
  rcases h with ⟨h, a⟩ | ⟨h, b⟩
  · exact ⟨true, h, .inl ⟨rfl, a⟩⟩
  · exact ⟨false, h, .inr ⟨rfl, b⟩⟩
theorem yield_at {F : Fence} {m : Nat} {P : Program} {l : Nat} {x : PM} {mk : Int} {s : ByteArray} {W : World} {R : Ending → World → Prop} (h : YieldAt F m P l #[.int .i64 x.1.1, .string x.1.2] W R) (h1 : x.1.1 = mk) (h2 : x.1.2 = s) : YieldAt F m P l #[.int .i64 mk, .string s] W R := by
  subst h1
  subst h2
  exact h
set_option maxHeartbeats 4000000 in
theorem iter (pb : Nat) (t : ByteArray) (ht : t.size ≤ 106) (l : Nat) (J Jx : List PM → World → Prop) (W : World)
    (hY : ∀ pre x W1, J pre W1 → pre.length < 6 → YieldAt Fence.wide 1 Tryd.prog l #[.int .i64 x.1.1, .string x.1.2] W1 fun e W' => (e = .returned (.bool true) ∧ J (pre ++ [x]) W' ∧ W'.heap[pb]? = W1.heap[pb]?) ∨ (e = .returned (.bool false) ∧ Jx (pre ++ [x]) W'))
    (hpb : W.heap[pb]? = some (.cells #[.string t] 9 (0, 0))) (h0 : J [] W) :
    CallsIn Fence.wide 2 Tryd.prog 38 #[.func (.yield l) #[] #[], .pointer (some ⟨pb, 0, none⟩)] W fun e W' => (∃ u, e = .returned u) ∧ ((∃ ys, ys = pieces t ∧ J ys W') ∨ (∃ pre, pre <+: pieces t ∧ Jx pre W')) := by
  have HY := Aside0.mk hY
  have HT := Aside0.mk ht
  clear hY
  refine callsIn_of_wp Tryd.func38 rfl trivial ?_ rfl
  simp only [Tryd.ntmps38, List.size_toArray, List.length_cons, List.length_nil, Nat.reduceAdd, Nat.reduceSub, Array.replicate_succ, Array.replicate_zero, List.push_toArray, List.append_toArray, List.nil_append, List.cons_append]
  gi_wp2
  gi_loopw [3] (fun p wr => ∃ j : Nat, p = .int .i64 ((20 * j : Nat) : Int) ∧ j ≤ count t ∧ wr.heap[pb]? = some (.cells #[.string t] 9 (0, 0)) ∧ J (upto t j) wr) (fun p wr => 200 - (intOf p).toNat)
  case atStart => exact ⟨0, rfl, Nat.zero_le _, hpb, h0⟩
  case round =>
    obtain ⟨j, rfl, hj, hb, hjj⟩ := hrel
    have HB := Aside0.mk hb
    have HJ0 := Aside0.mk hjj
    have hc : wr.cell? ⟨pb, 0, none⟩ = some (.string t) := (blk_cell hb 0).trans rfl
    clear hb hjj
    obtain ⟨a, ha⟩ : ∃ a, a = 20 * j := ⟨_, rfl⟩
    rw [← ha]
    by_cases hlt : a < t.size
    · have hjc : j + 1 ≤ count t := by unfold count; omega
      have hj6 : j < 6 := by omega
      have HA := Aside0.mk ha
      have HJC := Aside0.mk hjc
      have hl6 : (upto t j).length < 6 := by rw [upto_len]; exact hj6
      clear ha hjc hj6 hj
      by_cases hz : a = 0
      · by_cases hg : t.size ≤ a + 20
        · have h1 : (piece t a).1.1 = 192 := by
            show mark t a = _
            unfold mark
            rw [if_pos hz, if_pos hg]
            rfl
          have h2 : (piece t a).1.2 = t.extract a t.size := by
            show text t a = _
            unfold text
            rw [if_pos hg]
          obtain ⟨fn, tmps, assign, body, hy, hR⟩ := yield_at (HY.out (upto t j) (piece t a) wr HJ0.out hl6) h1 h2
          clear h1 h2 hl6
          have d1 : decide ((a : Int) < (t.size : Int)) = true := decide_eq_true (by omega)
          have d2 : decide (a < t.size) = true := decide_eq_true (by omega)
          have z0 : ((a : Int) == 0) = true := beq_iff_eq.mpr (by omega)
          have z1 : (a == 0) = true := beq_iff_eq.mpr hz
          have g0 : decide ((a : Int) + 20 ≥ (t.size : Int)) = true := decide_eq_true (by omega)
          have g1 : decide ((t.size : Int) ≤ (a : Int) + 20) = true := decide_eq_true (by omega)
          have g2 : decide (t.size ≤ a + 20) = true := decide_eq_true (by omega)
          have b0 : (0 : Int) ≤ (a : Int) := by omega
          have b1 : (a : Int) ≤ (t.size : Int) := by omega
          have b2 : (t.size : Int) ≤ 106 := by omega
          have b3 : ((a : Int) ≤ (t.size : Int)) = True := eq_true (by omega)
          have b4 : (a ≤ t.size) = True := eq_true (by omega)
          have b5 : ((t.size : Int) ≤ (t.size : Int)) = True := eq_true (Int.le_refl _)
          clear hlt hz hg
          gi_wp2
          refine hR.mono ?_
          rintro e W' (⟨rfl, hJ', hk'⟩ | ⟨rfl, hJx'⟩)
          · have HJ' := Aside0.mk hJ'
            have HB' := Aside0.mk (hk'.trans HB.out)
            clear hJ' hk'
            gi_wp2
            refine ⟨⟨j + 1, num_eq (by have := HA.out; omega), HJC.out, HB'.out, ?_⟩, ?_⟩
            · rw [upto_succ, ← HA.out]
              exact HJ'.out
            · simp [intOf]
              omega
          · have HJX := Aside0.mk hJx'
            clear hJx'
            gi_wp2
            refine bodyPost_ret (results_none rfl _ _ _) rfl ⟨⟨_, rfl⟩, .inr ⟨upto t j ++ [piece t a], ?_, HJX.out⟩⟩
            rw [HA.out, ← upto_succ]
            unfold pieces
            obtain ⟨d, hd⟩ := Nat.exists_eq_add_of_le HJC.out
            rw [hd]
            exact upto_pre t (j + 1) d
        · have h1 : (piece t a).1.1 = 64 := by
            show mark t a = _
            unfold mark
            rw [if_pos hz, if_neg hg]
            rfl
          have h2 : (piece t a).1.2 = t.extract a (a + 20) := by
            show text t a = _
            unfold text
            rw [if_neg hg]
          obtain ⟨fn, tmps, assign, body, hy, hR⟩ := yield_at (HY.out (upto t j) (piece t a) wr HJ0.out hl6) h1 h2
          clear h1 h2 hl6
          have d1 : decide ((a : Int) < (t.size : Int)) = true := decide_eq_true (by omega)
          have d2 : decide (a < t.size) = true := decide_eq_true (by omega)
          have z0 : ((a : Int) == 0) = true := beq_iff_eq.mpr (by omega)
          have z1 : (a == 0) = true := beq_iff_eq.mpr hz
          have g0 : decide ((a : Int) + 20 ≥ (t.size : Int)) = false := decide_eq_false (by omega)
          have g1 : decide ((t.size : Int) ≤ (a : Int) + 20) = false := decide_eq_false (by omega)
          have g2 : decide (t.size ≤ a + 20) = false := decide_eq_false (by omega)
          have b0 : (0 : Int) ≤ (a : Int) := by omega
          have b1 : (a : Int) ≤ (t.size : Int) := by omega
          have b2 : (t.size : Int) ≤ 106 := by omega
          have b3 : ((a : Int) ≤ (t.size : Int)) = True := eq_true (by omega)
          have b4 : (a ≤ t.size) = True := eq_true (by omega)
          have b5 : (a : Int) + 20 ≤ (t.size : Int) := by omega
          have b6 : (a + 20 ≤ t.size) = True := eq_true (by omega)
          have b7 : ((a : Int) ≤ (a : Int) + 20) = True := eq_true (by omega)
          clear hlt hz hg
          gi_wp2
          refine hR.mono ?_
          rintro e W' (⟨rfl, hJ', hk'⟩ | ⟨rfl, hJx'⟩)
          · have HJ' := Aside0.mk hJ'
            have HB' := Aside0.mk (hk'.trans HB.out)
            clear hJ' hk'
            gi_wp2
            refine ⟨⟨j + 1, num_eq (by have := HA.out; omega), HJC.out, HB'.out, ?_⟩, ?_⟩
            · rw [upto_succ, ← HA.out]
              exact HJ'.out
            · simp [intOf]
              omega
          · have HJX := Aside0.mk hJx'
            clear hJx'
            gi_wp2
            refine bodyPost_ret (results_none rfl _ _ _) rfl ⟨⟨_, rfl⟩, .inr ⟨upto t j ++ [piece t a], ?_, HJX.out⟩⟩
            rw [HA.out, ← upto_succ]
            unfold pieces
            obtain ⟨d, hd⟩ := Nat.exists_eq_add_of_le HJC.out
            rw [hd]
            exact upto_pre t (j + 1) d
      · by_cases hg : t.size ≤ a + 20
        · have h1 : (piece t a).1.1 = 128 := by
            show mark t a = _
            unfold mark
            rw [if_neg hz, if_pos hg]
            rfl
          have h2 : (piece t a).1.2 = t.extract a t.size := by
            show text t a = _
            unfold text
            rw [if_pos hg]
          obtain ⟨fn, tmps, assign, body, hy, hR⟩ := yield_at (HY.out (upto t j) (piece t a) wr HJ0.out hl6) h1 h2
          clear h1 h2 hl6
          have d1 : decide ((a : Int) < (t.size : Int)) = true := decide_eq_true (by omega)
          have d2 : decide (a < t.size) = true := decide_eq_true (by omega)
          have z0 : ((a : Int) == 0) = false := beq_eq_false_iff_ne.mpr (by omega)
          have z1 : (a == 0) = false := beq_eq_false_iff_ne.mpr hz
          have g0 : decide ((a : Int) + 20 ≥ (t.size : Int)) = true := decide_eq_true (by omega)
          have g1 : decide ((t.size : Int) ≤ (a : Int) + 20) = true := decide_eq_true (by omega)
          have g2 : decide (t.size ≤ a + 20) = true := decide_eq_true (by omega)
          have b0 : (0 : Int) ≤ (a : Int) := by omega
          have b1 : (a : Int) ≤ (t.size : Int) := by omega
          have b2 : (t.size : Int) ≤ 106 := by omega
          have b3 : ((a : Int) ≤ (t.size : Int)) = True := eq_true (by omega)
          have b4 : (a ≤ t.size) = True := eq_true (by omega)
          have b5 : ((t.size : Int) ≤ (t.size : Int)) = True := eq_true (Int.le_refl _)
          clear hlt hz hg
          gi_wp2
          refine hR.mono ?_
          rintro e W' (⟨rfl, hJ', hk'⟩ | ⟨rfl, hJx'⟩)
          · have HJ' := Aside0.mk hJ'
            have HB' := Aside0.mk (hk'.trans HB.out)
            clear hJ' hk'
            gi_wp2
            refine ⟨⟨j + 1, num_eq (by have := HA.out; omega), HJC.out, HB'.out, ?_⟩, ?_⟩
            · rw [upto_succ, ← HA.out]
              exact HJ'.out
            · simp [intOf]
              omega
          · have HJX := Aside0.mk hJx'
            clear hJx'
            gi_wp2
            refine bodyPost_ret (results_none rfl _ _ _) rfl ⟨⟨_, rfl⟩, .inr ⟨upto t j ++ [piece t a], ?_, HJX.out⟩⟩
            rw [HA.out, ← upto_succ]
            unfold pieces
            obtain ⟨d, hd⟩ := Nat.exists_eq_add_of_le HJC.out
            rw [hd]
            exact upto_pre t (j + 1) d
        · have h1 : (piece t a).1.1 = 0 := by
            show mark t a = _
            unfold mark
            rw [if_neg hz, if_neg hg]
            rfl
          have h2 : (piece t a).1.2 = t.extract a (a + 20) := by
            show text t a = _
            unfold text
            rw [if_neg hg]
          obtain ⟨fn, tmps, assign, body, hy, hR⟩ := yield_at (HY.out (upto t j) (piece t a) wr HJ0.out hl6) h1 h2
          clear h1 h2 hl6
          have d1 : decide ((a : Int) < (t.size : Int)) = true := decide_eq_true (by omega)
          have d2 : decide (a < t.size) = true := decide_eq_true (by omega)
          have z0 : ((a : Int) == 0) = false := beq_eq_false_iff_ne.mpr (by omega)
          have z1 : (a == 0) = false := beq_eq_false_iff_ne.mpr hz
          have g0 : decide ((a : Int) + 20 ≥ (t.size : Int)) = false := decide_eq_false (by omega)
          have g1 : decide ((t.size : Int) ≤ (a : Int) + 20) = false := decide_eq_false (by omega)
          have g2 : decide (t.size ≤ a + 20) = false := decide_eq_false (by omega)
          have b0 : (0 : Int) ≤ (a : Int) := by omega
          have b1 : (a : Int) ≤ (t.size : Int) := by omega
          have b2 : (t.size : Int) ≤ 106 := by omega
          have b3 : ((a : Int) ≤ (t.size : Int)) = True := eq_true (by omega)
          have b4 : (a ≤ t.size) = True := eq_true (by omega)
          have b5 : (a : Int) + 20 ≤ (t.size : Int) := by omega
          have b6 : (a + 20 ≤ t.size) = True := eq_true (by omega)
          have b7 : ((a : Int) ≤ (a : Int) + 20) = True := eq_true (by omega)
          clear hlt hz hg
          gi_wp2
          refine hR.mono ?_
          rintro e W' (⟨rfl, hJ', hk'⟩ | ⟨rfl, hJx'⟩)
          · have HJ' := Aside0.mk hJ'
            have HB' := Aside0.mk (hk'.trans HB.out)
            clear hJ' hk'
            gi_wp2
            refine ⟨⟨j + 1, num_eq (by have := HA.out; omega), HJC.out, HB'.out, ?_⟩, ?_⟩
            · rw [upto_succ, ← HA.out]
              exact HJ'.out
            · simp [intOf]
              omega
          · have HJX := Aside0.mk hJx'
            clear hJx'
            gi_wp2
            refine bodyPost_ret (results_none rfl _ _ _) rfl ⟨⟨_, rfl⟩, .inr ⟨upto t j ++ [piece t a], ?_, HJX.out⟩⟩
            rw [HA.out, ← upto_succ]
            unfold pieces
            obtain ⟨d, hd⟩ := Nat.exists_eq_add_of_le HJC.out
            rw [hd]
            exact upto_pre t (j + 1) d
    · have hjc : j = count t := by unfold count at hj ⊢; omega
      have d1 : decide ((a : Int) < (t.size : Int)) = false := decide_eq_false (by omega)
      have d2 : decide (a < t.size) = false := decide_eq_false (by omega)
      have HJC := Aside0.mk hjc
      clear hj hjc hlt ha
      gi_wp2
      go_end0
      refine ⟨⟨_, rfl⟩, .inl ⟨upto t j, ?_, HJ0.out⟩⟩
      rw [HJC.out]
      rfl
end Go.Proofs.YtondhdiipaijiaaDoor.HSegCut
