/- Code blocks read (CltuGet): the iterator blocks keeps the rest of the text in a cell of its own. Condition: Bch's answer at seven bytes is known. -/
import Derived.Test.YtiknnbjfpdeieaaProg
import Derived.Below
import Derived.Deep.Draws
import Derived.Deep.AppendLies
import Derived.Maps.AppendAt
import Derived.OwnWalk
import Derived.Laws.BytesArg
import Derived.Laws.MakeOwn
import Derived.Laws.OwnMore
import Derived.Deep.OwnRows
import Derived.Tactics
import Derived.Lib.ConvBytes
import Derived.Laws.Slices
import Derived.WalkKit
import Derived.KernelRfl
import Derived.RowKit3
import Derived.Deep.LoopGhost
import Derived.Deep.QuietTactic
import Derived.BigQuiet
import Derived.WideLaws
import Derived.Deep.DeepCutAuto
import Derived.Deep.CutBlock
import Derived.Deep.RegionHeld3
import Derived.Laws.Rows
import Derived.Lib.AppendStr
import Derived.ArgAppend
import Derived.Laws.IdiomCopy
import Derived.OrdersHeld
import Derived.Laws.BitsLemmas
import Derived.RowKit
import Derived.Test.YtiknnbjfpdeieaaWWords
import Derived.Test.YtiknnbjfpdeieaaWLast
import Derived.Test.YtiknnbjfpdeieaaWTab
import Derived.Test.YtiknnbjfpdeieaaWFour
import Derived.Test.YtiknnbjfpdeieaaWQPut
import Derived.Test.YtiknnbjfpdeieaaWApart
import Derived.Test.YtiknnbjfpdeieaaWArr
import Derived.Test.YtiknnbjfpdeieaaWZeros
import Derived.Test.YtiknnbjfpdeieaaWFoot
import Derived.Test.YtiknnbjfpdeieaaWKept
import Derived.Test.YtiknnbjfpdeieaaWShare
import Derived.Test.YtiknnbjfpdeieaaWN
import Derived.Test.YtiknnbjfpdeieaaWFootNe
import Derived.Test.YtiknnbjfpdeieaaWAt
import Derived.Test.YtiknnbjfpdeieaaWEqStruct
import Derived.Test.YtiknnbjfpdeieaaWRepsOne
import Derived.Test.YtiknnbjfpdeieaaWInv
import Derived.Test.YtiknnbjfpdeieaaWInvWords
import Derived.Test.YtiknnbjfpdeieaaWGuard
import Derived.Test.YtiknnbjfpdeieaaWNEv
import Derived.Test.YtiknnbjfpdeieaaWMore
import Derived.Laws.ResultCell
import Derived.Lib.Hide
import Derived.RangeFuncNested
import Derived.RangeFuncBound
import Derived.RangeFuncCalls
import Derived.RangeFuncLeaves
import Derived.Shelf.Abstract
import Derived.Shelf.RegionOpen
import Derived.OwnWalkIn
import Derived.TacticsInMore
import Derived.LoopNIn
import Derived.LoopIn
import Derived.Shelf.Strings.BuilderK
import Derived.Test.YtiknnbjfpdeieaaShelf
import Derived.Test.YtiknnbjfpdeieaaAux
import Derived.Test.YtiknnbjfpdeieaaHCltu
import Derived.Test.YtiknnbjfpdeieaaHRange
namespace Go.Proofs.Ytiknnbjfpdeieaa.HGet
open Go Go.RowKit Go.Proofs.YtiknnbjfpdeieaaW.PrintWords Go.Proofs.YtiknnbjfpdeieaaW.PrintLast Go.Proofs.YtiknnbjfpdeieaaW.PrintMore Go.Proofs.Ytiknnbjfpdeieaa.Aux
set_option linter.unusedVariables false
set_option linter.unusedSimpArgs false
attribute [local go_sem] Oper.semAt_some
/-- Seven bytes. -/
abbrev B7 := { x : ByteArray // x.size = 7 }
/-- The text begins with a block that is right. -/
def okAt (v : ByteArray → Int) (r : ByteArray) : Prop := 8 ≤ r.size ∧ v (r.extract 0 7) = bt r 7
theorem seven {r : ByteArray} (h : 8 ≤ r.size) : (r.extract 0 7).size = 7 := by rw [ByteArray.size_extract]; omega
open Classical in
/-- The blocks that are right, as far as they go. -/
noncomputable def blocks (v : ByteArray → Int) : Nat → ByteArray → List B7
  | 0, _ => []
  | k + 1, r => if h : okAt v r then ⟨r.extract 0 7, seven h.1⟩ :: blocks v k (r.extract 8 r.size) else []
/-- What the iterator does between two calls of yield. -/
def Turn (pb : Nat) (A B : World) : Prop := (∃ n, B = A.drewN n) ∨ (∃ s : ByteArray, B = A.setCell ⟨pb, 0, none⟩ (.string s))
def left (pb : Nat) (w : World) : Nat := match w.cell? ⟨pb, 0, none⟩ with
  | some (.string s) => s.size
  | _ => 0
theorem ret1 {a b : ByteArray} (h : a = b) : Ending.returned (.string a) = .returned (.string b) := by rw [h]
theorem blocks_nil (v : ByteArray → Int) {r : ByteArray} {k : Nat} (h : ¬ okAt v r) : blocks v k r = [] := by
  cases k with
  | zero => rfl
  | succ k =>
    unfold blocks
    rw [dif_neg h]
theorem blocks_cons (v : ByteArray → Int) {r : ByteArray} {k : Nat} (h8 : 8 ≤ r.size) (hv : v (r.extract 0 7) = bt r 7) (hk : r.size ≤ k) : blocks v k r = ⟨r.extract 0 7, seven h8⟩ :: blocks v (k - 1) (r.extract 8 r.size) := by
  obtain ⟨k, rfl⟩ : ∃ m, k = m + 1 := ⟨k - 1, by omega⟩
  rw [blocks, dif_pos ⟨h8, hv⟩]
  rfl
theorem on_eq {α : Type} {xs pre ys zs : List α} {x : α} (h : xs = pre ++ ys) (h2 : ys = x :: zs) : xs = (pre ++ [x]) ++ zs := by rw [h, h2]; simp
theorem left_lt {pb : Nat} {r : ByteArray} {w w' : World} (hb : w'.heap[pb]? = some (.cells #[.string r] 9 (0, 0))) (hc : w.cell? ⟨pb, 0, none⟩ = some (.string r)) (h8 : 8 ≤ r.size) : left pb (w'.setCell ⟨pb, 0, none⟩ (.string (r.extract 8 r.size))) < left pb w := by
  have h1 : (w'.setCell ⟨pb, 0, none⟩ (.string (r.extract 8 r.size))).cell? ⟨pb, 0, none⟩ = some (.string (r.extract 8 r.size)) := by rw [Lib.cell_of_heap (one_setCell hb)]; rfl
  unfold left
  rw [h1, hc]
  show (r.extract 8 r.size).size < r.size
  rw [ByteArray.size_extract]
  omega
theorem two {e : Ending} {A B : Prop} (h : (e = .returned (.bool true) ∧ A) ∨ (e = .returned (.bool false) ∧ B)) : ∃ b, e = .returned (.bool b) ∧ ((b = true ∧ A) ∨ (b = false ∧ B)) := by
  rcases h with ⟨h, a⟩ | ⟨h, b⟩
  · exact ⟨true, h, .inl ⟨rfl, a⟩⟩
  · exact ⟨false, h, .inr ⟨rfl, b⟩⟩
theorem two_at {F : Fence} {m : Nat} {P : Program} {l : Nat} {args : Array Value} {W : World} {A B : World → Prop} (h : YieldAt F m P l args W (fun e W' => (e = .returned (.bool true) ∧ A W') ∨ (e = .returned (.bool false) ∧ B W'))) : YieldAt F m P l args W (fun e W' => ∃ b, e = .returned (.bool b) ∧ ((b = true ∧ A W') ∨ (b = false ∧ B W'))) := by
  obtain ⟨fn, tmps, assign, body, hy, hR⟩ := h
  exact ⟨fn, tmps, assign, body, hy, hR.mono fun e W' h => two h⟩
set_option maxHeartbeats 4000000 in
theorem iter (v : ByteArray → Int) (HV : Aside0 (∀ s w, s.size = 7 → Calls Try.prog 17 #[.string s] w fun e w' => e = .returned (.int .i64 (v s)) ∧ ∃ n, w' = w.drewN n))
    (pb N : Nat) (t : ByteArray) (hN : t.size ≤ N) (l : Nat) (J Jx : List B7 → World → Prop) (W : World) (hJ : ∀ s A B, J s A → Turn pb A B → J s B) (hJx : ∀ s A B, Jx s A → Turn pb A B → Jx s B)
    (hY : ∀ pre x W1, J pre W1 → YieldAt Fence.wide 1 Try.prog l #[.string x.1] W1 fun e W' => (e = .returned (.bool true) ∧ J (pre ++ [x]) W' ∧ W'.heap[pb]? = W1.heap[pb]?) ∨ (e = .returned (.bool false) ∧ Jx (pre ++ [x]) W'))
    (hpb : W.heap[pb]? = some (.cells #[.string t] 9 (0, 0))) (h0 : J [] W) :
    CallsIn Fence.wide 2 Try.prog 43 #[.func (.yield l) #[] #[], .pointer (some ⟨pb, 0, none⟩)] W fun e W' => (∃ u, e = .returned u) ∧ ((∃ ys, ys = blocks v N t ∧ J ys W') ∨ (∃ pre, pre <+: blocks v N t ∧ Jx pre W')) := by
  have HJ := Aside0.mk hJ
  have HJX := Aside0.mk hJx
  have HY := Aside0.mk hY
  clear hJ hJx hY
  refine callsIn_of_wp Try.func43 rfl trivial ?_ rfl
  simp only [Try.ntmps43, List.size_toArray, List.length_cons, List.length_nil, Nat.reduceAdd, Nat.reduceSub, Array.replicate_succ, Array.replicate_zero, List.push_toArray, List.append_toArray, List.nil_append, List.cons_append]
  gi_wp2
  gi_loopw [3] (fun p wr => ∃ (pre : List B7) (r : ByteArray) (k : Nat), blocks v N t = pre ++ blocks v k r ∧ r.size ≤ k ∧ wr.heap[pb]? = some (.cells #[.string r] 9 (0, 0)) ∧ J pre wr)
    (fun p wr => left pb wr)
  case atStart =>
    exact ⟨[], t, N, rfl, hN, hpb, h0⟩
  case round =>
    obtain ⟨pre, r, k, hx, hk, hb, hj⟩ := hrel
    have HX := Aside0.mk hx
    have HB := Aside0.mk hb
    have HJ0 := Aside0.mk hj
    have hc : wr.cell? ⟨pb, 0, none⟩ = some (.string r) := by rw [Lib.cell_of_heap hb]; rfl
    have hf : wr.frozen? ⟨pb, 0, none⟩ = false := Lib.frozen_of_heap hb 0
    clear hx hb hj
    by_cases h8 : 8 ≤ r.size
    · have d8 : decide ((r.size : Int) ≥ 8) = true := decide_eq_true (by omega)
      have d8' : decide (8 ≤ (r.size : Int)) = true := decide_eq_true (by omega)
      have d8'' : decide (8 ≤ r.size) = true := decide_eq_true (by omega)
      have e7 : (7 ≤ (r.size : Int)) = True := eq_true (by omega)
      have e8 : (8 ≤ (r.size : Int)) = True := eq_true (by omega)
      have e7' : (7 ≤ r.size) = True := eq_true (by omega)
      have e8' : (8 ≤ r.size) = True := eq_true (by omega)
      have l7 : (7 < (r.size : Int)) = True := eq_true (by omega)
      have l7' : (7 < r.size) = True := eq_true (by omega)
      have HS := Aside0.mk (seven h8)
      have hb7 : IntKind.i64.wrap (((r[7]'(by omega)).toNat : Nat) : Int) = bt r 7 := by
        have h1 : (((r[7]'(by omega)).toNat : Nat) : Int) = bt r 7 := bt_at r 7 (by show 7 < r.size; omega)
        have h2 := bt_range r 7
        rw [h1]
        exact wraps_i64 _ h2.1 (by omega)
      by_cases hv : v (r.extract 0 7) = bt r 7
      · have hmx : Try.prog.follows .mixedOrders = true := by kernel_rfl
        gi_wp2_with fail
        gi_region_with_o (first | (refine ⟨trivial, ?_⟩; gi_at_call 17; refine (callsIn_wide.2 (HV.out _ _ HS.out)).mono ?_; rintro e w1 ⟨rfl, n1, rfl⟩; obtain ⟨fn, tmps, assign, body, hy, hR⟩ := two_at (HY.out pre ⟨_, HS.out⟩ (wr.drewN (1 + n1)) (HJ.out _ _ _ HJ0.out (Or.inl ⟨1 + n1, rfl⟩)))) | (refine hR.mono ?_; rintro e W' ⟨b, rfl, hW'⟩))
        all_goals (rcases hW' with ⟨rfl, hJ', hk'⟩ | ⟨rfl, hJx'⟩)
        all_goals (try (have HJ' := Aside0.mk hJ'; have hb' : W'.heap[pb]? = some (.cells #[.string r] 9 (0, 0)) := hk'.trans HB.out; have hc' : W'.cell? ⟨pb, 0, none⟩ = some (.string r) := by rw [Lib.cell_of_heap hb']; rfl))
        all_goals (try (have hf' : W'.frozen? ⟨pb, 0, none⟩ = false := Lib.frozen_of_heap hb' 0))
        all_goals gi_wp2
        all_goals first | exact ⟨⟨pre ++ [⟨r.extract 0 7, HS.out⟩], r.extract 8 r.size, k - 1, on_eq HX.out (blocks_cons v h8 hv hk), by rw [ByteArray.size_extract]; omega, one_setCell hb', HJ.out _ _ _ HJ'.out (Or.inr ⟨_, rfl⟩)⟩, left_lt hb' hc h8⟩ | exact bodyPost_ret (results_none rfl _ _ _) rfl ⟨⟨_, rfl⟩, .inr ⟨pre ++ [⟨r.extract 0 7, HS.out⟩], ⟨_, (on_eq HX.out (blocks_cons v h8 hv hk)).symm⟩, hJx'⟩⟩
      · have hmx : Try.prog.follows .mixedOrders = true := by kernel_rfl
        have hne : (v (r.extract 0 7) != bt r 7) = true := by rw [bne_iff_ne]; exact hv
        have hne2 : (v (r.extract 0 7) == bt r 7) = false := by rw [beq_eq_false_iff_ne]; exact hv
        have hnil : blocks v k r = [] := blocks_nil v (fun h => hv h.2)
        gi_wp2_with fail
        first | gi_region_with_o (first | (refine ⟨trivial, ?_⟩; gi_at_call 17; refine (callsIn_wide.2 (HV.out _ _ HS.out)).mono ?_; rintro e w1 ⟨rfl, n1, rfl⟩; have HJ2 := Aside0.mk (HJ.out _ wr (wr.drewN (1 + n1)) HJ0.out (Or.inl ⟨1 + n1, rfl⟩))) | (refine ⟨fun _ h => (by cases h), ?_⟩)) | fail "region"
        all_goals gi_wp2
        all_goals exact bodyPost_ret (results_none rfl _ _ _) rfl ⟨⟨_, rfl⟩, .inl ⟨pre, by rw [HX.out, hnil, List.append_nil], HJ2.out⟩⟩
    · have d8 : decide ((r.size : Int) ≥ 8) = false := decide_eq_false (by omega)
      have d8' : decide (8 ≤ (r.size : Int)) = false := decide_eq_false (by omega)
      have d8'' : decide (8 ≤ r.size) = false := decide_eq_false (by omega)
      gi_wp2
      go_end0
      have hn : blocks v k r = [] := blocks_nil v (fun h => h8 h.1)
      refine ⟨⟨_, rfl⟩, .inl ⟨pre, ?_, HJ0.out⟩⟩
      rw [HX.out, hn, List.append_nil]
end Go.Proofs.Ytiknnbjfpdeieaa.HGet
