/- RulesLess and RulesLet walked, over the book of rules. Conditions: RulesOk's answer is known, the numbers are ints, the list is small. -/
import Derived.Test.YtnadkhgdeofheaaProg
import Derived.Below
import Derived.Deep.Draws
import Derived.Deep.AppendLies
import Derived.Maps.AppendAt
import Derived.OwnWalk
import Derived.Laws.BytesArg
import Derived.Laws.MakeOwn
import Derived.Laws.OwnMore
import Derived.Deep.OwnRows
import Derived.Tactics
import Derived.Lib.ConvBytes
import Derived.Laws.Slices
import Derived.WalkKit
import Derived.KernelRfl
import Derived.RowKit3
import Derived.Deep.LoopGhost
import Derived.Deep.QuietTactic
import Derived.BigQuiet
import Derived.WideLaws
import Derived.Deep.DeepCutAuto
import Derived.Deep.CutBlock
import Derived.Deep.RegionHeld3
import Derived.Laws.Rows
import Derived.Lib.AppendStr
import Derived.ArgAppend
import Derived.Laws.IdiomCopy
import Derived.OrdersHeld
import Derived.Laws.BitsLemmas
import Derived.RowKit
import Derived.Test.YtnadkhgdeofheaaWWords
import Derived.Test.YtnadkhgdeofheaaWLast
import Derived.Test.YtnadkhgdeofheaaWTab
import Derived.Test.YtnadkhgdeofheaaWFour
import Derived.Test.YtnadkhgdeofheaaWQPut
import Derived.Test.YtnadkhgdeofheaaWApart
import Derived.Test.YtnadkhgdeofheaaWArr
import Derived.Test.YtnadkhgdeofheaaWZeros
import Derived.Test.YtnadkhgdeofheaaWFoot
import Derived.Test.YtnadkhgdeofheaaWKept
import Derived.Test.YtnadkhgdeofheaaWShare
import Derived.Test.YtnadkhgdeofheaaWN
import Derived.Test.YtnadkhgdeofheaaWFootNe
import Derived.Test.YtnadkhgdeofheaaWAt
import Derived.Test.YtnadkhgdeofheaaWEqStruct
import Derived.Test.YtnadkhgdeofheaaWRepsOne
import Derived.Test.YtnadkhgdeofheaaWInv
import Derived.Test.YtnadkhgdeofheaaWInvWords
import Derived.Test.YtnadkhgdeofheaaWGuard
import Derived.Test.YtnadkhgdeofheaaWNEv
import Derived.Test.YtnadkhgdeofheaaWMore
import Derived.Laws.ResultCell
import Derived.Test.YtnadkhgdeofheaaHBook3
namespace Go.Proofs.Ytnadkhgdeofheaa.HBook
open Go Go.RowKit Go.Proofs.YtnadkhgdeofheaaW.PrintWords Go.Proofs.YtnadkhgdeofheaaW.PrintLast Go.Proofs.YtnadkhgdeofheaaW.PrintMore Go.Proofs.Ytnadkhgdeofheaa.Aux Go.Proofs.Ytnadkhgdeofheaa.HRound Go.Proofs.Ytnadkhgdeofheaa.HMap
set_option linter.unusedVariables false
set_option linter.unusedSimpArgs false
theorem field1 (m : Option Nat) (a : Option Addr) (n c : Nat) (w : World) : Sem.run Try.prog (Instr.field 54 (.agg #[.map m, .slice a n c]) 1) w = .ok (.slice a n c) w := by
  have hu := run_underlying Try.underlying54
  simp [Instr.field, go_sem, hu, asAgg]
theorem less_no (A : Option Addr) (n c : Nat) (w : World) (HO : Aside0 (Calls Try.prog 10 #[.slice A n c] w fun e w' => e = .returned (.bool false) ∧ Below w.heap.size w w')) :
    Calls Try.prog 18 #[.slice A n c] w fun e w' => ∃ v, e = .returned v ∧ Kd.R kR 31 w' w.heap.size (fun _ => True) v [] ∧ Below w.heap.size w w' := by
  go_enter Try.func18, Try.ntmps18
  go_wp2_with (go_at_call 10; refine HO.out.mono ?_; rintro e w1 ⟨rfl, hb1⟩; have HB1 := Aside0.mk hb1; clear hb1)
  go_ret
  exact ⟨_, rfl, Kd.R_nil _ _ _ _ _, HB1.out⟩
theorem less_yes (A : Option Addr) (c : Nat) (l : List Rl) (w : World) (hC : Kd.C kR w A l.length l) (hc : l.length ≤ c) (hl : l.length ≤ 900) (hw : ∀ y ∈ l, RuleWf y) (HO : Aside0 (Calls Try.prog 10 #[.slice A l.length c] w fun e w' => e = .returned (.bool true) ∧ Below w.heap.size w w')) :
    Calls Try.prog 18 #[.slice A l.length c] w fun e w' => ∃ v, e = .returned v ∧ Kd.R kR 31 w' w.heap.size (fun _ => True) v (bookL l) ∧ Below w.heap.size w w' := by
  have HC := Aside0.mk hC
  have HC0 := Aside0.mk hc
  have HL := Aside0.mk hl
  have HW := Aside0.mk hw
  clear hC hc hl hw
  go_enter Try.func18, Try.ntmps18
  go_wp2_with (go_at_call 10; refine HO.out.mono ?_; rintro e w1 ⟨rfl, hb1⟩; have HB1 := Aside0.mk hb1; clear hb1)
  refine (book_any A c l w1 (Kd.C_below HC.out HB1.out) HC0.out HL.out HW.out).mono ?_
  rintro e w2 ⟨mb, v, rfl, hR, hM, hmb, hb2⟩
  obtain ⟨A2, c2, rfl⟩ := Kd.R_slice hR
  obtain ⟨L2, hL2⟩ : ∃ L, L = (bookL l).length := ⟨_, rfl⟩
  rw [← hL2] at hR
  rw [← hL2]
  have HR := Aside0.mk hR
  have HB2 := Aside0.mk hb2
  clear hR hM hmb hb2 hL2
  have hf := field1
  go_wp2
  go_ret
  exact ⟨_, rfl, Kd.R_lower HR.out HB1.out.size, HB1.out.trans (HB2.out.mono HB1.out.size)⟩
/-- May a command of this key in this mode. -/
def letL (xs : List Rl) (mode : Int) (k : K4) : Bool := match xs.find? (fun y => decide (key y = k)) with
  | some y => if mode = 0 then y.f4 else if mode = 1 then y.f5 else false
  | none => false
theorem letL_cases {xs : List Rl} (hn : (xs.map key).Nodup) (mode : Int) (k : K4) : (k ∉ xs.map key ∧ letL xs mode k = false) ∨ ∃ (i : Nat) (y : Rl), xs[i]? = some y ∧ key y = k ∧ letL xs mode k = if mode = 0 then y.f4 else if mode = 1 then y.f5 else false := by
  unfold letL
  cases h : xs.find? (fun y => decide (key y = k)) with
  | none =>
    refine Or.inl ⟨fun hm => ?_, rfl⟩
    obtain ⟨y, hy, rfl⟩ := List.mem_map.1 hm
    have := List.find?_eq_none.1 h y hy
    simp at this
  | some y =>
    obtain ⟨i, hi, hy⟩ := List.getElem_of_mem (List.mem_of_find?_eq_some h)
    refine Or.inr ⟨i, y, by rw [List.getElem?_eq_getElem hi, hy], ?_, rfl⟩
    have := List.find?_some h
    simpa using this
theorem let_no (A : Option Addr) (l : List Rl) (c : Nat) (mode a0 a1 a2 a3 a4 : Int) (s : ByteArray) (w : World) (HO : Aside0 (∀ W, Below w.heap.size w W → Calls Try.prog 10 #[.slice A l.length c] W fun e w' => e = .returned (.bool false) ∧ Below W.heap.size W w')) :
    Calls Try.prog 8 #[.slice A l.length c, .int .i64 mode, .agg #[.int .i64 a0, .int .i64 a1, .int .i64 a2, .int .i64 a3, .int .i64 a4, .string s]] w fun e w' => e = .returned (.bool false) ∧ Below w.heap.size w w' := by
  have h0 := (Below.refl w.heap.size w).alloc (Nat.le_refl _) (.cells #[.int .i64 a0, .int .i64 a1, .int .i64 a2, .int .i64 a3, .int .i64 a4, .string s] 25)
  have H0 := Aside0.mk h0
  clear h0
  go_enter Try.func8, Try.ntmps8
  go_wp2_with (go_at_call 10; refine (HO.out _ H0.out).mono ?_; rintro e w1 ⟨rfl, hb1⟩; have HB1 := Aside0.mk hb1; clear hb1)
  go_ret
  exact ⟨rfl, H0.out.trans (HB1.out.mono (by simp))⟩
set_option maxHeartbeats 4000000 in
theorem let_miss (A : Option Addr) (c : Nat) (l : List Rl) (mode a0 a1 a2 a3 a4 : Int) (s : ByteArray) (w : World) (hC : Kd.C kR w A l.length l) (hc : l.length ≤ c) (hl : l.length ≤ 900) (hw : ∀ y ∈ l, RuleWf y) (hkw : KeyWf (a2, a0, a3, a4)) (HO : Aside0 (∀ W, Below w.heap.size w W → Calls Try.prog 10 #[.slice A l.length c] W fun e w' => e = .returned (.bool true) ∧ Below W.heap.size W w')) (hno : (a2, a0, a3, a4) ∉ (bookL l).map key) :
    Calls Try.prog 8 #[.slice A l.length c, .int .i64 mode, .agg #[.int .i64 a0, .int .i64 a1, .int .i64 a2, .int .i64 a3, .int .i64 a4, .string s]] w fun e w' => e = .returned (.bool false) ∧ Below w.heap.size w w' := by
  have HNO := Aside0.mk hno
  clear hno
  have HC := Aside0.mk hC
  have HC0 := Aside0.mk hc
  have HL := Aside0.mk hl
  have HW := Aside0.mk hw
  have HKW := Aside0.mk hkw
  have h0 := (Below.refl w.heap.size w).alloc (Nat.le_refl _) (.cells #[.int .i64 a0, .int .i64 a1, .int .i64 a2, .int .i64 a3, .int .i64 a4, .string s] 25)
  have H0 := Aside0.mk h0
  clear hC hc hl hw hkw h0
  go_enter Try.func8, Try.ntmps8
  go_wp2_with (go_at_call 10; refine (HO.out _ H0.out).mono ?_; rintro e w1 ⟨rfl, hb1⟩; have HB1 := Aside0.mk hb1; clear hb1)
  have HBB : Aside0 (Below w.heap.size w w1) := ⟨H0.out.trans (HB1.out.mono (by simp))⟩
  have hsz1 : w.heap.size + 1 ≤ w1.heap.size := by
    have := HB1.out.size
    rw [World.size_alloc] at this
    exact this
  refine (book_any A c l w1 (Kd.C_below HC.out HBB.out) HC0.out HL.out HW.out).mono ?_
  rintro e w2 ⟨mb, v, rfl, hR, hM, hmb, hb2⟩
  have hx1 : w1.heap[w.heap.size]? = some (.cells #[.int .i64 a0, .int .i64 a1, .int .i64 a2, .int .i64 a3, .int .i64 a4, .string s] 25 (0, 0)) := (HB1.out.block _ (by simp)).trans (World.alloc_heap_new w _)
  have hx2 : w2.heap[w.heap.size]? = some (.cells #[.int .i64 a0, .int .i64 a1, .int .i64 a2, .int .i64 a3, .int .i64 a4, .string s] 25 (0, 0)) := (hb2.block _ (by omega)).trans hx1
  have hlt2 : w.heap.size < w2.heap.size := (Array.getElem?_eq_some_iff.1 hx2).1
  have q0 : w2.cell? ⟨w.heap.size, 0, none⟩ = some (.int .i64 a0) := (blk_cell hx2 0).trans rfl
  have q2 : w2.cell? ⟨w.heap.size, 2, none⟩ = some (.int .i64 a2) := (blk_cell hx2 2).trans rfl
  have q3 : w2.cell? ⟨w.heap.size, 3, none⟩ = some (.int .i64 a3) := (blk_cell hx2 3).trans rfl
  have q4 : w2.cell? ⟨w.heap.size, 4, none⟩ = some (.int .i64 a4) := (blk_cell hx2 4).trans rfl
  have HB2 := Aside0.mk hb2
  have hgd := good_book l HW.out
  have hwk : ∀ k ∈ (bookL l).map key, KeyWf k := fun k hk => by
    obtain ⟨y, hy, rfl⟩ := List.mem_map.1 hk
    exact hgd.2.1 y hy
  obtain ⟨es, clock, hmm⟩ := HMap.is_map hM
  have hml := (Array.getElem?_eq_some_iff.1 hmm).1
  obtain ⟨A2, c2, rfl⟩ := Kd.R_slice hR
  have hlk : ∀ o : Obj, (Instr.lookup 52 (.map (some mb)) (.agg #[.int .i64 a2, .int .i64 a0, .int .i64 a3, .int .i64 a4]) true).run Try.prog (w2.alloc o) = .ok (.tuple #[.int .i64 0, .bool false]) (w2.alloc o) := fun o => HMap.look_no (W := w2.alloc o) (HMap.same hM (Below.heap_alloc _ _ _ hml)) hwk HKW.out HNO.out
  clear hR hM hmb hb2 hx1 hx2 hgd hwk hmm
  obtain ⟨L2, hL2⟩ : ∃ L, L = (bookL l).length := ⟨_, rfl⟩
  rw [← hL2]
  clear hL2
  go_wp2
  go_ret
  exact ⟨rfl, (HBB.out.trans (HB2.out.mono HBB.out.size)).alloc (Nat.le_trans HBB.out.size HB2.out.size) _⟩
set_option maxHeartbeats 4000000 in
theorem let_hit_plain (A : Option Addr) (c : Nat) (l : List Rl) (mode a0 a1 a2 a3 a4 : Int) (s : ByteArray) (w : World) (hC : Kd.C kR w A l.length l) (hc : l.length ≤ c) (hl : l.length ≤ 900) (hw : ∀ y ∈ l, RuleWf y) (hkw : KeyWf (a2, a0, a3, a4)) (HO : Aside0 (∀ W, Below w.heap.size w W → Calls Try.prog 10 #[.slice A l.length c] W fun e w' => e = .returned (.bool true) ∧ Below W.heap.size W w')) (i : Nat) (y : Rl) (hy : (bookL l)[i]? = some y) (hk : key y = (a2, a0, a3, a4)) (hm : mode = 0) :
    Calls Try.prog 8 #[.slice A l.length c, .int .i64 mode, .agg #[.int .i64 a0, .int .i64 a1, .int .i64 a2, .int .i64 a3, .int .i64 a4, .string s]] w fun e w' => e = .returned (.bool y.f4) ∧ Below w.heap.size w w' := by
  have HY := Aside0.mk hy
  have HK := Aside0.mk hk
  clear hy hk
  have HC := Aside0.mk hC
  have HC0 := Aside0.mk hc
  have HL := Aside0.mk hl
  have HW := Aside0.mk hw
  have HKW := Aside0.mk hkw
  have h0 := (Below.refl w.heap.size w).alloc (Nat.le_refl _) (.cells #[.int .i64 a0, .int .i64 a1, .int .i64 a2, .int .i64 a3, .int .i64 a4, .string s] 25)
  have H0 := Aside0.mk h0
  clear hC hc hl hw hkw h0
  subst hm
  go_enter Try.func8, Try.ntmps8
  go_wp2_with (go_at_call 10; refine (HO.out _ H0.out).mono ?_; rintro e w1 ⟨rfl, hb1⟩; have HB1 := Aside0.mk hb1; clear hb1)
  have HBB : Aside0 (Below w.heap.size w w1) := ⟨H0.out.trans (HB1.out.mono (by simp))⟩
  have hsz1 : w.heap.size + 1 ≤ w1.heap.size := by
    have := HB1.out.size
    rw [World.size_alloc] at this
    exact this
  refine (book_any A c l w1 (Kd.C_below HC.out HBB.out) HC0.out HL.out HW.out).mono ?_
  rintro e w2 ⟨mb, v, rfl, hR, hM, hmb, hb2⟩
  have hx1 : w1.heap[w.heap.size]? = some (.cells #[.int .i64 a0, .int .i64 a1, .int .i64 a2, .int .i64 a3, .int .i64 a4, .string s] 25 (0, 0)) := (HB1.out.block _ (by simp)).trans (World.alloc_heap_new w _)
  have hx2 : w2.heap[w.heap.size]? = some (.cells #[.int .i64 a0, .int .i64 a1, .int .i64 a2, .int .i64 a3, .int .i64 a4, .string s] 25 (0, 0)) := (hb2.block _ (by omega)).trans hx1
  have hlt2 : w.heap.size < w2.heap.size := (Array.getElem?_eq_some_iff.1 hx2).1
  have q0 : w2.cell? ⟨w.heap.size, 0, none⟩ = some (.int .i64 a0) := (blk_cell hx2 0).trans rfl
  have q2 : w2.cell? ⟨w.heap.size, 2, none⟩ = some (.int .i64 a2) := (blk_cell hx2 2).trans rfl
  have q3 : w2.cell? ⟨w.heap.size, 3, none⟩ = some (.int .i64 a3) := (blk_cell hx2 3).trans rfl
  have q4 : w2.cell? ⟨w.heap.size, 4, none⟩ = some (.int .i64 a4) := (blk_cell hx2 4).trans rfl
  have HB2 := Aside0.mk hb2
  have hgd := good_book l HW.out
  have hwk : ∀ k ∈ (bookL l).map key, KeyWf k := fun k hk => by
    obtain ⟨y, hy, rfl⟩ := List.mem_map.1 hk
    exact hgd.2.1 y hy
  obtain ⟨es, clock, hmm⟩ := HMap.is_map hM
  have hml := (Array.getElem?_eq_some_iff.1 hmm).1
  have hil : i < (bookL l).length := (List.getElem?_eq_some_iff.1 HY.out).1
  obtain ⟨go, c2, rfl, hbg, hgl⟩ := R_head hR (by omega)
  have hki : ((bookL l).map key)[i]? = some (a2, a0, a3, a4) := by rw [List.getElem?_map, HY.out, ← HK.out]; rfl
  have hlk : ∀ o : Obj, (Instr.lookup 52 (.map (some mb)) (.agg #[.int .i64 a2, .int .i64 a0, .int .i64 a3, .int .i64 a4]) true).run Try.prog (w2.alloc o) = .ok (.tuple #[.int .i64 (i : Int), .bool true]) (w2.alloc o) := fun o => HMap.look_yes (W := w2.alloc o) (HMap.same hM (Below.heap_alloc _ _ _ hml)) hwk hgd.2.2 hki
  have hce4 : w2.cell? ⟨go, i * 6 + 4, none⟩ = some (.bool y.f4) := (R_put4 hR i hil true y HY.out).1
  have hce5 : w2.cell? ⟨go, i * 6 + 5, none⟩ = some (.bool y.f5) := (R_put5 hR i hil true y HY.out).1
  have hi0 : (0 ≤ (i : Int)) = True := eq_true (by omega)
  have hi1 : ((i : Int) < ((bookL l).length : Int)) = True := eq_true (by omega)
  have hi2 : (i < (bookL l).length) = True := eq_true hil
  clear hR hM hmb hb2 hx1 hx2 hgd hwk hmm hki hil
  obtain ⟨L2, hL2⟩ : ∃ L, L = (bookL l).length := ⟨_, rfl⟩
  rw [← hL2] at hi1 hi2
  rw [← hL2]
  clear hL2
  go_wp2
  go_ret
  exact ⟨rfl, (HBB.out.trans (HB2.out.mono HBB.out.size)).alloc (Nat.le_trans HBB.out.size HB2.out.size) _⟩
set_option maxHeartbeats 4000000 in
theorem let_hit_safe (A : Option Addr) (c : Nat) (l : List Rl) (mode a0 a1 a2 a3 a4 : Int) (s : ByteArray) (w : World) (hC : Kd.C kR w A l.length l) (hc : l.length ≤ c) (hl : l.length ≤ 900) (hw : ∀ y ∈ l, RuleWf y) (hkw : KeyWf (a2, a0, a3, a4)) (HO : Aside0 (∀ W, Below w.heap.size w W → Calls Try.prog 10 #[.slice A l.length c] W fun e w' => e = .returned (.bool true) ∧ Below W.heap.size W w')) (i : Nat) (y : Rl) (hy : (bookL l)[i]? = some y) (hk : key y = (a2, a0, a3, a4)) (hm : mode = 1) :
    Calls Try.prog 8 #[.slice A l.length c, .int .i64 mode, .agg #[.int .i64 a0, .int .i64 a1, .int .i64 a2, .int .i64 a3, .int .i64 a4, .string s]] w fun e w' => e = .returned (.bool y.f5) ∧ Below w.heap.size w w' := by
  have HY := Aside0.mk hy
  have HK := Aside0.mk hk
  clear hy hk
  have HC := Aside0.mk hC
  have HC0 := Aside0.mk hc
  have HL := Aside0.mk hl
  have HW := Aside0.mk hw
  have HKW := Aside0.mk hkw
  have h0 := (Below.refl w.heap.size w).alloc (Nat.le_refl _) (.cells #[.int .i64 a0, .int .i64 a1, .int .i64 a2, .int .i64 a3, .int .i64 a4, .string s] 25)
  have H0 := Aside0.mk h0
  clear hC hc hl hw hkw h0
  subst hm
  go_enter Try.func8, Try.ntmps8
  go_wp2_with (go_at_call 10; refine (HO.out _ H0.out).mono ?_; rintro e w1 ⟨rfl, hb1⟩; have HB1 := Aside0.mk hb1; clear hb1)
  have HBB : Aside0 (Below w.heap.size w w1) := ⟨H0.out.trans (HB1.out.mono (by simp))⟩
  have hsz1 : w.heap.size + 1 ≤ w1.heap.size := by
    have := HB1.out.size
    rw [World.size_alloc] at this
    exact this
  refine (book_any A c l w1 (Kd.C_below HC.out HBB.out) HC0.out HL.out HW.out).mono ?_
  rintro e w2 ⟨mb, v, rfl, hR, hM, hmb, hb2⟩
  have hx1 : w1.heap[w.heap.size]? = some (.cells #[.int .i64 a0, .int .i64 a1, .int .i64 a2, .int .i64 a3, .int .i64 a4, .string s] 25 (0, 0)) := (HB1.out.block _ (by simp)).trans (World.alloc_heap_new w _)
  have hx2 : w2.heap[w.heap.size]? = some (.cells #[.int .i64 a0, .int .i64 a1, .int .i64 a2, .int .i64 a3, .int .i64 a4, .string s] 25 (0, 0)) := (hb2.block _ (by omega)).trans hx1
  have hlt2 : w.heap.size < w2.heap.size := (Array.getElem?_eq_some_iff.1 hx2).1
  have q0 : w2.cell? ⟨w.heap.size, 0, none⟩ = some (.int .i64 a0) := (blk_cell hx2 0).trans rfl
  have q2 : w2.cell? ⟨w.heap.size, 2, none⟩ = some (.int .i64 a2) := (blk_cell hx2 2).trans rfl
  have q3 : w2.cell? ⟨w.heap.size, 3, none⟩ = some (.int .i64 a3) := (blk_cell hx2 3).trans rfl
  have q4 : w2.cell? ⟨w.heap.size, 4, none⟩ = some (.int .i64 a4) := (blk_cell hx2 4).trans rfl
  have HB2 := Aside0.mk hb2
  have hgd := good_book l HW.out
  have hwk : ∀ k ∈ (bookL l).map key, KeyWf k := fun k hk => by
    obtain ⟨y, hy, rfl⟩ := List.mem_map.1 hk
    exact hgd.2.1 y hy
  obtain ⟨es, clock, hmm⟩ := HMap.is_map hM
  have hml := (Array.getElem?_eq_some_iff.1 hmm).1
  have hil : i < (bookL l).length := (List.getElem?_eq_some_iff.1 HY.out).1
  obtain ⟨go, c2, rfl, hbg, hgl⟩ := R_head hR (by omega)
  have hki : ((bookL l).map key)[i]? = some (a2, a0, a3, a4) := by rw [List.getElem?_map, HY.out, ← HK.out]; rfl
  have hlk : ∀ o : Obj, (Instr.lookup 52 (.map (some mb)) (.agg #[.int .i64 a2, .int .i64 a0, .int .i64 a3, .int .i64 a4]) true).run Try.prog (w2.alloc o) = .ok (.tuple #[.int .i64 (i : Int), .bool true]) (w2.alloc o) := fun o => HMap.look_yes (W := w2.alloc o) (HMap.same hM (Below.heap_alloc _ _ _ hml)) hwk hgd.2.2 hki
  have hce4 : w2.cell? ⟨go, i * 6 + 4, none⟩ = some (.bool y.f4) := (R_put4 hR i hil true y HY.out).1
  have hce5 : w2.cell? ⟨go, i * 6 + 5, none⟩ = some (.bool y.f5) := (R_put5 hR i hil true y HY.out).1
  have hi0 : (0 ≤ (i : Int)) = True := eq_true (by omega)
  have hi1 : ((i : Int) < ((bookL l).length : Int)) = True := eq_true (by omega)
  have hi2 : (i < (bookL l).length) = True := eq_true hil
  clear hR hM hmb hb2 hx1 hx2 hgd hwk hmm hki hil
  obtain ⟨L2, hL2⟩ : ∃ L, L = (bookL l).length := ⟨_, rfl⟩
  rw [← hL2] at hi1 hi2
  rw [← hL2]
  clear hL2
  go_wp2
  go_ret
  exact ⟨rfl, (HBB.out.trans (HB2.out.mono HBB.out.size)).alloc (Nat.le_trans HBB.out.size HB2.out.size) _⟩
set_option maxHeartbeats 4000000 in
theorem let_hit_other (A : Option Addr) (c : Nat) (l : List Rl) (mode a0 a1 a2 a3 a4 : Int) (s : ByteArray) (w : World) (hC : Kd.C kR w A l.length l) (hc : l.length ≤ c) (hl : l.length ≤ 900) (hw : ∀ y ∈ l, RuleWf y) (hkw : KeyWf (a2, a0, a3, a4)) (HO : Aside0 (∀ W, Below w.heap.size w W → Calls Try.prog 10 #[.slice A l.length c] W fun e w' => e = .returned (.bool true) ∧ Below W.heap.size W w')) (i : Nat) (y : Rl) (hy : (bookL l)[i]? = some y) (hk : key y = (a2, a0, a3, a4)) (hm0 : ¬ mode = 0) (hm1 : ¬ mode = 1) :
    Calls Try.prog 8 #[.slice A l.length c, .int .i64 mode, .agg #[.int .i64 a0, .int .i64 a1, .int .i64 a2, .int .i64 a3, .int .i64 a4, .string s]] w fun e w' => e = .returned (.bool false) ∧ Below w.heap.size w w' := by
  have HY := Aside0.mk hy
  have HK := Aside0.mk hk
  clear hy hk
  have HC := Aside0.mk hC
  have HC0 := Aside0.mk hc
  have HL := Aside0.mk hl
  have HW := Aside0.mk hw
  have HKW := Aside0.mk hkw
  have h0 := (Below.refl w.heap.size w).alloc (Nat.le_refl _) (.cells #[.int .i64 a0, .int .i64 a1, .int .i64 a2, .int .i64 a3, .int .i64 a4, .string s] 25)
  have H0 := Aside0.mk h0
  clear hC hc hl hw hkw h0
  have m0 : (mode == 0) = false := beq_eq_false_iff_ne.mpr hm0
  have m1 : (mode == 1) = false := beq_eq_false_iff_ne.mpr hm1
  clear hm0 hm1
  go_enter Try.func8, Try.ntmps8
  go_wp2_with (go_at_call 10; refine (HO.out _ H0.out).mono ?_; rintro e w1 ⟨rfl, hb1⟩; have HB1 := Aside0.mk hb1; clear hb1)
  have HBB : Aside0 (Below w.heap.size w w1) := ⟨H0.out.trans (HB1.out.mono (by simp))⟩
  have hsz1 : w.heap.size + 1 ≤ w1.heap.size := by
    have := HB1.out.size
    rw [World.size_alloc] at this
    exact this
  refine (book_any A c l w1 (Kd.C_below HC.out HBB.out) HC0.out HL.out HW.out).mono ?_
  rintro e w2 ⟨mb, v, rfl, hR, hM, hmb, hb2⟩
  have hx1 : w1.heap[w.heap.size]? = some (.cells #[.int .i64 a0, .int .i64 a1, .int .i64 a2, .int .i64 a3, .int .i64 a4, .string s] 25 (0, 0)) := (HB1.out.block _ (by simp)).trans (World.alloc_heap_new w _)
  have hx2 : w2.heap[w.heap.size]? = some (.cells #[.int .i64 a0, .int .i64 a1, .int .i64 a2, .int .i64 a3, .int .i64 a4, .string s] 25 (0, 0)) := (hb2.block _ (by omega)).trans hx1
  have hlt2 : w.heap.size < w2.heap.size := (Array.getElem?_eq_some_iff.1 hx2).1
  have q0 : w2.cell? ⟨w.heap.size, 0, none⟩ = some (.int .i64 a0) := (blk_cell hx2 0).trans rfl
  have q2 : w2.cell? ⟨w.heap.size, 2, none⟩ = some (.int .i64 a2) := (blk_cell hx2 2).trans rfl
  have q3 : w2.cell? ⟨w.heap.size, 3, none⟩ = some (.int .i64 a3) := (blk_cell hx2 3).trans rfl
  have q4 : w2.cell? ⟨w.heap.size, 4, none⟩ = some (.int .i64 a4) := (blk_cell hx2 4).trans rfl
  have HB2 := Aside0.mk hb2
  have hgd := good_book l HW.out
  have hwk : ∀ k ∈ (bookL l).map key, KeyWf k := fun k hk => by
    obtain ⟨y, hy, rfl⟩ := List.mem_map.1 hk
    exact hgd.2.1 y hy
  obtain ⟨es, clock, hmm⟩ := HMap.is_map hM
  have hml := (Array.getElem?_eq_some_iff.1 hmm).1
  have hil : i < (bookL l).length := (List.getElem?_eq_some_iff.1 HY.out).1
  obtain ⟨go, c2, rfl, hbg, hgl⟩ := R_head hR (by omega)
  have hki : ((bookL l).map key)[i]? = some (a2, a0, a3, a4) := by rw [List.getElem?_map, HY.out, ← HK.out]; rfl
  have hlk : ∀ o : Obj, (Instr.lookup 52 (.map (some mb)) (.agg #[.int .i64 a2, .int .i64 a0, .int .i64 a3, .int .i64 a4]) true).run Try.prog (w2.alloc o) = .ok (.tuple #[.int .i64 (i : Int), .bool true]) (w2.alloc o) := fun o => HMap.look_yes (W := w2.alloc o) (HMap.same hM (Below.heap_alloc _ _ _ hml)) hwk hgd.2.2 hki
  have hce4 : w2.cell? ⟨go, i * 6 + 4, none⟩ = some (.bool y.f4) := (R_put4 hR i hil true y HY.out).1
  have hce5 : w2.cell? ⟨go, i * 6 + 5, none⟩ = some (.bool y.f5) := (R_put5 hR i hil true y HY.out).1
  have hi0 : (0 ≤ (i : Int)) = True := eq_true (by omega)
  have hi1 : ((i : Int) < ((bookL l).length : Int)) = True := eq_true (by omega)
  have hi2 : (i < (bookL l).length) = True := eq_true hil
  clear hR hM hmb hb2 hx1 hx2 hgd hwk hmm hki hil
  obtain ⟨L2, hL2⟩ : ∃ L, L = (bookL l).length := ⟨_, rfl⟩
  rw [← hL2] at hi1 hi2
  rw [← hL2]
  clear hL2
  go_wp2
  go_ret
  exact ⟨rfl, (HBB.out.trans (HB2.out.mono HBB.out.size)).alloc (Nat.le_trans HBB.out.size HB2.out.size) _⟩
theorem let_yes (A : Option Addr) (c : Nat) (l : List Rl) (mode a0 a1 a2 a3 a4 : Int) (s : ByteArray) (w : World) (hC : Kd.C kR w A l.length l) (hc : l.length ≤ c) (hl : l.length ≤ 900) (hw : ∀ y ∈ l, RuleWf y) (hkw : KeyWf (a2, a0, a3, a4)) (HO : Aside0 (∀ W, Below w.heap.size w W → Calls Try.prog 10 #[.slice A l.length c] W fun e w' => e = .returned (.bool true) ∧ Below W.heap.size W w')) :
    Calls Try.prog 8 #[.slice A l.length c, .int .i64 mode, .agg #[.int .i64 a0, .int .i64 a1, .int .i64 a2, .int .i64 a3, .int .i64 a4, .string s]] w fun e w' => e = .returned (.bool (letL (bookL l) mode (a2, a0, a3, a4))) ∧ Below w.heap.size w w' := by
  rcases letL_cases (good_book l hw).2.2 mode (a2, a0, a3, a4) with ⟨hno, e⟩ | ⟨i, y, hy, hk, e⟩
  · rw [e]
    exact let_miss A c l mode a0 a1 a2 a3 a4 s w hC hc hl hw hkw HO hno
  · rw [e]
    by_cases h0 : mode = 0
    · rw [if_pos h0]
      exact let_hit_plain A c l mode a0 a1 a2 a3 a4 s w hC hc hl hw hkw HO i y hy hk h0
    · rw [if_neg h0]
      by_cases h1 : mode = 1
      · rw [if_pos h1]
        exact let_hit_safe A c l mode a0 a1 a2 a3 a4 s w hC hc hl hw hkw HO i y hy hk h1
      · rw [if_neg h1]
        exact let_hit_other A c l mode a0 a1 a2 a3 a4 s w hC hc hl hw hkw HO i y hy hk h0 h1
/-! ### One kind told by another's fields -/
theorem C_iso {α β γ : Type} {d : Kd α} {f : β → α} {g : γ → α} {h : β → γ} (hfg : ∀ x, g (h x) = f x) {w : World} {A : Option Addr} {n : Nat} {xs : List β} (hC : (Kd.iso d f).C w A n xs) : (Kd.iso d g).C w A n (xs.map h) := by
  obtain ⟨h1, h2, h3⟩ := hC
  refine ⟨by rw [List.length_map]; exact h1, h2, fun hp => ?_⟩
  obtain ⟨ad, hA, hh⟩ := h3 hp
  refine ⟨ad, hA, fun j p hj => ?_⟩
  rw [List.getElem?_map] at hj
  obtain ⟨x, hx, rfl⟩ := Option.map_eq_some_iff.1 hj
  obtain ⟨c, hc1, hc2, hc3⟩ := hh j x hx
  refine ⟨c, hc1, ?_, hc3⟩
  show d.K w (g (h x)) c
  rw [hfg]
  exact hc2
theorem R_iso {α β γ : Type} {d : Kd α} {f : β → α} {g : γ → α} {h : β → γ} (hfg : ∀ x, g (h x) = f x) {e : Nat} {w : World} {base : Nat} {ok : Nat → Prop} {v : Value} {xs : List β} (hR : (Kd.iso d f).R e w base ok v xs) : (Kd.iso d g).R e w base ok v (xs.map h) := by
  obtain ⟨h0, inner, ho, hr⟩ := hR
  refine ⟨h0, inner, by rw [List.length_map]; exact ho, by rw [List.length_map]; exact hr.1, fun j p hj => ?_⟩
  rw [List.getElem?_map] at hj
  obtain ⟨x, hx, rfl⟩ := Option.map_eq_some_iff.1 hj
  show d.M w base _ (g (h x)) _
  rw [hfg]
  exact hr.2 j x hx
end Go.Proofs.Ytnadkhgdeofheaa.HBook
