/- The book of rules: one rule added (ruleBook.add). Conditions: what is added has numbers that are ints, and the book is small. -/
import Derived.Test.YtnadkhgdeofheaaProg
import Derived.Below
import Derived.Deep.Draws
import Derived.Deep.AppendLies
import Derived.Maps.AppendAt
import Derived.OwnWalk
import Derived.Laws.BytesArg
import Derived.Laws.MakeOwn
import Derived.Laws.OwnMore
import Derived.Deep.OwnRows
import Derived.Tactics
import Derived.Lib.ConvBytes
import Derived.Laws.Slices
import Derived.WalkKit
import Derived.KernelRfl
import Derived.RowKit3
import Derived.Deep.LoopGhost
import Derived.Deep.QuietTactic
import Derived.BigQuiet
import Derived.WideLaws
import Derived.Deep.DeepCutAuto
import Derived.Deep.CutBlock
import Derived.Deep.RegionHeld3
import Derived.Laws.Rows
import Derived.Lib.AppendStr
import Derived.ArgAppend
import Derived.Laws.IdiomCopy
import Derived.OrdersHeld
import Derived.Laws.BitsLemmas
import Derived.RowKit
import Derived.Test.YtnadkhgdeofheaaWWords
import Derived.Test.YtnadkhgdeofheaaWLast
import Derived.Test.YtnadkhgdeofheaaWTab
import Derived.Test.YtnadkhgdeofheaaWFour
import Derived.Test.YtnadkhgdeofheaaWQPut
import Derived.Test.YtnadkhgdeofheaaWApart
import Derived.Test.YtnadkhgdeofheaaWArr
import Derived.Test.YtnadkhgdeofheaaWZeros
import Derived.Test.YtnadkhgdeofheaaWFoot
import Derived.Test.YtnadkhgdeofheaaWKept
import Derived.Test.YtnadkhgdeofheaaWShare
import Derived.Test.YtnadkhgdeofheaaWN
import Derived.Test.YtnadkhgdeofheaaWFootNe
import Derived.Test.YtnadkhgdeofheaaWAt
import Derived.Test.YtnadkhgdeofheaaWEqStruct
import Derived.Test.YtnadkhgdeofheaaWRepsOne
import Derived.Test.YtnadkhgdeofheaaWInv
import Derived.Test.YtnadkhgdeofheaaWInvWords
import Derived.Test.YtnadkhgdeofheaaWGuard
import Derived.Test.YtnadkhgdeofheaaWNEv
import Derived.Test.YtnadkhgdeofheaaWMore
import Derived.Laws.ResultCell
import Derived.Lib.Hide
import Derived.Test.YtnadkhgdeofheaaAux
import Derived.Test.YtnadkhgdeofheaaHRound
import Derived.Test.YtnadkhgdeofheaaHMap
namespace Go.Proofs.Ytnadkhgdeofheaa.HBook
open Go Go.RowKit Go.Proofs.YtnadkhgdeofheaaW.PrintWords Go.Proofs.YtnadkhgdeofheaaW.PrintLast Go.Proofs.YtnadkhgdeofheaaW.PrintMore Go.Proofs.Ytnadkhgdeofheaa.Aux Go.Proofs.Ytnadkhgdeofheaa.HRound Go.Proofs.Ytnadkhgdeofheaa.HMap
set_option linter.unusedVariables false
set_option linter.unusedSimpArgs false
/-- A rule. -/
structure Rl where
  f0 : Int
  f1 : Int
  f2 : Int
  f3 : Int
  f4 : Bool
  f5 : Bool
def kR : Kd Rl := Kd.iso (Kd.pair (Kd.int .i64) (Kd.pair (Kd.int .i64) (Kd.pair (Kd.int .i64) (Kd.pair (Kd.int .i64) (Kd.pair Kd.bool Kd.bool))))) (fun x : Rl => (x.f0, x.f1, x.f2, x.f3, x.f4, x.f5))
def zR : Rl := ⟨0, 0, 0, 0, false, false⟩
def key (x : Rl) : K4 := (x.f0, x.f1, x.f2, x.f3)
def merge (y x : Rl) : Rl := ⟨y.f0, y.f1, y.f2, y.f3, y.f4 || x.f4, y.f5 || x.f5⟩
abbrev cellsR (x : Rl) : List Value := [.int .i64 x.f0, .int .i64 x.f1, .int .i64 x.f2, .int .i64 x.f3, .bool x.f4, .bool x.f5]
theorem kR_mk (w : World) (x : Rl) : kR.K w x (cellsR x) := ⟨[.int .i64 x.f0], [.int .i64 x.f1, .int .i64 x.f2, .int .i64 x.f3, .bool x.f4, .bool x.f5], rfl, rfl, ⟨[.int .i64 x.f1], [.int .i64 x.f2, .int .i64 x.f3, .bool x.f4, .bool x.f5], rfl, rfl, ⟨[.int .i64 x.f2], [.int .i64 x.f3, .bool x.f4, .bool x.f5], rfl, rfl, ⟨[.int .i64 x.f3], [.bool x.f4, .bool x.f5], rfl, rfl, ⟨[.bool x.f4], [.bool x.f5], rfl, rfl, rfl⟩⟩⟩⟩⟩
theorem kR_mkM (w : World) (base : Nat) (ok : Nat → Prop) (x : Rl) : kR.M w base ok x (cellsR x) := ⟨[.int .i64 x.f0], [.int .i64 x.f1, .int .i64 x.f2, .int .i64 x.f3, .bool x.f4, .bool x.f5], rfl, rfl, ⟨[.int .i64 x.f1], [.int .i64 x.f2, .int .i64 x.f3, .bool x.f4, .bool x.f5], rfl, rfl, ⟨[.int .i64 x.f2], [.int .i64 x.f3, .bool x.f4, .bool x.f5], rfl, rfl, ⟨[.int .i64 x.f3], [.bool x.f4, .bool x.f5], rfl, rfl, ⟨[.bool x.f4], [.bool x.f5], rfl, rfl, rfl⟩⟩⟩⟩⟩
theorem kR_open {w : World} {x : Rl} {cs : List Value} (h : kR.K w x cs) : cs = cellsR x := by
  obtain ⟨_, _, rfl, rfl, ⟨_, _, rfl, rfl, ⟨_, _, rfl, rfl, ⟨_, _, rfl, rfl, ⟨_, _, rfl, rfl, rfl⟩⟩⟩⟩⟩ := h
  exact rfl
theorem kR_openM {w : World} {base : Nat} {ok : Nat → Prop} {x : Rl} {cs : List Value} (h : kR.M w base ok x cs) : cs = cellsR x := by
  obtain ⟨_, _, rfl, rfl, ⟨_, _, rfl, rfl, ⟨_, _, rfl, rfl, ⟨_, _, rfl, rfl, ⟨_, _, rfl, rfl, rfl⟩⟩⟩⟩⟩ := h
  exact rfl
theorem infoR : (Try.prog.info? 31).map (fun i => (i.zero, i.size, i.bytes)) = some (some (.agg #[.int .i64 0, .int .i64 0, .int .i64 0, .int .i64 0, .bool false, .bool false]), 6, 40) := by kernel_rfl
def RuleWf (x : Rl) : Prop := KeyWf (key x)
/-- The book lies in block g: the keys in block mb, the rules behind v. -/
def Book (g mb base : Nat) (W : World) (v : Value) (xs : List Rl) : Prop :=
  W.heap[g]? = some (.cells #[.map (some mb), v] 54 (0, 0)) ∧ Kd.R kR 31 W base (fun _ => True) v xs ∧ MapOk W mb (xs.map key) ∧ base ≤ g ∧ base ≤ mb
theorem book_same {g mb base : Nat} {W W' : World} {v : Value} {xs : List Rl} (h : Book g mb base W v xs) (hb : Below W.heap.size W W') : Book g mb base W' v xs := by
  obtain ⟨h1, h2, h3, h4, h5⟩ := h
  have hg := (Array.getElem?_eq_some_iff.1 h1).1
  obtain ⟨es, clock, hm⟩ := HMap.is_map h3
  have hmb := (Array.getElem?_eq_some_iff.1 hm).1
  exact ⟨(hb.block _ hg).trans h1, Kd.R_below h2 hb, HMap.same h3 (hb.block _ hmb), h4, h5⟩
theorem R_map {α : Type} {d : Kd α} {e base : Nat} {ok : Nat → Prop} {v : Value} {xs : List α} {W W' : World} {mb : Nat} {es : Array MapEntry} {clock : Nat} (h : d.R e W base ok v xs) (hm : W.heap[mb]? = some (.map es clock)) (hg : W.grownBy W' (some mb)) : d.R e W' base ok v xs :=
  Kd.R_mono (Kd.R_move (Kd.R_bound h) fun k hk => by
    obtain ⟨_, _, hlt, q, _, cells, hc⟩ := hk
    refine hg.block k hlt (fun e => ?_)
    injection e with e
    rw [e, hm] at hc
    cases hc) (fun _ h => h.1)
theorem map_ne {α : Type} {d : Kd α} {e base : Nat} {ok : Nat → Prop} {v : Value} {xs : List α} {W : World} {mb : Nat} {es : Array MapEntry} {clock : Nat} (h : d.R e W base ok v xs) (hm : W.heap[mb]? = some (.map es clock)) : some mb ≠ v.ownBlock := fun e => by
  obtain ⟨_, _, _, q, _, cells, hc⟩ := (Kd.R_bound h).1 mb e.symm
  rw [hm] at hc
  cases hc
theorem rules_ne {e : Nat} (h : e ∈ 31 :: kR.E) : e ≠ 54 := by
  rcases List.mem_cons.1 h with rfl | h
  · decide
  · exact absurd h (by simp [kR, Kd.iso, Kd.pair, Kd.int, Kd.bool, Kd.scalar])
set_option maxHeartbeats 4000000 in
set_option maxRecDepth 100000 in
theorem add_new (g mb base : Nat) (W : World) (v : Value) (xs : List Rl) (x : Rl) (hB : Book g mb base W v xs) (hl : xs.length ≤ 1000) (hw : ∀ y ∈ xs, RuleWf y) (hn : (xs.map key).Nodup) (hx : RuleWf x) (hno : key x ∉ xs.map key) :
    Calls Try.prog 36 #[.pointer (some ⟨g, 0, none⟩), .agg #[.int .i64 x.f0, .int .i64 x.f1, .int .i64 x.f2, .int .i64 x.f3, .bool x.f4, .bool x.f5]] W fun e W' => (∃ u, e = .returned u) ∧ (∃ v', Book g mb base W' v' (xs ++ [x])) ∧ Below base W W' := by
  go_enter Try.func36, Try.ntmps36
  go_wp2
  obtain ⟨W1, hW1⟩ : ∃ W1, W1 = (W.alloc (.cells #[.int .i64 x.f0, .int .i64 x.f1, .int .i64 x.f2, .int .i64 x.f3, .bool x.f4, .bool x.f5] 31)).alloc (.cells #[.int .i64 x.f0, .int .i64 x.f1, .int .i64 x.f2, .int .i64 x.f3] 58) := ⟨_, rfl⟩
  have hB1 : Below W.heap.size W W1 := by rw [hW1]; exact ((Below.refl _ W).alloc (Nat.le_refl _) _).alloc (by simp) _
  have hr1 : W1.heap[W.heap.size]? = some (.cells #[.int .i64 x.f0, .int .i64 x.f1, .int .i64 x.f2, .int .i64 x.f3, .bool x.f4, .bool x.f5] 31 (0, 0)) := by
    rw [hW1, Below.heap_alloc _ _ _ (by simp)]
    exact World.alloc_heap_new W _
  have hy1 : W1.heap[W.heap.size + 1]? = some (.cells #[.int .i64 x.f0, .int .i64 x.f1, .int .i64 x.f2, .int .i64 x.f3] 58 (0, 0)) := by
    have := World.alloc_heap_new (W.alloc (.cells #[.int .i64 x.f0, .int .i64 x.f1, .int .i64 x.f2, .int .i64 x.f3, .bool x.f4, .bool x.f5] 31)) (.cells #[.int .i64 x.f0, .int .i64 x.f1, .int .i64 x.f2, .int .i64 x.f3] 58)
    rw [World.size_alloc] at this
    rw [hW1]
    exact this
  rw [← hW1]
  have hsz1 : W.heap.size + 2 ≤ W1.heap.size := by rw [hW1]; simp
  clear hW1
  have hbw : base ≤ W.heap.size := by
    have := (Array.getElem?_eq_some_iff.1 hB.1).1
    have := hB.2.2.2.1
    omega
  have hgw : g < W.heap.size := (Array.getElem?_eq_some_iff.1 hB.1).1
  have hmw : mb < W.heap.size := by
    obtain ⟨_, _, hh⟩ := HMap.is_map hB.2.2.1
    exact (Array.getElem?_eq_some_iff.1 hh).1
  obtain ⟨hg1, hR1, hM1, hbg, hbm⟩ := book_same hB hB1
  clear hB
  obtain ⟨es1, clock1, hm1⟩ := HMap.is_map hM1
  have hgm : g ≠ mb := by
    rintro rfl
    rw [hg1] at hm1
    cases hm1
  obtain ⟨A, c, rfl⟩ := Kd.R_slice hR1
  have hcg0 : W1.cell? ⟨g, 0, none⟩ = some (.map (some mb)) := (blk_cell hg1 0).trans rfl
  have hcg1 : W1.cell? ⟨g, 1, none⟩ = some (.slice A xs.length c) := (blk_cell hg1 1).trans rfl
  have hfg1 : W1.frozen? ⟨g, 1, none⟩ = false := blk_frozen hg1 1
  have hy10 : W1.cell? ⟨W.heap.size + 1, 0, none⟩ = some (.int .i64 x.f0) := (blk_cell hy1 0).trans rfl
  have hy11 : W1.cell? ⟨W.heap.size + 1, 1, none⟩ = some (.int .i64 x.f1) := (blk_cell hy1 1).trans rfl
  have hy12 : W1.cell? ⟨W.heap.size + 1, 2, none⟩ = some (.int .i64 x.f2) := (blk_cell hy1 2).trans rfl
  have hy13 : W1.cell? ⟨W.heap.size + 1, 3, none⟩ = some (.int .i64 x.f3) := (blk_cell hy1 3).trans rfl
  have hr10 : W1.cell? ⟨W.heap.size, 0, none⟩ = some (.int .i64 x.f0) := (blk_cell hr1 0).trans rfl
  have hr11 : W1.cell? ⟨W.heap.size, 1, none⟩ = some (.int .i64 x.f1) := (blk_cell hr1 1).trans rfl
  have hr12 : W1.cell? ⟨W.heap.size, 2, none⟩ = some (.int .i64 x.f2) := (blk_cell hr1 2).trans rfl
  have hr13 : W1.cell? ⟨W.heap.size, 3, none⟩ = some (.int .i64 x.f3) := (blk_cell hr1 3).trans rfl
  have hr14 : W1.cell? ⟨W.heap.size, 4, none⟩ = some (.bool x.f4) := (blk_cell hr1 4).trans rfl
  have hr15 : W1.cell? ⟨W.heap.size, 5, none⟩ = some (.bool x.f5) := (blk_cell hr1 5).trans rfl
  have hwk : ∀ k ∈ xs.map key, KeyWf k := fun k hk => by
    obtain ⟨y, hy, rfl⟩ := List.mem_map.1 hk
    exact hw y hy
  have hlk : (Instr.lookup 52 (.map (some mb)) (.agg #[.int .i64 x.f0, .int .i64 x.f1, .int .i64 x.f2, .int .i64 x.f3]) true).run Try.prog W1.drew = .ok (.tuple #[.int .i64 0, .bool false]) W1.drew := HMap.look_no (W := W1.drew) (HMap.same hM1 rfl) hwk hx hno
  have hnl : xs.length = (xs.map key).length := (List.length_map _).symm
  obtain ⟨W3, hst, hM3, hgr3⟩ := HMap.store_new (W := W1.drew.drew) (k := key x) (HMap.same hM1 rfl) (by rw [List.length_map]; omega) hx
  rw [List.length_map] at hst
  have HST : Aside0 ((Instr.mapUpdate 52 (.map (some mb)) (.agg #[.int .i64 x.f0, .int .i64 x.f1, .int .i64 x.f2, .int .i64 x.f3]) (.int .i64 xs.length)).run Try.prog W1.drew.drew = .ok () W3) := ⟨hst⟩
  have HLK := Aside0.mk hlk
  clear hst hnl hlk hno
  have hlk := HLK.out
  refine start_ (n := 11) (S := fun w' => w'.cell? ⟨g, 0, none⟩ = some (.map (some mb)) ∧ w'.cell? ⟨W.heap.size + 1, 0, none⟩ = some (.int .i64 x.f0) ∧ w'.cell? ⟨W.heap.size + 1, 1, none⟩ = some (.int .i64 x.f1) ∧ w'.cell? ⟨W.heap.size + 1, 2, none⟩ = some (.int .i64 x.f2) ∧ w'.cell? ⟨W.heap.size + 1, 3, none⟩ = some (.int .i64 x.f3) ∧ (Instr.lookup 52 (.map (some mb)) (.agg #[.int .i64 x.f0, .int .i64 x.f1, .int .i64 x.f2, .int .i64 x.f3]) true).run Try.prog w' = .ok (.tuple #[.int .i64 0, .bool false]) w') (ds := []) #[false, false, false, false, false, false, false, false, false, false, false] (by kernel_rfl) rfl rfl ⟨hcg0, hy10, hy11, hy12, hy13, hlk⟩ (fun hHeld => ?_)
  refine pure_ (i := 0) (N := some 17) (v := ?_) (a' := ?_) #[true, false, false, false, false, false, false, false, false, false, false] rfl rfl (by kernel_rfl) (fun _ _ _ h => h) (Or.inl ⟨by rfl, ?_⟩) ?_ ?_
  rotate_left
  · intro w'
    go_simp
    with_reducible rfl
  rotate_left
  · simp only [Act.put, List.setIfInBounds_toArray, List.set_cons_zero, List.set_cons_succ, i64_w, i32_w]
    rfl
  refine pure_ (i := 1) (N := some 18) (v := ?_) (a' := ?_) #[true, true, false, false, false, false, false, false, false, false, false] rfl rfl (by kernel_rfl) (fun _ _ _ h => h) (Or.inl ⟨by rfl, ?_⟩) ?_ ?_
  rotate_left
  · intro w'
    go_simp
    with_reducible rfl
  rotate_left
  · simp only [Act.put, List.setIfInBounds_toArray, List.set_cons_zero, List.set_cons_succ, i64_w, i32_w]
    rfl
  refine pure_ (i := 2) (N := some 19) (v := ?_) (a' := ?_) #[true, true, true, false, false, false, false, false, false, false, false] rfl rfl (by kernel_rfl) (fun _ _ _ h => h) (Or.inl ⟨by rfl, ?_⟩) ?_ ?_
  rotate_left
  · intro w'
    go_simp
    with_reducible rfl
  rotate_left
  · simp only [Act.put, List.setIfInBounds_toArray, List.set_cons_zero, List.set_cons_succ, i64_w, i32_w]
    rfl
  refine take_ (i := 3) (N := some 20) (v := ?_) (a' := ?_) #[true, true, true, true, false, false, false, false, false, false, false] rfl rfl (by kernel_rfl) (fun _ _ _ h => h) (Or.inl ⟨by rfl, ?_⟩) hHeld ?_ ?_
  rotate_left
  · rintro w' ⟨s0, s1, s2, s3, s4, s5⟩
    go_simp
    with_reducible rfl
  rotate_left
  · simp only [Act.put, List.setIfInBounds_toArray, List.set_cons_zero, List.set_cons_succ, i64_w, i32_w]
    rfl
  refine take_ (i := 4) (N := some 21) (v := ?_) (a' := ?_) #[true, true, true, true, true, false, false, false, false, false, false] rfl rfl (by kernel_rfl) (fun _ _ _ h => h) (Or.inl ⟨by rfl, ?_⟩) hHeld ?_ ?_
  rotate_left
  · rintro w' ⟨s0, s1, s2, s3, s4, s5⟩
    go_simp
    with_reducible rfl
  rotate_left
  · simp only [Act.put, List.setIfInBounds_toArray, List.set_cons_zero, List.set_cons_succ, i64_w, i32_w]
    rfl
  refine take_ (i := 5) (N := some 22) (v := ?_) (a' := ?_) #[true, true, true, true, true, true, false, false, false, false, false] rfl rfl (by kernel_rfl) (fun _ _ _ h => h) (Or.inl ⟨by rfl, ?_⟩) hHeld ?_ ?_
  rotate_left
  · rintro w' ⟨s0, s1, s2, s3, s4, s5⟩
    go_simp
    with_reducible rfl
  rotate_left
  · simp only [Act.put, List.setIfInBounds_toArray, List.set_cons_zero, List.set_cons_succ, i64_w, i32_w]
    rfl
  refine pure_ (i := 6) (N := some 16) (v := ?_) (a' := ?_) #[true, true, true, true, true, true, true, false, false, false, false] rfl rfl (by kernel_rfl) (fun _ _ _ h => h) (Or.inl ⟨by rfl, ?_⟩) ?_ ?_
  rotate_left
  · intro w'
    go_simp
    with_reducible rfl
  rotate_left
  · simp only [Act.put, List.setIfInBounds_toArray, List.set_cons_zero, List.set_cons_succ, i64_w, i32_w]
    rfl
  refine pure_ (i := 7) (N := some 23) (v := ?_) (a' := ?_) #[true, true, true, true, true, true, true, true, false, false, false] rfl rfl (by kernel_rfl) (fun _ _ _ h => h) (Or.inl ⟨by rfl, ?_⟩) ?_ ?_
  rotate_left
  · intro w'
    go_simp
    with_reducible rfl
  rotate_left
  · simp only [Act.put, List.setIfInBounds_toArray, List.set_cons_zero, List.set_cons_succ, i64_w, i32_w]
    rfl
  refine pure_ (i := 8) (N := some 24) (v := ?_) (a' := ?_) #[true, true, true, true, true, true, true, true, true, false, false] rfl rfl (by kernel_rfl) (fun _ _ _ h => h) (Or.inl ⟨by rfl, ?_⟩) ?_ ?_
  rotate_left
  · intro w'
    go_simp
    with_reducible rfl
  rotate_left
  · simp only [Act.put, List.setIfInBounds_toArray, List.set_cons_zero, List.set_cons_succ, i64_w, i32_w]
    rfl
  refine pure_ (i := 9) (N := some 5) (v := ?_) (a' := ?_) #[true, true, true, true, true, true, true, true, true, true, false] rfl rfl (by kernel_rfl) (fun _ _ _ h => h) (Or.inl ⟨by rfl, ?_⟩) ?_ ?_
  rotate_left
  · intro w'
    go_simp
    with_reducible rfl
  rotate_left
  · simp only [Act.put, List.setIfInBounds_toArray, List.set_cons_zero, List.set_cons_succ, i64_w, i32_w]
    rfl
  refine pure_ (i := 10) (N := some 6) (v := ?_) (a' := ?_) #[true, true, true, true, true, true, true, true, true, true, true] rfl rfl (by kernel_rfl) (fun _ _ _ h => h) (Or.inl ⟨by rfl, ?_⟩) ?_ ?_
  rotate_left
  · intro w'
    go_simp
    with_reducible rfl
  rotate_left
  · simp only [Act.put, List.setIfInBounds_toArray, List.set_cons_zero, List.set_cons_succ, i64_w, i32_w]
    rfl
  refine done_ (by kernel_rfl) ?_

  clear hlk hHeld
  go_wp2
  have hst := HST.out
  refine start_ (n := 11) (S := fun w' => w'.cell? ⟨g, 0, none⟩ = some (.map (some mb)) ∧ w'.cell? ⟨g, 1, none⟩ = some (.slice A xs.length c) ∧ w'.cell? ⟨W.heap.size + 1, 0, none⟩ = some (.int .i64 x.f0) ∧ w'.cell? ⟨W.heap.size + 1, 1, none⟩ = some (.int .i64 x.f1) ∧ w'.cell? ⟨W.heap.size + 1, 2, none⟩ = some (.int .i64 x.f2) ∧ w'.cell? ⟨W.heap.size + 1, 3, none⟩ = some (.int .i64 x.f3)) (ds := [10]) #[false, false, false, false, false, false, false, false, false, false, false] (by kernel_rfl) rfl rfl ⟨hcg0, hcg1, hy10, hy11, hy12, hy13⟩ (fun hHeld => ?_)
  refine pure_ (i := 0) (N := some 27) (v := ?_) (a' := ?_) #[true, false, false, false, false, false, false, false, false, false, false] rfl rfl (by kernel_rfl) (fun _ _ _ h => h) (Or.inl ⟨by rfl, ?_⟩) ?_ ?_
  rotate_left
  · intro w'
    go_simp
    with_reducible rfl
  rotate_left
  · simp only [Act.put, List.setIfInBounds_toArray, List.set_cons_zero, List.set_cons_succ, i64_w, i32_w]
    rfl
  refine pure_ (i := 1) (N := some 28) (v := ?_) (a' := ?_) #[true, true, false, false, false, false, false, false, false, false, false] rfl rfl (by kernel_rfl) (fun _ _ _ h => h) (Or.inl ⟨by rfl, ?_⟩) ?_ ?_
  rotate_left
  · intro w'
    go_simp
    with_reducible rfl
  rotate_left
  · simp only [Act.put, List.setIfInBounds_toArray, List.set_cons_zero, List.set_cons_succ, i64_w, i32_w]
    rfl
  refine pure_ (i := 2) (N := some 29) (v := ?_) (a' := ?_) #[true, true, true, false, false, false, false, false, false, false, false] rfl rfl (by kernel_rfl) (fun _ _ _ h => h) (Or.inl ⟨by rfl, ?_⟩) ?_ ?_
  rotate_left
  · intro w'
    go_simp
    with_reducible rfl
  rotate_left
  · simp only [Act.put, List.setIfInBounds_toArray, List.set_cons_zero, List.set_cons_succ, i64_w, i32_w]
    rfl
  refine pure_ (i := 5) (N := some 32) (v := ?_) (a' := ?_) #[true, true, true, false, false, true, false, false, false, false, false] rfl rfl (by kernel_rfl) (fun _ _ _ h => h) (Or.inl ⟨by rfl, ?_⟩) ?_ ?_
  rotate_left
  · intro w'
    go_simp
    with_reducible rfl
  rotate_left
  · simp only [Act.put, List.setIfInBounds_toArray, List.set_cons_zero, List.set_cons_succ, i64_w, i32_w]
    rfl
  refine pure_ (i := 6) (N := some 33) (v := ?_) (a' := ?_) #[true, true, true, false, false, true, true, false, false, false, false] rfl rfl (by kernel_rfl) (fun _ _ _ h => h) (Or.inl ⟨by rfl, ?_⟩) ?_ ?_
  rotate_left
  · intro w'
    go_simp
    with_reducible rfl
  rotate_left
  · simp only [Act.put, List.setIfInBounds_toArray, List.set_cons_zero, List.set_cons_succ, i64_w, i32_w]
    rfl
  refine pure_ (i := 7) (N := some 34) (v := ?_) (a' := ?_) #[true, true, true, false, false, true, true, true, false, false, false] rfl rfl (by kernel_rfl) (fun _ _ _ h => h) (Or.inl ⟨by rfl, ?_⟩) ?_ ?_
  rotate_left
  · intro w'
    go_simp
    with_reducible rfl
  rotate_left
  · simp only [Act.put, List.setIfInBounds_toArray, List.set_cons_zero, List.set_cons_succ, i64_w, i32_w]
    rfl
  refine take_ (i := 3) (N := some 30) (v := ?_) (a' := ?_) #[true, true, true, true, false, true, true, true, false, false, false] rfl rfl (by kernel_rfl) (fun _ _ _ h => h) (Or.inl ⟨by rfl, ?_⟩) hHeld ?_ ?_
  rotate_left
  · rintro w' ⟨s0, s1, s2, s3, s4, s5⟩
    go_simp
    with_reducible rfl
  rotate_left
  · simp only [Act.put, List.setIfInBounds_toArray, List.set_cons_zero, List.set_cons_succ, i64_w, i32_w]
    rfl
  refine take_ (i := 4) (N := some 31) (v := ?_) (a' := ?_) #[true, true, true, true, true, true, true, true, false, false, false] rfl rfl (by kernel_rfl) (fun _ _ _ h => h) (Or.inl ⟨by rfl, ?_⟩) hHeld ?_ ?_
  rotate_left
  · rintro w' ⟨s0, s1, s2, s3, s4, s5⟩
    go_simp
    with_reducible rfl
  rotate_left
  · simp only [Act.put, List.setIfInBounds_toArray, List.set_cons_zero, List.set_cons_succ, i64_w, i32_w]
    rfl
  refine take_ (i := 8) (N := some 35) (v := ?_) (a' := ?_) #[true, true, true, true, true, true, true, true, true, false, false] rfl rfl (by kernel_rfl) (fun _ _ _ h => h) (Or.inl ⟨by rfl, ?_⟩) hHeld ?_ ?_
  rotate_left
  · rintro w' ⟨s0, s1, s2, s3, s4, s5⟩
    go_simp
    with_reducible rfl
  rotate_left
  · simp only [Act.put, List.setIfInBounds_toArray, List.set_cons_zero, List.set_cons_succ, i64_w, i32_w]
    rfl
  refine pure_ (i := 9) (N := some 36) (v := ?_) (a' := ?_) #[true, true, true, true, true, true, true, true, true, true, false] rfl rfl (by kernel_rfl) (fun _ _ _ h => h) (Or.inl ⟨by rfl, ?_⟩) ?_ ?_
  rotate_left
  · intro w'
    go_simp
    with_reducible rfl
  rotate_left
  · simp only [Act.put, List.setIfInBounds_toArray, List.set_cons_zero, List.set_cons_succ, i64_w, i32_w]
    rfl
  refine last_ (i := 10) (N := none) #[true, true, true, true, true, true, true, true, true, true, true] rfl rfl (by kernel_rfl) (by decide) (fun K hK => ?_)
  refine skip_ (w1 := ?_) (by rfl) rfl ?_ ?_
  rotate_left
  · go_simp
    rfl
  refine hK.out _ _ ?_
  clear hK K
  refine done_ (by kernel_rfl) ?_

  clear hst
  have hgl3 : g < W3.heap.size := Nat.lt_of_lt_of_le (Array.getElem?_eq_some_iff.1 hg1).1 hgr3.size
  have hml3 : mb < W3.heap.size := Nat.lt_of_lt_of_le (Array.getElem?_eq_some_iff.1 hm1).1 hgr3.size
  have hrl3 : W.heap.size < W3.heap.size := Nat.lt_of_lt_of_le (by show W.heap.size < W1.heap.size; omega) hgr3.size
  have hk3 : ∀ k, k < W1.heap.size → k ≠ mb → W3.heap[k]? = W1.heap[k]? := fun k hk hne => hgr3.block k hk (fun e => hne (by injection e))
  have hG3 : W3.drew.heap[g]? = some (.cells #[.map (some mb), .slice A xs.length c] 54 (0, 0)) := (hk3 g (Array.getElem?_eq_some_iff.1 hg1).1 hgm).trans hg1
  have hr3 : W3.heap[W.heap.size]? = some (.cells #[.int .i64 x.f0, .int .i64 x.f1, .int .i64 x.f2, .int .i64 x.f3, .bool x.f4, .bool x.f5] 31 (0, 0)) := (hk3 _ (by omega) (by omega)).trans hr1
  obtain ⟨es3, clock3, hm3⟩ := HMap.is_map hM3
  have HG3 := Aside0.mk hG3
  have HM3 : Aside0 (W3.drew.heap[mb]? = some (.map es3 clock3)) := ⟨hm3⟩
  have HMO3 := Aside0.mk hM3
  have HR3 : Aside0 (Kd.R kR 31 W3.drew base (fun _ => True) (.slice A xs.length c) xs) := ⟨Kd.R_move (R_map (W := W1.drew.drew) (W' := W3) (Kd.R_move hR1 (fun _ _ => rfl)) hm1 hgr3) (fun _ _ => rfl)⟩
  have HBel3 : Aside0 (Below base W W3.drew) := ⟨((((hB1.mono hbw).trans ⟨rfl, rfl, rfl, Nat.le_refl _, fun _ _ => rfl⟩ : Below base W W1.drew.drew).grown hgr3 (by show base ≤ W1.heap.size; omega) (fun k e => by injection e with e; omega)).trans ⟨rfl, rfl, rfl, Nat.le_refl _, fun _ _ => rfl⟩)⟩
  have HBS3 : Aside0 (base ≤ W3.drew.heap.size) := ⟨by show base ≤ W3.heap.size; omega⟩
  have hc3g1 : W3.cell? ⟨g, 1, none⟩ = some (.slice A xs.length c) := (blk_cell hG3 1).trans rfl
  have hc3r0 : W3.cell? ⟨W.heap.size, 0, none⟩ = some (.int .i64 x.f0) := (blk_cell hr3 0).trans rfl
  have hc3r1 : W3.cell? ⟨W.heap.size, 1, none⟩ = some (.int .i64 x.f1) := (blk_cell hr3 1).trans rfl
  have hc3r2 : W3.cell? ⟨W.heap.size, 2, none⟩ = some (.int .i64 x.f2) := (blk_cell hr3 2).trans rfl
  have hc3r3 : W3.cell? ⟨W.heap.size, 3, none⟩ = some (.int .i64 x.f3) := (blk_cell hr3 3).trans rfl
  have hc3r4 : W3.cell? ⟨W.heap.size, 4, none⟩ = some (.bool x.f4) := (blk_cell hr3 4).trans rfl
  have hc3r5 : W3.cell? ⟨W.heap.size, 5, none⟩ = some (.bool x.f5) := (blk_cell hr3 5).trans rfl
  clear hm3 hM3 hG3 hr3 hgr3 hk3
  go_wp2
  refine start_ (n := 11) (S := fun w' => w'.cell? ⟨g, 1, none⟩ = some (.slice A xs.length c) ∧ w'.cell? ⟨W.heap.size, 0, none⟩ = some (.int .i64 x.f0) ∧ w'.cell? ⟨W.heap.size, 1, none⟩ = some (.int .i64 x.f1) ∧ w'.cell? ⟨W.heap.size, 2, none⟩ = some (.int .i64 x.f2) ∧ w'.cell? ⟨W.heap.size, 3, none⟩ = some (.int .i64 x.f3) ∧ w'.cell? ⟨W.heap.size, 4, none⟩ = some (.bool x.f4) ∧ w'.cell? ⟨W.heap.size, 5, none⟩ = some (.bool x.f5)) (ds := [7, 10]) #[false, false, false, false, false, false, false, false, false, false, false] (by kernel_rfl) rfl rfl ⟨hc3g1, hc3r0, hc3r1, hc3r2, hc3r3, hc3r4, hc3r5⟩ (fun hHeld => ?_)
  refine pure_ (i := 0) (N := some 37) (v := ?_) (a' := ?_) #[true, false, false, false, false, false, false, false, false, false, false] rfl rfl (by kernel_rfl) (fun _ _ _ h => h) (Or.inl ⟨by rfl, ?_⟩) ?_ ?_
  rotate_left
  · intro w'
    go_simp
    with_reducible rfl
  rotate_left
  · simp only [Act.put, List.setIfInBounds_toArray, List.set_cons_zero, List.set_cons_succ, i64_w, i32_w]
    rfl
  refine pure_ (i := 1) (N := some 38) (v := ?_) (a' := ?_) #[true, true, false, false, false, false, false, false, false, false, false] rfl rfl (by kernel_rfl) (fun _ _ _ h => h) (Or.inl ⟨by rfl, ?_⟩) ?_ ?_
  rotate_left
  · intro w'
    go_simp
    with_reducible rfl
  rotate_left
  · simp only [Act.put, List.setIfInBounds_toArray, List.set_cons_zero, List.set_cons_succ, i64_w, i32_w]
    rfl
  refine pure_ (i := 2) (N := some 39) (v := ?_) (a' := ?_) #[true, true, true, false, false, false, false, false, false, false, false] rfl rfl (by kernel_rfl) (fun _ _ _ h => h) (Or.inl ⟨by rfl, ?_⟩) ?_ ?_
  rotate_left
  · intro w'
    go_simp
    with_reducible rfl
  rotate_left
  · simp only [Act.put, List.setIfInBounds_toArray, List.set_cons_zero, List.set_cons_succ, i64_w, i32_w]
    rfl
  refine pure_ (i := 3) (N := some 40) (v := ?_) (a' := ?_) #[true, true, true, true, false, false, false, false, false, false, false] rfl rfl (by kernel_rfl) (fun _ _ _ h => h) (Or.inl ⟨by rfl, ?_⟩) ?_ ?_
  rotate_left
  · intro w'
    go_simp
    with_reducible rfl
  rotate_left
  · simp only [Act.put, List.setIfInBounds_toArray, List.set_cons_zero, List.set_cons_succ, i64_w, i32_w]
    rfl
  refine take_ (i := 4) (N := some 41) (v := ?_) (a' := ?_) #[true, true, true, true, true, false, false, false, false, false, false] rfl rfl (by kernel_rfl) (fun _ _ _ h => h) (Or.inl ⟨by rfl, ?_⟩) hHeld ?_ ?_
  rotate_left
  · rintro w' ⟨s0, s1, s2, s3, s4, s5, s6⟩
    go_simp
    with_reducible rfl
  rotate_left
  · simp only [Act.put, List.setIfInBounds_toArray, List.set_cons_zero, List.set_cons_succ, i64_w, i32_w]
    rfl
  refine take_ (i := 5) (N := some 42) (v := ?_) (a' := ?_) #[true, true, true, true, true, true, false, false, false, false, false] rfl rfl (by kernel_rfl) (fun _ _ _ h => h) (Or.inl ⟨by rfl, ?_⟩) hHeld ?_ ?_
  rotate_left
  · rintro w' ⟨s0, s1, s2, s3, s4, s5, s6⟩
    go_simp
    with_reducible rfl
  rotate_left
  · simp only [Act.put, List.setIfInBounds_toArray, List.set_cons_zero, List.set_cons_succ, i64_w, i32_w]
    rfl
  refine one_ (i := 6) (N := some 43) #[true, true, true, true, true, true, true, false, false, false, false] rfl rfl (by kernel_rfl) (by decide) (fun K hK => ?_)
  refine value_ (w1 := ?_) (v := ?_) (by rfl) rfl ?_ ?_
  rotate_left 2
  · go_simp
    constructor
    · rfl
    · rfl
  have ha1 : ∀ (b i : Nat), b < W3.heap.size → (W3.drew.alloc (.cells #[.int .i64 x.f0, .int .i64 x.f1, .int .i64 x.f2, .int .i64 x.f3, .bool x.f4, .bool x.f5] 31)).cell? ⟨b, i, none⟩ = W3.cell? ⟨b, i, none⟩ := fun b i hb => ((Below.refl W3.drew.heap.size W3.drew).alloc (Nat.le_refl _) _).cell (p := ⟨b, i, none⟩) hb
  refine hK.out _ _ ⟨(ha1 _ _ hgl3).trans hc3g1, (ha1 _ _ hrl3).trans hc3r0, (ha1 _ _ hrl3).trans hc3r1, (ha1 _ _ hrl3).trans hc3r2, (ha1 _ _ hrl3).trans hc3r3, (ha1 _ _ hrl3).trans hc3r4, (ha1 _ _ hrl3).trans hc3r5⟩ (fun hHeld => ?_)
  clear hK K
  refine norm_ (a' := ?_) ?_ ?_
  rotate_left
  · show Act.put _ (some 43) _ = _
    simp only [Act.put, List.setIfInBounds_toArray, List.set_cons_zero, List.set_cons_succ, i64_w, i32_w]
    rfl
  refine last_ (i := 7) (N := some 44) #[true, true, true, true, true, true, true, true, false, false, false] rfl rfl (by kernel_rfl) (by decide) (fun K hK => ?_)
  refine Kd.R_append_step kR (w0 := W) (W := W3.drew) base (by rfl) (.tmp 41) (.tmp 43) 23 31 (.agg #[.int .i64 0, .int .i64 0, .int .i64 0, .int .i64 0, .bool false, .bool false]) 40 rfl Try.underlying23 infoR rfl (by decide) (by omega) (.slice A xs.length c) xs x (cellsR x) (fun _ => True) (fun _ => False) rfl rfl ?aP (fun _ hk => hk.elim) ?aF HR3.out ?aB ?aS ?aL ?_
  (case aP => exact kR_mkM _ _ _ x)
  (case aF => exact fun _ _ => trivial)
  (case aB => exact HBel3.out)
  (case aS => exact HBS3.out)
  (case aL => omega)
  intro v2 w5 hR5 hB5 hg5 hat5
  obtain ⟨A2, c2, he2⟩ := Kd.R_slice hR5
  obtain ⟨L2, hL2⟩ : ∃ L, L = (xs ++ [x]).length := ⟨_, rfl⟩
  rw [← hL2] at he2
  subst he2
  clear hL2
  have hgn5 : some g ≠ (Value.slice A xs.length c).ownBlock := Kd.R_ne HR3.out HG3.out (by decide)
  have hG5 : w5.heap[g]? = some (.cells #[.map (some mb), .slice A xs.length c] 54 (0, 0)) := (hg5.block g hgl3 hgn5).trans HG3.out
  have hM5 : w5.heap[mb]? = W3.heap[mb]? := hg5.block mb hml3 (map_ne HR3.out HM3.out)
  have hfg5 : w5.frozen? ⟨g, 1, none⟩ = false := blk_frozen hG5 1
  have hcg5 : w5.cell? ⟨g, 1, none⟩ = some (.slice A xs.length c) := (blk_cell hG5 1).trans rfl
  refine hK.out _ _ ?_
  clear hK K
  refine norm_ (a' := ?_) ?_ ?_
  rotate_left
  · show Act.put _ (some 44) _ = _
    simp only [Act.put, List.setIfInBounds_toArray, List.set_cons_zero, List.set_cons_succ, i64_w, i32_w]
    rfl
  refine pure_ (i := 8) (N := some 45) (v := ?_) (a' := ?_) #[true, true, true, true, true, true, true, true, true, false, false] rfl rfl (by kernel_rfl) (fun _ _ _ h => h) (Or.inl ⟨by rfl, ?_⟩) ?_ ?_
  rotate_left
  · intro w'
    go_simp
    with_reducible rfl
  rotate_left
  · simp only [Act.put, List.setIfInBounds_toArray, List.set_cons_zero, List.set_cons_succ, i64_w, i32_w]
    rfl
  refine pure_ (i := 9) (N := some 46) (v := ?_) (a' := ?_) #[true, true, true, true, true, true, true, true, true, true, false] rfl rfl (by kernel_rfl) (fun _ _ _ h => h) (Or.inl ⟨by rfl, ?_⟩) ?_ ?_
  rotate_left
  · intro w'
    go_simp
    with_reducible rfl
  rotate_left
  · simp only [Act.put, List.setIfInBounds_toArray, List.set_cons_zero, List.set_cons_succ, i64_w, i32_w]
    rfl
  refine last_ (i := 10) (N := none) #[true, true, true, true, true, true, true, true, true, true, true] rfl rfl (by kernel_rfl) (by decide) (fun K hK => ?_)
  refine skip_ (w1 := ?_) (by rfl) rfl ?_ ?_
  rotate_left
  · go_simp
    rfl
  refine hK.out _ _ ?_
  clear hK K
  refine done_ (by kernel_rfl) ?_

  go_wp2
  refine bodyPost_ret (results_none rfl _ _ _) rfl ⟨⟨_, rfl⟩, ⟨_, (blk_set hG5 1 _).trans rfl, Kd.R_set hR5 hG5 (fun z hz => rules_ne hz) 1 _, ?_, hbg, hbm⟩, ?_⟩
  · have hmm := HMap.same HMO3.out (show (w5.setCell ⟨g, 1, none⟩ (.slice A2 L2 c2)).heap[mb]? = W3.heap[mb]? from (Below.heap_setCell _ _ _ _ (by show mb ≠ g; omega)).trans hM5)
    rw [List.map_append]
    exact hmm
  · exact hB5.setCell (p := ⟨g, 1, none⟩) (by show base ≤ g; omega) _
end Go.Proofs.Ytnadkhgdeofheaa.HBook
