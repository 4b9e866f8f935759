/- SegCut walked over the iterator (HSegCut). -/
import Derived.Test.YtondhdiipaijiaaDoorProg
import Derived.Below
import Derived.Deep.Draws
import Derived.Deep.AppendLies
import Derived.Maps.AppendAt
import Derived.OwnWalk
import Derived.Laws.BytesArg
import Derived.Laws.MakeOwn
import Derived.Laws.OwnMore
import Derived.Deep.OwnRows
import Derived.Tactics
import Derived.Lib.ConvBytes
import Derived.Laws.Slices
import Derived.WalkKit
import Derived.KernelRfl
import Derived.RowKit3
import Derived.Deep.LoopGhost
import Derived.Deep.QuietTactic
import Derived.BigQuiet
import Derived.WideLaws
import Derived.Deep.DeepCutAuto
import Derived.Deep.CutBlock
import Derived.Deep.RegionHeld3
import Derived.Laws.Rows
import Derived.Lib.AppendStr
import Derived.ArgAppend
import Derived.Laws.IdiomCopy
import Derived.OrdersHeld
import Derived.Laws.BitsLemmas
import Derived.RowKit
import Derived.Test.YtondhdiipaijiaaDoorWWords
import Derived.Test.YtondhdiipaijiaaDoorWLast
import Derived.Test.YtondhdiipaijiaaDoorWTab
import Derived.Test.YtondhdiipaijiaaDoorWFour
import Derived.Test.YtondhdiipaijiaaDoorWQPut
import Derived.Test.YtondhdiipaijiaaDoorWApart
import Derived.Test.YtondhdiipaijiaaDoorWArr
import Derived.Test.YtondhdiipaijiaaDoorWZeros
import Derived.Test.YtondhdiipaijiaaDoorWFoot
import Derived.Test.YtondhdiipaijiaaDoorWKept
import Derived.Test.YtondhdiipaijiaaDoorWShare
import Derived.Test.YtondhdiipaijiaaDoorWN
import Derived.Test.YtondhdiipaijiaaDoorWFootNe
import Derived.Test.YtondhdiipaijiaaDoorWAt
import Derived.Test.YtondhdiipaijiaaDoorWEqStruct
import Derived.Test.YtondhdiipaijiaaDoorWRepsOne
import Derived.Test.YtondhdiipaijiaaDoorWInv
import Derived.Test.YtondhdiipaijiaaDoorWInvWords
import Derived.Test.YtondhdiipaijiaaDoorWGuard
import Derived.Test.YtondhdiipaijiaaDoorWNEv
import Derived.Test.YtondhdiipaijiaaDoorWMore
import Derived.Laws.ResultCell
import Derived.Test.YtondhdiipaijiaaDoorHSegCut
import Derived.RangeFuncFrom
namespace Go.Proofs.YtondhdiipaijiaaDoor.HSegCut
open Go Go.RowKit Go.Proofs.YtondhdiipaijiaaDoorW.PrintWords Go.Proofs.YtondhdiipaijiaaDoorW.PrintLast Go.Proofs.YtondhdiipaijiaaDoorW.PrintMore Go.Proofs.YtondhdiipaijiaaDoor.Aux Go.Proofs.YtondhdiipaijiaaDoor.HRound
set_option linter.unusedVariables false
set_option linter.unusedSimpArgs false
attribute [local go_sem] Oper.semAt_some
theorem info9 : (Tryd.prog.info? 9).map (fun i => (i.zero, i.size, i.bytes)) = some (some (.string ⟨#[]⟩), 1, 16) := by kernel_rfl
theorem outOf_len (via : Int) (q : List PM) : (outOf via q).length = q.length := List.length_map _
theorem outOf_snoc (via : Int) (q : List PM) (x : PM) : outOf via (q ++ [x]) = outOf via q ++ [one (x.1.1 + via) ++ x.1.2] := List.map_append
theorem maker (t : ByteArray) (w : World) : Calls Tryd.prog 34 #[.string t] w fun e w' => e = .returned (.func (.func 38) #[] #[.pointer (some ⟨w.heap.size, 0, none⟩)]) ∧ w' = w.alloc (.cells #[.string t] 9) := by
  go_enter Tryd.func34, Tryd.ntmps34
  go_wp2
  go_ret
  exact ⟨rfl, rfl⟩
theorem within_yes (n : Int) (w : World) (h0 : 0 ≤ n) (h1 : n ≤ 63) : Calls Tryd.prog 33 #[.int .i64 n, .int .i64 63] w fun e w' => e = .returned (.bool true) ∧ w' = w := by
  have c1 : decide (n ≥ 0) = true := decide_eq_true h0
  have c2 : decide (n ≤ 63) = true := decide_eq_true h1
  go_enter Tryd.func33, Tryd.ntmps33
  go_wp2_with fail
  go_ret
  exact ⟨rfl, rfl⟩
/-- A row of the call's own stays where every block of cells stays. -/
theorem R_cells {α : Type} {d : Kd α} {e base : Nat} {ok : Nat → Prop} {v : Value} {xs : List α} {A W : World} (h : d.R e A base ok v xs) (hk : ∀ (k : Nat) (c : Array Value) (e : TypeId) (fz : Nat × Nat), A.heap[k]? = some (Obj.cells c e fz) → W.heap[k]? = some (Obj.cells c e fz)) : d.R e W base ok v xs :=
  Kd.R_mono (Kd.R_move (Kd.R_bound h) fun k hb => by
    obtain ⟨_, _, _, q, _, cells, hc⟩ := hb
    rw [hk _ _ _ _ hc, hc]) (fun _ h => h.1)
/-- What lies while the parts are made: the way, what is out, the text. -/
def Held (n : Nat) (w : World) (t : ByteArray) (via : Int) (q : List PM) (W : World) : Prop :=
  W.heap[n]? = some (.cells #[.int .i64 via] 3 (0, 0)) ∧ W.heap[n + 2]? = some (.cells #[.string t] 9 (0, 0)) ∧ Below n w W ∧ ∃ v, W.heap[n + 1]? = some (.cells #[v] 38 (0, 0)) ∧ Kd.R Kd.string 9 W n (fun k => n + 3 ≤ k) v (outOf via q)
theorem held_same {n : Nat} {w : World} {t : ByteArray} {via : Int} {q : List PM} {A W : World} (h : Held n w t via q A) (hk : ∀ (k : Nat) (c : Array Value) (e : TypeId) (fz : Nat × Nat), A.heap[k]? = some (Obj.cells c e fz) → W.heap[k]? = some (Obj.cells c e fz)) (hb : Below n A W) : Held n w t via q W := by
  obtain ⟨h1, h2, h3, v, h4, h5⟩ := h
  exact ⟨hk _ _ _ _ h1, hk _ _ _ _ h2, h3.trans hb, v, hk _ _ _ _ h4, R_cells h5 hk⟩
theorem held_grown {n B : Nat} {w : World} {t : ByteArray} {via : Int} (hB : n ≤ B) {q : List PM} {A W : World} {row : Option Nat} (h : Held n w t via q A) (hg : A.grownBy W row) (hr : ∀ r, row = some r → B ≤ r ∧ ∃ o : Obj, A.heap[r]? = some o ∧ o.isCells = false) : Held n w t via q W := by
  have key : ∀ (k : Nat) (c : Array Value) (e : TypeId) (fz : Nat × Nat), A.heap[k]? = some (Obj.cells c e fz) → W.heap[k]? = some (Obj.cells c e fz) := fun k c e fz hc => by
    refine (hg.block k (Array.getElem?_eq_some_iff.1 hc).1 (fun e2 => ?_)).trans hc
    obtain ⟨_, o, ho, hn⟩ := hr k e2.symm
    rw [hc] at ho
    injection ho with ho
    rw [← ho] at hn
    cases hn
  have hsz : n ≤ A.heap.size := Nat.le_of_lt (Array.getElem?_eq_some_iff.1 h.1).1
  exact held_same h key ((Below.refl n A).grown hg hsz (fun k e => Nat.le_trans hB (hr k e).1))
theorem stops (pb : Nat) (t : ByteArray) (ht : t.size ≤ 106) (W0 : World) (hlt : pb < W0.heap.size) (hpb : W0.heap[pb]? = some (.cells #[.string t] 9 (0, 0))) :
    SeqStopsK Fence.wide 2 Tryd.prog 38 #[.pointer (some ⟨pb, 0, none⟩)] (fun x : PM => #[.int .i64 x.1.1, .string x.1.2]) (fun A B => B.heap[pb]? = A.heap[pb]?) (fun ys => ys = pieces t) (fun pre => pre <+: pieces t) 6 W0 :=
  fun l J Jx W hW _ _ hY h0 => iter pb t ht l J Jx W hY ((hW.block _ hlt).trans hpb) h0
set_option maxHeartbeats 4000000 in
theorem cut_any (a0 : ByteArray) (via : Int) (w : World) (HV : Aside0 (∀ n w, 0 ≤ n → n ≤ 255 → Calls Tryd.prog 35 #[.int .i64 n, .int .i64 1] w fun e w' => e = .returned (.string (one n)) ∧ Below w.heap.size w w')) (h106 : a0.size ≤ 106) (v0 : 0 ≤ via) (v1 : via ≤ 63) :
    Calls Tryd.prog 17 #[.string a0, .int .i64 via] w fun e w' => ∃ v, e = .returned v ∧ Kd.R Kd.string 9 w' w.heap.size (fun _ => True) v (cut a0 via) ∧ Below w.heap.size w w' := by
  have d1 : decide ((a0.size : Int) > 106) = false := decide_eq_false (by omega)
  have d2 : decide (106 < a0.size) = false := decide_eq_false (by omega)
  refine (callsIn_wide (n := 3)).1 ?_
  refine callsIn_of_wp_marks Tryd.func17 rfl trivial ?_ rfl
  simp only [Tryd.ntmps17, List.size_toArray, List.length_cons, List.length_nil, Nat.reduceAdd, Nat.reduceSub, Array.replicate_succ, Array.replicate_zero, List.push_toArray, List.append_toArray, List.nil_append, List.cons_append]
  gi_wp2_with (first | (refine ⟨trivial, ?_⟩; gi_at_call 33; refine (callsIn_wide.2 (within_yes via _ v0 v1)).mono ?_; rintro e w1 ⟨rfl, rfl⟩) | (refine ⟨trivial, ?_⟩; gi_at_call 34; refine (callsIn_wide.2 (maker a0 _)).mono ?_; rintro e w1 ⟨rfl, rfl⟩))
  obtain ⟨W0, hW0⟩ : ∃ W0, W0 = ((w.alloc (.cells #[.int .i64 via] 3)).alloc (.cells #[.slice none 0 0] 38)).alloc (.cells #[.string a0] 9) := ⟨_, rfl⟩
  have hx0 : W0.heap[w.heap.size]? = some (.cells #[.int .i64 via] 3 (0, 0)) := by
    rw [hW0, Below.heap_alloc _ _ _ (by simp; omega), Below.heap_alloc _ _ _ (by simp)]
    exact World.alloc_heap_new w _
  have hx1 : W0.heap[w.heap.size + 1]? = some (.cells #[.slice none 0 0] 38 (0, 0)) := by
    rw [hW0, Below.heap_alloc _ _ _ (by simp)]
    have := World.alloc_heap_new (w.alloc (.cells #[.int .i64 via] 3)) (.cells #[.slice none 0 0] 38)
    rwa [World.size_alloc] at this
  have hx2 : W0.heap[w.heap.size + 2]? = some (.cells #[.string a0] 9 (0, 0)) := by
    have := World.alloc_heap_new ((w.alloc (.cells #[.int .i64 via] 3)).alloc (.cells #[.slice none 0 0] 38)) (.cells #[.string a0] 9)
    rw [World.size_alloc, World.size_alloc] at this
    rw [hW0]
    exact this
  have hsz : W0.heap.size = w.heap.size + 3 := by rw [hW0]; simp
  have hb0 : Below w.heap.size w W0 := by
    rw [hW0]
    exact (((Below.refl _ w).alloc (Nat.le_refl _) _).alloc (by simp) _).alloc (by simp; omega) _
  have hH0 : Held w.heap.size w a0 via [] W0 := ⟨hx0, hx2, hb0, _, hx1, Kd.R_nil _ _ _ _ _⟩
  rw [← hW0]
  have HH0 := Aside0.mk hH0
  have HX2 := Aside0.mk hx2
  have HSZ := Aside0.mk hsz
  have hlt : w.heap.size + 2 < W0.heap.size := by omega
  have hle : w.heap.size ≤ W0.heap.size := by omega
  clear hH0 hx0 hx1 hx2 hb0 hsz hW0
  refine wpIn_rangeFunc_ownF (α := PM) rfl (by omega) (gf := 38) (lb := #[.pointer (some ⟨w.heap.size + 2, 0, none⟩)]) rfl trivial (enters_of Tryd.func38 (by kernel_rfl) rfl)
    (stops (w.heap.size + 2) a0 h106 W0 hlt HX2.out) (fun h k => k.trans h) (fun W l o o' hl _ _ _ => World.putObj_heap_other (by omega)) (Below.refl _ _) (fun _ => rfl)
    (fun pre W => Held w.heap.size w a0 via pre W) (fun _ _ _ => False) (fun s A B row hs hg hr => held_grown hle hs hg hr) (fun _ _ _ _ _ hs _ _ => hs) HH0.out
    (fun x => { tmps := #[.string a0, .int .i64 via, undef, .pointer (some ⟨w.heap.size, 0, none⟩), .slice none 0 0, .pointer (some ⟨w.heap.size + 1, 0, none⟩), .int .i64 x.1.1, .string x.1.2, .string a0, .int .i64 (a0.size : Int), .bool false, .bool false, .int .i64 via, .bool true, .bool false, .bool false, .string a0, .func (.func 38) #[] #[.pointer (some ⟨w.heap.size + 1 + 1, 0, none⟩)], .int .i64 x.1.1, .string x.1.2, undef, undef, undef, undef, undef, undef, undef, undef, undef, undef], defers := [] }) ?assign ?body ?done ?stop
  case assign =>
    intro l x W K hK
    gi_wp2
    exact hK
  case body =>
    rintro l q x W hH hlen
    obtain ⟨hh0, hh2, hBel, v, hh1, hRv0⟩ := hH
    have hmx : Tryd.prog.follows .mixedOrders = true := by kernel_rfl
    have hc0 : W.cell? ⟨w.heap.size, 0, none⟩ = some (.int .i64 via) := (blk_cell hh0 0).trans rfl
    have hc1 : W.cell? ⟨w.heap.size + 1, 0, none⟩ = some v := (blk_cell hh1 0).trans rfl
    have hf1 : W.frozen? ⟨w.heap.size + 1, 0, none⟩ = false := blk_frozen hh1 0
    have hm0 : 0 ≤ x.1.1 + via := by have := x.2.1.1; omega
    have hm1 : x.1.1 + via ≤ 255 := by have := x.2.1.2; omega
    have hx20 : x.1.2.size ≤ 20 := x.2.2
    have hlt2 : w.heap.size + 2 < W.heap.size := (Array.getElem?_eq_some_iff.1 hh2).1
    have hsW : w.heap.size ≤ W.heap.size := by omega
    have hBW : Below w.heap.size w W.drew := hBel.trans ⟨rfl, rfl, rfl, Nat.le_refl _, fun _ _ => rfl⟩
    have hRv : Kd.R Kd.string 9 W.drew w.heap.size (fun k => w.heap.size + 3 ≤ k) v (outOf via q) := Kd.R_move hRv0 fun _ _ => rfl
    have hw1 : wrap64 (x.1.1 + via) = x.1.1 + via := w64 (by omega) (by omega)
    have hq1 : ((one (x.1.1 + via)).size + x.1.2.size ≤ 9223372036854775807) = True := eq_true (by show 1 + x.1.2.size ≤ _; omega)
    have hq2 : (9223372036854775807 < (one (x.1.1 + via)).size + x.1.2.size) = False := eq_false (by show ¬ (_ < 1 + x.1.2.size); omega)
    have HVw := Aside0.mk (show ∀ W' : World, Calls Tryd.prog 35 #[.int .i64 (wrap64 (x.1.1 + via)), .int .i64 1] W' fun e w' => e = .returned (.string (one (x.1.1 + via))) ∧ Below W'.heap.size W' w' from fun W' => by rw [hw1]; exact HV.out _ W' hm0 hm1)
    clear hw1
    gi_wp2
    refine start_in (n := 10) (S := fun w' => w'.cell? ⟨w.heap.size + 1, 0, none⟩ = some v ∧ w'.cell? ⟨w.heap.size, 0, none⟩ = some (.int .i64 via)) (ds := [9]) #[false, false, false, false, false, false, false, false, false, false] (by kernel_rfl) (fun ⟨_, _, h⟩ => h) hmx rfl rfl ⟨hc1, hc0⟩ (fun hHeld => ?_)
    refine pure_ (i := 1) (N := some 21) (v := ?_) (a' := ?_) #[false, true, false, false, false, false, false, false, false, false] rfl rfl (by kernel_rfl) (fun _ _ _ h => h) (Or.inl ⟨by rfl, ?_⟩) ?_ ?_
    rotate_left
    · intro w'
      go_simp
      with_reducible rfl
    rotate_left
    · simp only [Act.put, List.setIfInBounds_toArray, List.set_cons_zero, List.set_cons_succ, i64_w, i32_w]
      rfl
    refine pure_ (i := 5) (N := some 25) (v := ?_) (a' := ?_) #[false, true, false, false, false, true, false, false, false, false] rfl rfl (by kernel_rfl) (fun _ _ _ h => h) (Or.inl ⟨by rfl, ?_⟩) ?_ ?_
    rotate_left
    · intro w'
      go_simp
      with_reducible rfl
    rotate_left
    · simp only [Act.put, List.setIfInBounds_toArray, List.set_cons_zero, List.set_cons_succ, i64_w, i32_w]
      rfl
    refine take_ (i := 0) (N := some 20) (v := ?_) (a' := ?_) #[true, true, false, false, false, true, false, false, false, false] rfl rfl (by kernel_rfl) (fun _ _ _ h => h) (Or.inl ⟨by rfl, ?_⟩) hHeld ?_ ?_
    rotate_left
    · rintro w' ⟨s0, s1⟩
      go_simp
      with_reducible rfl
    rotate_left
    · simp only [Act.put, List.setIfInBounds_toArray, List.set_cons_zero, List.set_cons_succ, i64_w, i32_w]
      rfl
    refine take_ (i := 2) (N := some 22) (v := ?_) (a' := ?_) #[true, true, true, false, false, true, false, false, false, false] rfl rfl (by kernel_rfl) (fun _ _ _ h => h) (Or.inl ⟨by rfl, ?_⟩) hHeld ?_ ?_
    rotate_left
    · rintro w' ⟨s0, s1⟩
      go_simp
      with_reducible rfl
    rotate_left
    · simp only [Act.put, List.setIfInBounds_toArray, List.set_cons_zero, List.set_cons_succ, i64_w, i32_w]
      rfl
    refine pure_ (i := 3) (N := some 23) (v := ?_) (a' := ?_) #[true, true, true, true, false, true, false, false, false, false] rfl rfl (by kernel_rfl) (fun _ _ _ h => h) (Or.inl ⟨by rfl, ?_⟩) ?_ ?_
    rotate_left
    · intro w'
      go_simp
      with_reducible rfl
    rotate_left
    · simp only [Act.put, List.setIfInBounds_toArray, List.set_cons_zero, List.set_cons_succ, i64_w, i32_w]
      rfl
    refine one_ (i := 4) (N := some 24) #[true, true, true, true, true, true, false, false, false, false] rfl rfl (by kernel_rfl) (by decide) (fun K hK => ?_)
    refine goes_ Tryd.func35 (by kernel_rfl) rfl #[.int .i64 (wrap64 (x.1.1 + via)), .int .i64 1] (by rfl) rfl rfl (by simp only [List.map_toArray, List.map_cons, List.map_nil]; rfl) ?_
    with_reducible refine (HVw.out _).mono ?_
    rintro e w3 ⟨rfl, hb3⟩
    refine ⟨_, rfl, ?_⟩
    have hB3 := hBW.trans (hb3.mono hsW)
    have hsz3 : W.heap.size ≤ w3.heap.size := hb3.size
    have HR3 := Aside0.mk (Kd.R_below (w := W.drew) hRv hb3)
    have hc1w : w3.cell? ⟨w.heap.size + 1, 0, none⟩ = some v := (hb3.cell (p := ⟨w.heap.size + 1, 0, none⟩) (by show w.heap.size + 1 < W.heap.size; omega)).trans hc1
    have hc0w : w3.cell? ⟨w.heap.size, 0, none⟩ = some (.int .i64 via) := (hb3.cell (p := ⟨w.heap.size, 0, none⟩) (by show w.heap.size < W.heap.size; omega)).trans hc0
    have hf1w : w3.frozen? ⟨w.heap.size + 1, 0, none⟩ = false := (hb3.frozen (p := ⟨w.heap.size + 1, 0, none⟩) (by show w.heap.size + 1 < W.heap.size; omega)).trans hf1
    refine hK.out _ _ ⟨hc1w, hc0w⟩ (fun hHeld => ?_)
    clear hK K
    refine norm_ (a' := ?_) ?_ ?_
    rotate_left
    · show Act.put _ (some 24) _ = _
      simp only [Act.put, List.setIfInBounds_toArray, List.set_cons_zero, List.set_cons_succ, i64_w, i32_w]
      rfl
    refine pure_ (i := 6) (N := some 26) (v := ?_) (a' := ?_) #[true, true, true, true, true, true, true, false, false, false] rfl rfl (by kernel_rfl) (fun _ _ _ h => h) (Or.inl ⟨by rfl, ?_⟩) ?_ ?_
    rotate_left
    · intro w'
      go_simp
      with_reducible rfl
    rotate_left
    · simp only [Act.put, List.setIfInBounds_toArray, List.set_cons_zero, List.set_cons_succ, i64_w, i32_w]
      rfl
    refine one_ (i := 7) (N := some 27) #[true, true, true, true, true, true, true, true, false, false] rfl rfl (by kernel_rfl) (by decide) (fun K hK => ?_)
    refine value_ (w1 := ?_) (v := ?_) (by rfl) rfl ?_ ?_
    rotate_left 2
    · go_simp
      constructor
      · rfl
      · rfl
    have hc1a : (w3.alloc (.cells #[.string (one (x.1.1 + via) ++ x.1.2)] 9)).cell? ⟨w.heap.size + 1, 0, none⟩ = some v := (((Below.refl w3.heap.size w3).alloc (Nat.le_refl _) _).cell (p := ⟨w.heap.size + 1, 0, none⟩) (by show w.heap.size + 1 < w3.heap.size; omega)).trans hc1w
    have hc0a : (w3.alloc (.cells #[.string (one (x.1.1 + via) ++ x.1.2)] 9)).cell? ⟨w.heap.size, 0, none⟩ = some (.int .i64 via) := (((Below.refl w3.heap.size w3).alloc (Nat.le_refl _) _).cell (p := ⟨w.heap.size, 0, none⟩) (by show w.heap.size < w3.heap.size; omega)).trans hc0w
    refine hK.out _ _ ⟨hc1a, hc0a⟩ (fun hHeld => ?_)
    clear hK K
    refine norm_ (a' := ?_) ?_ ?_
    rotate_left
    · show Act.put _ (some 27) _ = _
      simp only [Act.put, List.setIfInBounds_toArray, List.set_cons_zero, List.set_cons_succ, i64_w, i32_w]
      rfl
    refine one_ (i := 8) (N := some 28) #[true, true, true, true, true, true, true, true, true, false] rfl rfl (by kernel_rfl) (by decide) (fun K hK => ?_)
    refine Kd.R_append_step Kd.string (w0 := w) (W := w3) w.heap.size (by rfl) (.tmp 20) (.tmp 27) 38 9 (.string ⟨#[]⟩) 16 rfl Tryd.underlying38 info9 rfl (by decide) (by omega) v (outOf via q) (one (x.1.1 + via) ++ x.1.2) [.string (one (x.1.1 + via) ++ x.1.2)] (fun k => w.heap.size + 3 ≤ k) (fun _ => False) rfl rfl ?aP (fun _ hk => hk.elim) ?aF HR3.out ?aB ?aS ?aL ?_
    (case aP => exact rfl)
    (case aF => intro k hk; omega)
    (case aB => exact hB3)
    (case aS => omega)
    (case aL => have := outOf_len via q; omega)
    intro v2 w4 hR4 hB4 hg4 hat4
    obtain ⟨A2, c2, he2⟩ := Kd.R_slice hR4
    obtain ⟨L2, hL2⟩ : ∃ L, L = (outOf via q ++ [one (x.1.1 + via) ++ x.1.2]).length := ⟨_, rfl⟩
    rw [← hL2] at he2
    subst he2
    clear hL2
    have hg0 : w3.grownBy w4 v.ownBlock := by first | exact hg4 | exact (World.grownBy_alloc w3 _ v.ownBlock).trans hg4
    have hk4 : ∀ k, k < w.heap.size + 3 → w4.heap[k]? = w3.heap[k]? := fun k hk => hg0.block k (by omega) (fun e => by have := hRv.1 k e.symm; omega)
    have hc1b : w4.cell? ⟨w.heap.size + 1, 0, none⟩ = some v := by rw [← hc1w]; simp only [World.cell?, hk4 _ (show w.heap.size + 1 < w.heap.size + 3 by omega)]
    have hc0b : w4.cell? ⟨w.heap.size, 0, none⟩ = some (.int .i64 via) := by rw [← hc0w]; simp only [World.cell?, hk4 _ (show w.heap.size < w.heap.size + 3 by omega)]
    have hf1b : w4.frozen? ⟨w.heap.size + 1, 0, none⟩ = false := by rw [← hf1w]; simp only [World.frozen?, hk4 _ (show w.heap.size + 1 < w.heap.size + 3 by omega)]
    refine hK.out _ _ ⟨hc1b, hc0b⟩ (fun hHeld => ?_)
    clear hK K
    refine norm_ (a' := ?_) ?_ ?_
    rotate_left
    · show Act.put _ (some 28) _ = _
      simp only [Act.put, List.setIfInBounds_toArray, List.set_cons_zero, List.set_cons_succ, i64_w, i32_w]
      rfl
    refine last_ (i := 9) (N := none) #[true, true, true, true, true, true, true, true, true, true] rfl rfl (by kernel_rfl) (by decide) (fun K hK => ?_)
    refine skip_ (w1 := ?_) (by rfl) rfl ?_ ?_
    rotate_left
    · go_simp
      rfl
    refine hK.out _ _ ?_
    clear hK K
    refine done_ (by kernel_rfl) ?_
    have h14 : ∀ k, k < w.heap.size + 3 → w4.heap[k]? = W.heap[k]? := fun k hk => (hk4 k hk).trans (hb3.block k (by show k < W.heap.size; omega))
    have hh1' : w4.heap[w.heap.size + 1]? = some (.cells #[v] 38 (0, 0)) := (h14 _ (by omega)).trans hh1
    have hfar : ∀ k, k ≠ w.heap.size + 1 → (w4.setCell ⟨w.heap.size + 1, 0, none⟩ (.slice A2 L2 c2)).heap[k]? = w4.heap[k]? := fun k hk => Below.heap_setCell _ _ _ _ hk
    refine ⟨⟨?_, fun k o hk ho => ?_⟩, ?_, ?_, ?_, ?_, (.slice A2 L2 c2), one_setCell hh1', ?_⟩
    · have : (w4.setCell ⟨w.heap.size + 1, 0, none⟩ (.slice A2 L2 c2)).heap.size = w4.heap.size := by simp [World.setCell]
      have := hg0.size
      omega
    · have hkl : k < W.heap.size := (Array.getElem?_eq_some_iff.1 hk).1
      have hne : k ≠ w.heap.size + 1 := by
        rintro rfl
        rw [hh1] at hk
        injection hk with hk
        rw [← hk] at ho
        cases ho
      have hno2 : some k ≠ v.ownBlock := by
        intro e
        obtain ⟨_, _, _, qq, _, cells, hcc⟩ := (Kd.R_bound hRv).1 k e.symm
        have hcc2 : W.heap[k]? = some (.cells cells qq (0, 0)) := hcc
        rw [hcc2] at hk
        injection hk with hk
        rw [← hk] at ho
        cases ho
      rw [hfar k hne, hg0.block k (by omega) hno2, hb3.block k hkl]
      exact hk
    · exact (hfar _ (by omega)).trans (h14 _ (by omega))
    · exact (hfar _ (by omega)).trans ((h14 _ (by omega)).trans hh0)
    · exact (hfar _ (by omega)).trans ((h14 _ (by omega)).trans hh2)
    · exact hB4.setCell (p := ⟨w.heap.size + 1, 0, none⟩) (by show w.heap.size ≤ w.heap.size + 1; omega) _
    · rw [outOf_snoc]
      exact Kd.R_set hR4 hh1' (fun z hz => by
        rcases List.mem_cons.1 hz with rfl | hz
        · decide
        · exact absurd hz (by simp [Kd.string, Kd.scalar])) 0 _
  case done =>
    rintro D ys W hD rfl hH hK
    obtain ⟨hh0, hh2, hBel, v, hh1, hRv⟩ := hH
    have hc1 : W.cell? ⟨w.heap.size + 1, 0, none⟩ = some v := (blk_cell hh1 0).trans rfl
    gi_wp2
    refine ⟨by simp, .inl ⟨_, _, rfl, run_takeDeferred hK, ?_⟩⟩
    refine ⟨_, results_tmp rfl _ _ _, v, rfl, ?_, ?_⟩
    · refine Kd.R_mono (R_cells hRv fun k c e fz hc => ?_) (fun _ _ => trivial)
      refine (World.putObj_heap_other (fun e => ?_)).trans hc
      rw [e, hK] at hc
      cases hc
    · exact hBel.trans (belowK_b (w := w) (Nat.le_refl _) W D _ _ (by have := HSZ.out; omega) hK rfl rfl)
  case stop =>
    rintro D c pre W _ _ h _
    exact h.elim
theorem cut_none (a0 : ByteArray) (via : Int) (w : World) (h : ¬ (a0.size ≤ 106 ∧ 0 ≤ via ∧ via ≤ 63)) :
    Calls Tryd.prog 17 #[.string a0, .int .i64 via] w fun e w' => ∃ v, e = .returned v ∧ Kd.R Kd.string 9 w' w.heap.size (fun _ => True) v [] ∧ Below w.heap.size w w' := by
  by_cases h1 : a0.size ≤ 106
  · have d1 : decide ((a0.size : Int) > 106) = false := decide_eq_false (by omega)
    have d2 : decide (106 < a0.size) = false := decide_eq_false (by omega)
    have key : ∀ W : World, Calls Tryd.prog 33 #[.int .i64 via, .int .i64 63] W fun e w' => e = .returned (.bool false) ∧ w' = W := by
      intro W
      by_cases h2 : 0 ≤ via
      · have c1 : decide (via ≥ 0) = true := decide_eq_true h2
        have c2 : decide (via ≤ 63) = false := decide_eq_false (by omega)
        clear h h1 h2 d1 d2
        go_enter Tryd.func33, Tryd.ntmps33
        go_wp2_with fail
        go_ret
        exact ⟨rfl, rfl⟩
      · have c1 : decide (via ≥ 0) = false := decide_eq_false h2
        clear h h1 h2 d1 d2
        go_enter Tryd.func33, Tryd.ntmps33
        go_wp2_with fail
        go_ret
        exact ⟨rfl, rfl⟩
    clear h h1
    go_enter Tryd.func17, Tryd.ntmps17
    go_wp2_with (go_at_call 33; refine (key _).mono ?_; rintro e w1 ⟨rfl, rfl⟩)
    go_ret
    exact ⟨_, rfl, Kd.R_nil _ _ _ _ _, (Below.refl _ _).alloc (Nat.le_refl _) _⟩
  · have d1 : decide ((a0.size : Int) > 106) = true := decide_eq_true (by omega)
    have d2 : decide (106 < a0.size) = true := decide_eq_true (by omega)
    clear h h1
    go_enter Tryd.func17, Tryd.ntmps17
    go_wp2
    go_ret
    exact ⟨_, rfl, Kd.R_nil _ _ _ _ _, (Below.refl _ _).alloc (Nat.le_refl _) _⟩
end Go.Proofs.YtondhdiipaijiaaDoor.HSegCut
