/- CltuGet walked over the iterator (HGet). -/
import Derived.Test.YtiknnbjfpdeieaaProg
import Derived.Below
import Derived.Deep.Draws
import Derived.Deep.AppendLies
import Derived.Maps.AppendAt
import Derived.OwnWalk
import Derived.Laws.BytesArg
import Derived.Laws.MakeOwn
import Derived.Laws.OwnMore
import Derived.Deep.OwnRows
import Derived.Tactics
import Derived.Lib.ConvBytes
import Derived.Laws.Slices
import Derived.WalkKit
import Derived.KernelRfl
import Derived.RowKit3
import Derived.Deep.LoopGhost
import Derived.Deep.QuietTactic
import Derived.BigQuiet
import Derived.WideLaws
import Derived.Deep.DeepCutAuto
import Derived.Deep.CutBlock
import Derived.Deep.RegionHeld3
import Derived.Laws.Rows
import Derived.Lib.AppendStr
import Derived.ArgAppend
import Derived.Laws.IdiomCopy
import Derived.OrdersHeld
import Derived.Laws.BitsLemmas
import Derived.RowKit
import Derived.Test.YtiknnbjfpdeieaaWWords
import Derived.Test.YtiknnbjfpdeieaaWLast
import Derived.Test.YtiknnbjfpdeieaaWTab
import Derived.Test.YtiknnbjfpdeieaaWFour
import Derived.Test.YtiknnbjfpdeieaaWQPut
import Derived.Test.YtiknnbjfpdeieaaWApart
import Derived.Test.YtiknnbjfpdeieaaWArr
import Derived.Test.YtiknnbjfpdeieaaWZeros
import Derived.Test.YtiknnbjfpdeieaaWFoot
import Derived.Test.YtiknnbjfpdeieaaWKept
import Derived.Test.YtiknnbjfpdeieaaWShare
import Derived.Test.YtiknnbjfpdeieaaWN
import Derived.Test.YtiknnbjfpdeieaaWFootNe
import Derived.Test.YtiknnbjfpdeieaaWAt
import Derived.Test.YtiknnbjfpdeieaaWEqStruct
import Derived.Test.YtiknnbjfpdeieaaWRepsOne
import Derived.Test.YtiknnbjfpdeieaaWInv
import Derived.Test.YtiknnbjfpdeieaaWInvWords
import Derived.Test.YtiknnbjfpdeieaaWGuard
import Derived.Test.YtiknnbjfpdeieaaWNEv
import Derived.Test.YtiknnbjfpdeieaaWMore
import Derived.Laws.ResultCell
import Derived.Test.YtiknnbjfpdeieaaHGet
namespace Go.Proofs.Ytiknnbjfpdeieaa.HGet
open Go Go.RowKit Go.Proofs.YtiknnbjfpdeieaaW.PrintWords Go.Proofs.YtiknnbjfpdeieaaW.PrintLast Go.Proofs.YtiknnbjfpdeieaaW.PrintMore Go.Proofs.Ytiknnbjfpdeieaa.Aux Go.Proofs.Ytiknnbjfpdeieaa.HRange
set_option linter.unusedVariables false
set_option linter.unusedSimpArgs false
attribute [local go_sem] Oper.semAt_some
/-- What blocks hold. -/
def cat (xs : List B7) : ByteArray := xs.foldl (fun s x => s ++ x.1) ⟨#[]⟩
theorem cat_snoc (xs : List B7) (x : B7) : cat (xs ++ [x]) = cat xs ++ x.1 := by simp [cat]
theorem fold_size (xs : List B7) : ∀ s : ByteArray, (xs.foldl (fun s (x : B7) => s ++ x.1) s).size = s.size + 7 * xs.length := by
  induction xs with
  | nil => intro s; rfl
  | cons x xs ih =>
    intro s
    rw [List.foldl_cons, ih, ByteArray.size_append, x.2, List.length_cons]
    omega
theorem cat_size (xs : List B7) : (cat xs).size = 7 * xs.length := by
  unfold cat
  rw [fold_size]
  show 0 + _ = _
  omega
/-- The blocks that CltuGet takes. -/
noncomputable def taken (v : ByteArray → Int) (t : ByteArray) : List B7 := (blocks v t.size t).take 9
theorem maker (t : ByteArray) (w : World) : Calls Try.prog 32 #[.string t] w fun e w' => e = .returned (.func (.func 43) #[] #[.pointer (some ⟨w.heap.size, 0, none⟩)]) ∧ w' = w.alloc (.cells #[.string t] 9) := by
  go_enter Try.func32, Try.ntmps32
  go_wp2
  go_ret
  exact ⟨rfl, rfl⟩
/-- What lies while the blocks are read: what is written, how far, the iterator's rest. -/
def Held (n : Nat) (w : World) (q : List B7) (W : World) : Prop :=
  Lib.IsBuilderF 39 5 n n (Lib.byteCells (cat q).data.toList) W ∧ W.heap[n + 1]? = some (.cells #[.int .i64 ((8 * q.length : Nat) : Int)] 3 (0, 0)) ∧ (∃ s : ByteArray, W.heap[n + 2]? = some (.cells #[.string s] 9 (0, 0))) ∧ Below n w W
theorem builder_same {B b : Nat} {bs : List Value} {A W : World} (h : Lib.IsBuilderF 39 5 B b bs A) (hk : ∀ (k : Nat) (c : Array Value) (e : TypeId) (fz : Nat × Nat), (e = 39 ∨ e = 5) → A.heap[k]? = some (Obj.cells c e fz) → W.heap[k]? = some (Obj.cells c e fz)) : Lib.IsBuilderF 39 5 B b bs W := by
  have one : ∀ p, Lib.BuilderAtF 39 5 B b p bs A → Lib.BuilderAtF 39 5 B b p bs W := fun p h => by
    obtain ⟨h1, v, h2, ⟨h3, h4⟩, h5⟩ := h
    refine ⟨h1, v, hk _ _ _ _ (.inl rfl) h2, ⟨h3, ?_⟩, h5⟩
    rcases h4 with h4 | ⟨g, cap, cur, fz, e1, e2, e3, e4⟩
    · exact .inl h4
    · exact .inr ⟨g, cap, cur, fz, e1, e2, hk _ _ _ _ (.inr rfl) e3, e4⟩
  exact h.elim (fun h => .inl (one _ h)) (fun h => .inr (one _ h))
theorem held_same {n : Nat} {w : World} {q : List B7} {A W : World} (h : Held n w q A) (hk : ∀ (k : Nat) (c : Array Value) (e : TypeId) (fz : Nat × Nat), k ≠ n + 2 → A.heap[k]? = some (Obj.cells c e fz) → W.heap[k]? = some (Obj.cells c e fz)) (hp : ∃ s : ByteArray, W.heap[n + 2]? = some (.cells #[.string s] 9 (0, 0))) (hb : Below n A W) : Held n w q W := by
  obtain ⟨h1, h2, ⟨s, h3⟩, h4⟩ := h
  refine ⟨builder_same h1 fun k c e fz he hc => hk k c e fz (fun e2 => ?_) hc, hk _ _ _ _ (by omega) h2, hp, h4.trans hb⟩
  rw [e2, h3] at hc
  injection hc with hc
  injection hc with _ hc _
  rcases he with he | he
  · rw [he] at hc; exact absurd hc (by decide)
  · rw [he] at hc; exact absurd hc (by decide)
theorem held_turn {n : Nat} {w : World} {q : List B7} {A W : World} (h : Held n w q A) (ht : Turn (n + 2) A W) : Held n w q W := by
  rcases ht with ⟨m, rfl⟩ | ⟨s, rfl⟩
  · exact held_same h (fun _ _ _ _ _ h => h) h.2.2.1 (HCltu.frame_drew (Below.refl n A))
  · obtain ⟨s0, h0⟩ := h.2.2.1
    exact held_same h (fun k c e fz hk hc => (Below.heap_setCell _ _ _ _ hk).trans hc) ⟨s, one_setCell h0⟩ ((Below.refl n A).setCell (p := ⟨n + 2, 0, none⟩) (by show n ≤ n + 2; omega) _)
theorem held_grown {n B : Nat} {w : World} (hB : n ≤ B) {q : List B7} {A W : World} {row : Option Nat} (h : Held n w q A) (hg : A.grownBy W row) (hr : ∀ r, row = some r → B ≤ r ∧ ∃ o : Obj, A.heap[r]? = some o ∧ o.isCells = false) : Held n w q W := by
  have key : ∀ (k : Nat) (c : Array Value) (e : TypeId) (fz : Nat × Nat), A.heap[k]? = some (Obj.cells c e fz) → W.heap[k]? = some (Obj.cells c e fz) := fun k c e fz hc => by
    refine (hg.block k (Array.getElem?_eq_some_iff.1 hc).1 (fun e2 => ?_)).trans hc
    obtain ⟨_, o, ho, hn⟩ := hr k e2.symm
    rw [hc] at ho
    injection ho with ho
    rw [← ho] at hn
    cases hn
  obtain ⟨s, hs⟩ := h.2.2.1
  have hsz : n ≤ A.heap.size := by
    have := (Array.getElem?_eq_some_iff.1 hs).1
    omega
  exact held_same h (fun k c e fz _ hc => key k c e fz hc) ⟨s, key _ _ _ _ hs⟩ ((Below.refl n A).grown hg hsz (fun k e => Nat.le_trans hB (hr k e).1))
theorem turn_keeps {n : Nat} {A B : World} (h : Turn n A B) : KeepsOthers A B := by
  rcases h with ⟨m, rfl⟩ | ⟨s, rfl⟩
  · exact ⟨Nat.le_refl _, fun _ _ h _ => h⟩
  · exact KeepsOthers.setCell _ _ _
theorem ret2 {p q : List B7} {U : Nat} (h : p = q) (hU : 8 * q.length = U) : Ending.returned (.tuple #[.string (cat q), .int .i64 (U : Int)]) = .returned (.tuple #[.string (cat p), .int .i64 ((8 * p.length : Nat) : Int)]) := by rw [h, hU]
set_option maxHeartbeats 4000000 in
theorem get_any (v : ByteArray → Int) (t : ByteArray) (w : World) (HV : Aside0 (∀ s w, s.size = 7 → Calls Try.prog 17 #[.string s] w fun e w' => e = .returned (.int .i64 (v s)) ∧ ∃ n, w' = w.drewN n)) :
    Calls Try.prog 14 #[.string t] w fun e w' => e = .returned (.tuple #[.string (cat (taken v t)), .int .i64 ((8 * (taken v t).length : Nat) : Int)]) ∧ Below w.heap.size w w' := by
  refine (callsIn_wide (n := 3)).1 ?_
  refine callsIn_of_wp_marks Try.func14 rfl trivial ?_ rfl
  simp only [Try.ntmps14, List.size_toArray, List.length_cons, List.length_nil, Nat.reduceAdd, Nat.reduceSub, Array.replicate_succ, Array.replicate_zero, List.push_toArray, List.append_toArray, List.nil_append, List.cons_append]
  gi_wp2_with (refine ⟨trivial, ?_⟩; gi_at_call 32; refine (callsIn_wide.2 (maker t _)).mono ?_; rintro e w1 ⟨rfl, rfl⟩)
  have hfr := Lib.fresh_isBuilder 39 5 w
  have hx0 := World.alloc_heap_new w (.cells #[.pointer none, .slice none 0 0] 39)
  have hx1 := World.alloc_heap_new (w.alloc (.cells #[.pointer none, .slice none 0 0] 39)) (.cells #[.int .i64 0] 3)
  have hx2 := World.alloc_heap_new ((w.alloc (.cells #[.pointer none, .slice none 0 0] 39)).alloc (.cells #[.int .i64 0] 3)) (.cells #[.string t] 9)
  have hb0 : Below w.heap.size w (((w.alloc (.cells #[.pointer none, .slice none 0 0] 39)).alloc (.cells #[.int .i64 0] 3)).alloc (.cells #[.string t] 9)) := (((Below.refl _ w).alloc (Nat.le_refl _) _).alloc (by simp) _).alloc (by simp; omega) _
  have hsz : (((w.alloc (.cells #[.pointer none, .slice none 0 0] 39)).alloc (.cells #[.int .i64 0] 3)).alloc (.cells #[.string t] 9)).heap.size = w.heap.size + 3 := by simp
  have hold : ∀ (k : Nat) (c : Array Value) (e : TypeId) (fz : Nat × Nat), (w.alloc (.cells #[.pointer none, .slice none 0 0] 39)).heap[k]? = some (Obj.cells c e fz) → (((w.alloc (.cells #[.pointer none, .slice none 0 0] 39)).alloc (.cells #[.int .i64 0] 3)).alloc (.cells #[.string t] 9)).heap[k]? = some (Obj.cells c e fz) := fun k c e fz h => by
    have hk := (Array.getElem?_eq_some_iff.1 h).1
    rw [Below.heap_alloc _ _ _ (by simp at hk ⊢; omega), Below.heap_alloc _ _ _ (by simp at hk ⊢; omega)]
    exact h
  simp only [World.size_alloc] at hx1 hx2
  have hH0 : Held w.heap.size w [] (((w.alloc (.cells #[.pointer none, .slice none 0 0] 39)).alloc (.cells #[.int .i64 0] 3)).alloc (.cells #[.string t] 9)) := by
    refine ⟨builder_same (Lib.IsBuilderF.of hfr) (fun k c e fz _ h => hold k c e fz h), ?_, ⟨t, hx2⟩, hb0⟩
    rw [Below.heap_alloc _ _ _ (by simp)]
    exact hx1
  have hI : ∀ (P : List B7 → List B7 → Prop), OwnFrom (((w.alloc (.cells #[.pointer none, .slice none 0 0] 39)).alloc (.cells #[.int .i64 0] 3)).alloc (.cells #[.string t] 9)).heap.size (fun pre W => ∃ q, P pre q ∧ Held w.heap.size w q W) := fun P s A B row hs hg hr => by
    obtain ⟨q, hq, hh⟩ := hs
    exact ⟨q, hq, held_grown (by rw [hsz]; omega) hh hg hr⟩
  have hT : ∀ (P : List B7 → List B7 → Prop) s A B, (∃ q, P s q ∧ Held w.heap.size w q A) → Turn (w.heap.size + 2) A B → (∃ q, P s q ∧ Held w.heap.size w q B) := fun P s A B hs ht => by
    obtain ⟨q, hq, hh⟩ := hs
    exact ⟨q, hq, held_turn hh ht⟩
  have HH0 := Aside0.mk hH0
  have HX2 := Aside0.mk hx2
  clear hfr hx0 hx1 hx2 hb0 hold hH0
  refine range_turn (α := B7) rfl (by omega) (gf := 43) (lb := #[.pointer (some ⟨w.heap.size + 2, 0, none⟩)]) rfl trivial (enters_of Try.func43 (by kernel_rfl) rfl) (encs := fun x => #[.string x.1]) (fun _ => rfl)
    (Turn (w.heap.size + 2)) (fun A B => B.heap[w.heap.size + 2]? = A.heap[w.heap.size + 2]?) (fun _ _ h => turn_keeps h) (fun _ _ _ h k => k.trans h) (fun W l o o' hl _ _ => World.putObj_heap_other (by rw [hsz] at hl; omega))
    (S := fun ys => ys = blocks v t.size t) (Sp := fun pre => pre <+: blocks v t.size t)
    (fun l J Jx W hW hJ hJx hY h0 => iter v HV (w.heap.size + 2) t.size t (Nat.le_refl _) l J Jx W hJ hJx hY ((hW.block _ (by rw [hsz]; omega)).trans HX2.out) h0)
    (fun pre W => ∃ q, (pre = q ∧ q.length ≤ 9) ∧ Held w.heap.size w q W) (fun pre W => ∃ q, (q.length = 9 ∧ ∃ x, pre = q ++ [x]) ∧ Held w.heap.size w q W) 0 (hI _) (hI _) (hT _) (hT _) ⟨[], ⟨rfl, by simp⟩, HH0.out⟩
    (fun x => { tmps := #[.string t, undef, .string ⟨#[]⟩, .int .i64 0, .pointer (some ⟨w.heap.size, 0, none⟩), .pointer (some ⟨w.heap.size + 1, 0, none⟩), .string x.1, .string t, .func (.func 43) #[] #[.pointer (some ⟨w.heap.size + 1 + 1, 0, none⟩)], .string x.1, undef, undef, undef, undef, undef, undef, undef, undef, undef, undef, undef], defers := [] }) ?assign ?body ?done ?stop
  case assign =>
    intro l x W K hK
    gi_wp2
    exact hK
  case body =>
    rintro l q x W ⟨_, ⟨rfl, hlen⟩, hH⟩
    obtain ⟨hB, hu, ⟨s, hp⟩, hBel⟩ := hH
    have HH := Aside0.mk (show Held w.heap.size w q W from ⟨hB, hu, ⟨s, hp⟩, hBel⟩)
    have HBld := Aside0.mk hB
    have HU := Aside0.mk hu
    have HP := Aside0.mk hp
    have HBe := Aside0.mk hBel
    have hws := hBel.size
    have hcu : W.cell? ⟨w.heap.size + 1, 0, none⟩ = some (.int .i64 ((8 * q.length : Nat) : Int)) := by rw [Lib.cell_of_heap hu]; rfl
    have hfu : W.frozen? ⟨w.heap.size + 1, 0, none⟩ = false := Lib.frozen_of_heap hu 0
    have hx7 := x.2
    have hl7 : (Lib.byteCells (cat q).data.toList).length = 7 * q.length := by rw [HCltu.cells_len, cat_size]
    clear hB hu hp hBel
    by_cases h9 : q.length = 9
    · gi_wp2_with (refine ⟨trivial, ?_⟩; gi_at_call 33; refine (CallsIn.inRound l (callsIn_wide.2 (Try.Builder_Len_f w.heap.size w.heap.size _ W HBld.out))).mono ?_; rintro e w2 ⟨rfl, rfl⟩; rw [hl7, h9])
      exact ⟨rfl, KeepsOthers.refl _, q, ⟨h9, x, rfl⟩, HH.out⟩
    · obtain ⟨M, hM⟩ : ∃ M, 7 * q.length = M := ⟨_, rfl⟩
      obtain ⟨U, hU⟩ : ∃ U, 8 * q.length = U := ⟨_, rfl⟩
      have hM56 : M ≤ 56 := by omega
      have hU64 : U ≤ 64 := by omega
      have g1 : wrap64 ((M : Int) + 7) = (M : Int) + 7 := w64 (by omega) (by omega)
      have g2 : decide ((M : Int) + 7 > 63) = false := decide_eq_false (by omega)
      have g3 : decide (63 < (M : Int) + 7) = false := decide_eq_false (by omega)
      have g4 : wrap64 ((U : Int) + 8) = (U : Int) + 8 := w64 (by omega) (by omega)
      have g5 : (63 < (M : Int) + 7) = False := eq_false (by omega)
      rw [hU] at hcu
      have hcatx : Lib.byteCells (cat q).data.toList ++ Lib.strCells x.1 = Lib.byteCells (cat (q ++ [x])).data.toList := by rw [HCltu.cells_add, cat_snoc]
      have HCX := Aside0.mk hcatx
      have HB7 := Aside0.mk (show (Lib.byteCells (cat q).data.toList).length + x.1.size ≤ 140737488355328 by rw [hl7, hM, hx7]; omega)
      clear hcatx
      gi_wp2_with (first | (refine ⟨trivial, ?_⟩; gi_at_call 33; refine (CallsIn.inRound l (callsIn_wide.2 (Try.Builder_Len_f w.heap.size w.heap.size _ W HBld.out))).mono ?_; rintro e w2 ⟨rfl, rfl⟩; rw [hl7, hM]))
      refine ⟨trivial, ?_⟩
      refine (CallsIn.inRound l (callsIn_wide.2 (Any.Builder_WriteString_k Try.lays166 Try.Builder_Extra_166 w.heap.size w.heap.size _ x.1 _ HBld.out HB7.out hws))).mono ?_
      rintro e w3 ⟨rfl, i3, b3, k3⟩
      have hu3 := k3 _ _ HU.out (fun e => by injection e with e; omega) (fun c fz e => by injection e with _ e _; exact absurd e (by decide))
      have hp3 := k3 _ _ HP.out (fun e => by injection e with e; omega) (fun c fz e => by injection e with _ e _; exact absurd e (by decide))
      have hcu3 : w3.cell? ⟨w.heap.size + 1, 0, none⟩ = some (.int .i64 (U : Int)) := by
        rw [Lib.cell_of_heap hu3, ← hU]
        rfl
      have hfu3 : w3.frozen? ⟨w.heap.size + 1, 0, none⟩ = false := Lib.frozen_of_heap hu3 0
      have HI3 := Aside0.mk i3
      have HK3 := Aside0.mk k3
      have HP3 := Aside0.mk hp3
      have HU3 := Aside0.mk hu3
      have HB3 := Aside0.mk b3
      clear i3 k3 hp3 hu3 b3
      gi_wp2
      obtain ⟨c0, hc0⟩ : ∃ c, w2.heap[w.heap.size]? = some (Obj.cells c 39 (0, 0)) := by
        rcases HBld.out with h | h
        · obtain ⟨_, v0, h, _⟩ := h
          exact ⟨_, h⟩
        · obtain ⟨_, v0, h, _⟩ := h
          exact ⟨_, h⟩
      refine ⟨KeepsOthers.trans ⟨HB3.out.size, fun k o hk ho => HK3.out k o hk (fun e => ?_) (fun c fz e => by rw [e] at ho; cases ho)⟩ (KeepsOthers.setCell _ _ _), ?_, q ++ [x], ⟨rfl, by simp; omega⟩, ?_, ?_, ⟨s, ?_⟩, ?_⟩
      · injection e with e
        rw [e, hc0] at hk
        injection hk with hk
        rw [← hk] at ho
        cases ho
      · exact (Below.heap_setCell _ _ _ _ (by show w.heap.size + 2 ≠ w.heap.size + 1; omega)).trans (HP3.out.trans HP.out.symm)
      · have h3 : Lib.IsBuilderF 39 5 w.heap.size w.heap.size (Lib.byteCells (cat (q ++ [x])).data.toList) w3 := by
          rw [← HCX.out]
          exact .inr HI3.out
        refine builder_same h3 (fun k c e fz he hc => (Below.heap_setCell _ _ _ _ (fun e2 => ?_)).trans hc)
        have e3 : k = w.heap.size + 1 := e2
        rw [e3, HU3.out] at hc
        injection hc with hc
        injection hc with _ hc _
        rcases he with he | he
        · rw [he] at hc; exact absurd hc (by decide)
        · rw [he] at hc; exact absurd hc (by decide)
      · rw [one_setCell HU3.out, List.length_append, show 8 * (q.length + [x].length) = U + 8 by simp; omega]
        rfl
      · exact (Below.heap_setCell _ _ _ _ (by show w.heap.size + 2 ≠ w.heap.size + 1; omega)).trans HP3.out
      · exact HBe.out.trans (HB3.out.setCell (p := ⟨w.heap.size + 1, 0, none⟩) (by show w.heap.size ≤ w.heap.size + 1; omega) _)
  case done =>
    rintro D ys W hD hys ⟨q, ⟨rfl, hlen⟩, hH⟩ hK
    have hq : taken v t = ys := by
      unfold taken
      rw [← hys]
      exact List.take_of_length_le hlen
    clear hys
    obtain ⟨hB, hu, ⟨s, hp⟩, hBel⟩ := hH
    have HBld := Aside0.mk hB
    have HU := Aside0.mk hu
    have HBe := Aside0.mk hBel
    have HD := Aside0.mk hD
    have HQ := Aside0.mk hq
    have hws := hBel.size
    have hcu : W.cell? ⟨w.heap.size + 1, 0, none⟩ = some (.int .i64 ((8 * ys.length : Nat) : Int)) := by rw [Lib.cell_of_heap hu]; rfl
    have HK := Aside0.mk hK
    have hmx : Try.prog.follows .mixedOrders = true := by kernel_rfl
    clear hB hu hp hBel hK hD hq
    gi_wp2_with fail
    obtain ⟨U, hU⟩ : ∃ U, 8 * ys.length = U := ⟨_, rfl⟩
    rw [hU] at hcu
    have key : Calls Try.prog 25 #[.pointer (some ⟨w.heap.size, 0, none⟩)] W.drew fun e w3 => e = .returned (.string (cat ys)) ∧ w3.cell? ⟨w.heap.size + 1, 0, none⟩ = some (.int .i64 (U : Int)) ∧ w3.heap[D]? = some (.deferred (some [])) ∧ Below w.heap.size w w3 := by
      refine (Any.Builder_String_any_k Try.lays169 Try.Builder_Extra_169 w.heap.size w.heap.size (cat ys).data.toList W.drew HBld.out hws).mono ?_
      rintro e w3 ⟨he, i3, b3, k3⟩
      rw [show (⟨(cat ys).data.toList.toArray⟩ : ByteArray) = cat ys from by apply ByteArray.ext; simp] at he
      have hu3 := k3 _ _ HU.out (fun e => by injection e with e; omega) (fun c fz e => by injection e with _ e _; exact absurd e (by decide))
      refine ⟨he, ?_, k3 _ _ HK.out (fun e => ?_) (fun c fz e => by cases e), HBe.out.trans (Below.trans (b := W.drew) ⟨rfl, rfl, rfl, Nat.le_refl _, fun _ _ => rfl⟩ b3)⟩
      · rw [Lib.cell_of_heap hu3, ← hU]
        rfl
      · injection e with e
        have := HD.out
        rw [hsz] at this
        omega
    first | gi_region_with_o (refine ⟨trivial, ?_⟩; gi_at_call 25; refine (callsIn_wide.2 key).mono ?_; rintro e w3 ⟨rfl, hcu3, hD3, hB3⟩) | fail "region"
    all_goals gi_wp2
    all_goals refine ⟨by simp, .inl ⟨_, _, rfl, run_takeDeferred hD3, ?_⟩⟩
    all_goals exact ⟨_, results_tmp2 (fn := Try.f14) (t := 2) (u := 3) rfl _ _ _, ret2 HQ.out hU, hB3.trans (belowK_b (w := w) (Nat.le_refl _) w3 D _ _ (by have := HD.out; rw [hsz] at this; omega) hD3 rfl rfl)⟩
  case stop =>
    rintro D pre W hD hSp ⟨q, ⟨hlen, x, rfl⟩, hH⟩ hK
    have hq : taken v t = q := by
      obtain ⟨r, hr⟩ := hSp
      unfold taken
      rw [← hr, List.append_assoc, List.take_append_of_le_length (by omega), List.take_of_length_le (by omega)]
    obtain ⟨hB, hu, ⟨s, hp⟩, hBel⟩ := hH
    have HBld := Aside0.mk hB
    have HU := Aside0.mk hu
    have HBe := Aside0.mk hBel
    have HD := Aside0.mk hD
    have HQ := Aside0.mk hq
    have hws := hBel.size
    have hcu : W.cell? ⟨w.heap.size + 1, 0, none⟩ = some (.int .i64 ((8 * q.length : Nat) : Int)) := by rw [Lib.cell_of_heap hu]; rfl
    have HK := Aside0.mk hK
    have hmx : Try.prog.follows .mixedOrders = true := by kernel_rfl
    clear hB hu hp hBel hK hD hq
    gi_wp2_with fail
    obtain ⟨U, hU⟩ : ∃ U, 8 * q.length = U := ⟨_, rfl⟩
    rw [hU] at hcu
    have key : Calls Try.prog 25 #[.pointer (some ⟨w.heap.size, 0, none⟩)] W.drew fun e w3 => e = .returned (.string (cat q)) ∧ w3.cell? ⟨w.heap.size + 1, 0, none⟩ = some (.int .i64 (U : Int)) ∧ w3.heap[D]? = some (.deferred (some [])) ∧ Below w.heap.size w w3 := by
      refine (Any.Builder_String_any_k Try.lays169 Try.Builder_Extra_169 w.heap.size w.heap.size (cat q).data.toList W.drew HBld.out hws).mono ?_
      rintro e w3 ⟨he, i3, b3, k3⟩
      rw [show (⟨(cat q).data.toList.toArray⟩ : ByteArray) = cat q from by apply ByteArray.ext; simp] at he
      have hu3 := k3 _ _ HU.out (fun e => by injection e with e; omega) (fun c fz e => by injection e with _ e _; exact absurd e (by decide))
      refine ⟨he, ?_, k3 _ _ HK.out (fun e => ?_) (fun c fz e => by cases e), HBe.out.trans (Below.trans (b := W.drew) ⟨rfl, rfl, rfl, Nat.le_refl _, fun _ _ => rfl⟩ b3)⟩
      · rw [Lib.cell_of_heap hu3, ← hU]
        rfl
      · injection e with e
        have := HD.out
        rw [hsz] at this
        omega
    first | gi_region_with_o (refine ⟨trivial, ?_⟩; gi_at_call 25; refine (callsIn_wide.2 key).mono ?_; rintro e w3 ⟨rfl, hcu3, hD3, hB3⟩) | fail "region"
    all_goals gi_wp2
    all_goals refine ⟨by simp, .inl ⟨_, _, rfl, run_takeDeferred hD3, ?_⟩⟩
    all_goals exact ⟨_, results_tmp2 (fn := Try.f14) (t := 2) (u := 3) rfl _ _ _, ret2 HQ.out hU, hB3.trans (belowK_b (w := w) (Nat.le_refl _) w3 D _ _ (by have := HD.out; rw [hsz] at this; omega) hD3 rfl rfl)⟩
end Go.Proofs.Ytiknnbjfpdeieaa.HGet
