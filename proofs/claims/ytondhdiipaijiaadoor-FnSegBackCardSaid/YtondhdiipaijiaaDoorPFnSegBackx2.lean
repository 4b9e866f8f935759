-- written by a program of this session (tools/hprint.py, a turned copy of the kit print) out of the translation; Lean checks it
import Derived.Test.YtondhdiipaijiaaDoorPFnSegBackx0
import Derived.Test.YtondhdiipaijiaaDoorPFnSegBackx1
namespace Go.Proofs.YtondhdiipaijiaaDoor.PFnSegBack
open Go.RowKit Go.Proofs.YtondhdiipaijiaaDoorW.PrintWords Go.Proofs.YtondhdiipaijiaaDoorW.PrintLast Go.Proofs.YtondhdiipaijiaaDoorW.PrintMore
attribute [local go_sem] max2_int min2_int max_two min_two max_three min_three max_four min_four   -- for this text's walks alone
set_option linter.unusedVariables false
set_option linter.unusedSimpArgs false

/-! ### spec_DrawSegCut: function 16 -/
def spec_DrawSegCut.f (k : Nat) (l0 : List Int) : Option (ByteArray × Int) := (spec_l1Open.f l0).bind fun bt126 => ((spec_l15Text.f k bt126.1 bt126.2 105).bind fun bt129 => (if 1 + bt129.1.size ≤ 9223372036854775807 then ((spec_l1Rd_pick.f k bt126.1 bt129.2 2).bind fun bt131 => ((spec_l1Many.f k (⟨#[122]⟩ : ByteArray) (wrap64 (106 + bt131.1))).bind fun t133 => ((spec_l1Rd_pick.f k bt126.1 bt131.2 3).bind fun bt134 => ((spec_l1Many.f k (⟨#[121]⟩ : ByteArray) (wrap64 (20 * (wrap64 (1 + bt134.1))))).bind fun t136 => ((some (([(⟨#[120]⟩ : ByteArray) ++ bt129.1, t133, (⟨#[]⟩ : ByteArray), t136] : List ByteArray) : List ByteArray)).bind fun y137 => ((spec_l1Rd_pick.f k bt126.1 bt134.2 12).bind fun bt140 => (if 0 ≤ (wrap64 (Int.tdiv (wrap64 (bt140.1 * 4)) 12)) then (if (wrap64 (Int.tdiv (wrap64 (bt140.1 * 4)) 12)) < (y137.length : Int) then ((some (([3, 0, 63, 64] : List Int) : List Int)).bind fun y143 => ((spec_l1Rd_pick.f k bt126.1 bt140.2 12).bind fun bt146 => (if 0 ≤ (wrap64 (Int.tdiv (wrap64 (bt146.1 * 4)) 12)) then (if (wrap64 (Int.tdiv (wrap64 (bt146.1 * 4)) 12)) < (y143.length : Int) then (some (rdOf ByteArray.empty y137 (wrap64 (Int.tdiv (wrap64 (bt140.1 * 4)) 12)), rd y143 (wrap64 (Int.tdiv (wrap64 (bt146.1 * 4)) 12)))) else (none)) else (none)))) else (none)) else (none)))))))) else (none)))
theorem spec_DrawSegCut.mono : ∀ a0 k, LeO (spec_DrawSegCut.f k a0) (spec_DrawSegCut.f (k + 1) a0) := by
 intro a0 k
 unfold spec_DrawSegCut.f
 repeat' first
   | (with_reducible exact spec_l15Text.mono _ _ _ _)
   | (with_reducible exact spec_l1Many.mono _ _ _)
   | (with_reducible exact spec_l1Rd_pick.mono _ _ _ _)
   | (with_reducible exact LeO.refl _)
   | (with_reducible exact LeO.none _)
   | (with_reducible refine LeO.ite ?_ ?_)
   | (with_reducible refine LeO.bind ?_ (fun _ => ?_))
   | exact spec_l15Text.mono _ _ _ _
   | exact spec_l1Many.mono _ _ _
   | exact spec_l1Rd_pick.mono _ _ _ _
   | exact LeO.none _
   | refine LeO.ite ?_ ?_
   | refine LeO.bind ?_ (fun _ => ?_)
def spec_DrawSegCut.T2 : Bool × List (List Nat × List Nat) := (true, [([], []), ([0], [0]), ([1], [1]), ([], []), ([3, 1], [3]), ([4], [4]), ([5, 4], [5]), ([], []), ([7, 6], [7]), ([8], [8]), ([9], [9]), ([10, 8], [10]), ([2, 6, 11], [2, 6, 11]), ([], []), ([13, 11], [13]), ([14], [14]), ([15], [15]), ([12, 16], [12, 16]), ([17], [17]), ([], []), ([], []), ([20, 14], [20]), ([21], [21]), ([22], [22]), ([19, 23], [19, 23]), ([24], [24]), ([18, 21, 0, 1, 2, 3, 4, 5, 6, 7, 8, 9, 10, 11, 12, 13, 14, 15, 16, 17, 18], [18]), ([25, 26, 0, 1, 2, 3, 4, 5, 6, 7, 8, 9, 10, 11, 12, 13, 14, 15, 16, 17, 18, 19, 20, 21, 22, 23, 24, 25, 26], [25])])
def spec_DrawSegCut.B2 : List Nat := [0, 1, 3, 0, 11, 27, 59, 0, 251, 507, 1019, 2043, 4095, 0, 12283, 28667, 61435, 131071, 262143, 0, 0, 1077243, 3174395, 7368699, 16281595, 33058811, 3670015, 134217727]
theorem spec_DrawSegCut.tab2 : rtab .any (opsOf Tryd.f16 2) = spec_DrawSegCut.T2 := by kernel_rfl
theorem spec_DrawSegCut.bits2 : waitsOk spec_DrawSegCut.T2.2 spec_DrawSegCut.B2 = true := by kernel_rfl
set_option maxHeartbeats 8000000 in
set_option maxRecDepth 100000 in
theorem spec_DrawSegCut.calls (k : Nat) (A0 : Option Addr) (c0 : Nat) (l0 : List Int) (r1 : ByteArray) (r2 : Int) (w : World) (hr0 : Kd.C (Kd.int .u8) w A0 l0.length l0) (hc0 : l0.length ≤ c0) (h : spec_DrawSegCut.f k l0 = some (r1, r2)) :
  Calls Tryd.prog 16 #[.slice A0 l0.length c0] w fun e w' => e = .returned (.tuple #[.string r1, .int .i64 r2]) ∧ Below w.heap.size w w' := by
 have HR0 := Aside0.mk hr0
 have HC0 := Aside0.mk hc0
 clear hr0 hc0
 have HB := Aside0.mk (Below.refl w.heap.size w)
 have H : ((spec_l1Open.f l0).bind fun bt126 => ((spec_l15Text.f k bt126.1 bt126.2 105).bind fun bt129 => (if 1 + bt129.1.size ≤ 9223372036854775807 then ((spec_l1Rd_pick.f k bt126.1 bt129.2 2).bind fun bt131 => ((spec_l1Many.f k (⟨#[122]⟩ : ByteArray) (wrap64 (106 + bt131.1))).bind fun t133 => ((spec_l1Rd_pick.f k bt126.1 bt131.2 3).bind fun bt134 => ((spec_l1Many.f k (⟨#[121]⟩ : ByteArray) (wrap64 (20 * (wrap64 (1 + bt134.1))))).bind fun t136 => ((some (([(⟨#[120]⟩ : ByteArray) ++ bt129.1, t133, (⟨#[]⟩ : ByteArray), t136] : List ByteArray) : List ByteArray)).bind fun y137 => ((spec_l1Rd_pick.f k bt126.1 bt134.2 12).bind fun bt140 => (if 0 ≤ (wrap64 (Int.tdiv (wrap64 (bt140.1 * 4)) 12)) then (if (wrap64 (Int.tdiv (wrap64 (bt140.1 * 4)) 12)) < (y137.length : Int) then ((some (([3, 0, 63, 64] : List Int) : List Int)).bind fun y143 => ((spec_l1Rd_pick.f k bt126.1 bt140.2 12).bind fun bt146 => (if 0 ≤ (wrap64 (Int.tdiv (wrap64 (bt146.1 * 4)) 12)) then (if (wrap64 (Int.tdiv (wrap64 (bt146.1 * 4)) 12)) < (y143.length : Int) then (some (rdOf ByteArray.empty y137 (wrap64 (Int.tdiv (wrap64 (bt140.1 * 4)) 12)), rd y143 (wrap64 (Int.tdiv (wrap64 (bt146.1 * 4)) 12)))) else (none)) else (none)))) else (none)) else (none)))))))) else (none)))) = some (r1, r2) := h
 clear h
 replace H := Option.bind_eq_some_iff.mp H
 obtain ⟨⟨t126, t127⟩, A20, H⟩ := H
 replace H : ((spec_l15Text.f k t126 t127 105).bind fun bt129 => (if 1 + bt129.1.size ≤ 9223372036854775807 then ((spec_l1Rd_pick.f k t126 bt129.2 2).bind fun bt131 => ((spec_l1Many.f k (⟨#[122]⟩ : ByteArray) (wrap64 (106 + bt131.1))).bind fun t133 => ((spec_l1Rd_pick.f k t126 bt131.2 3).bind fun bt134 => ((spec_l1Many.f k (⟨#[121]⟩ : ByteArray) (wrap64 (20 * (wrap64 (1 + bt134.1))))).bind fun t136 => ((some (([(⟨#[120]⟩ : ByteArray) ++ bt129.1, t133, (⟨#[]⟩ : ByteArray), t136] : List ByteArray) : List ByteArray)).bind fun y137 => ((spec_l1Rd_pick.f k t126 bt134.2 12).bind fun bt140 => (if 0 ≤ (wrap64 (Int.tdiv (wrap64 (bt140.1 * 4)) 12)) then (if (wrap64 (Int.tdiv (wrap64 (bt140.1 * 4)) 12)) < (y137.length : Int) then ((some (([3, 0, 63, 64] : List Int) : List Int)).bind fun y143 => ((spec_l1Rd_pick.f k t126 bt140.2 12).bind fun bt146 => (if 0 ≤ (wrap64 (Int.tdiv (wrap64 (bt146.1 * 4)) 12)) then (if (wrap64 (Int.tdiv (wrap64 (bt146.1 * 4)) 12)) < (y143.length : Int) then (some (rdOf ByteArray.empty y137 (wrap64 (Int.tdiv (wrap64 (bt140.1 * 4)) 12)), rd y143 (wrap64 (Int.tdiv (wrap64 (bt146.1 * 4)) 12)))) else (none)) else (none)))) else (none)) else (none)))))))) else (none))) = some (r1, r2) := H
 have A2 := Aside0.mk A20
 clear A20
 replace H := Option.bind_eq_some_iff.mp H
 obtain ⟨⟨t129, t130⟩, A30, H⟩ := H
 replace H : (if 1 + t129.size ≤ 9223372036854775807 then ((spec_l1Rd_pick.f k t126 t130 2).bind fun bt131 => ((spec_l1Many.f k (⟨#[122]⟩ : ByteArray) (wrap64 (106 + bt131.1))).bind fun t133 => ((spec_l1Rd_pick.f k t126 bt131.2 3).bind fun bt134 => ((spec_l1Many.f k (⟨#[121]⟩ : ByteArray) (wrap64 (20 * (wrap64 (1 + bt134.1))))).bind fun t136 => ((some (([(⟨#[120]⟩ : ByteArray) ++ t129, t133, (⟨#[]⟩ : ByteArray), t136] : List ByteArray) : List ByteArray)).bind fun y137 => ((spec_l1Rd_pick.f k t126 bt134.2 12).bind fun bt140 => (if 0 ≤ (wrap64 (Int.tdiv (wrap64 (bt140.1 * 4)) 12)) then (if (wrap64 (Int.tdiv (wrap64 (bt140.1 * 4)) 12)) < (y137.length : Int) then ((some (([3, 0, 63, 64] : List Int) : List Int)).bind fun y143 => ((spec_l1Rd_pick.f k t126 bt140.2 12).bind fun bt146 => (if 0 ≤ (wrap64 (Int.tdiv (wrap64 (bt146.1 * 4)) 12)) then (if (wrap64 (Int.tdiv (wrap64 (bt146.1 * 4)) 12)) < (y143.length : Int) then (some (rdOf ByteArray.empty y137 (wrap64 (Int.tdiv (wrap64 (bt140.1 * 4)) 12)), rd y143 (wrap64 (Int.tdiv (wrap64 (bt146.1 * 4)) 12)))) else (none)) else (none)))) else (none)) else (none)))))))) else (none)) = some (r1, r2) := H
 have A3 := Aside0.mk A30
 clear A30
 by_cases c4 : 1 + t129.size ≤ 9223372036854775807
 ·rw [if_pos c4] at H
  have c4b0 := eq_true c4
  have c4b1 : decide (1 + t129.size ≤ 9223372036854775807) = true := decide_eq_true c4
  try have c4b2 : (9223372036854775807 < 1 + t129.size) = False := eq_false (Nat.not_lt.2 c4)
  replace H := Option.bind_eq_some_iff.mp H
  obtain ⟨⟨t131, t132⟩, A50, H⟩ := H
  replace H : ((spec_l1Many.f k (⟨#[122]⟩ : ByteArray) (wrap64 (106 + t131))).bind fun t133 => ((spec_l1Rd_pick.f k t126 t132 3).bind fun bt134 => ((spec_l1Many.f k (⟨#[121]⟩ : ByteArray) (wrap64 (20 * (wrap64 (1 + bt134.1))))).bind fun t136 => ((some (([(⟨#[120]⟩ : ByteArray) ++ t129, t133, (⟨#[]⟩ : ByteArray), t136] : List ByteArray) : List ByteArray)).bind fun y137 => ((spec_l1Rd_pick.f k t126 bt134.2 12).bind fun bt140 => (if 0 ≤ (wrap64 (Int.tdiv (wrap64 (bt140.1 * 4)) 12)) then (if (wrap64 (Int.tdiv (wrap64 (bt140.1 * 4)) 12)) < (y137.length : Int) then ((some (([3, 0, 63, 64] : List Int) : List Int)).bind fun y143 => ((spec_l1Rd_pick.f k t126 bt140.2 12).bind fun bt146 => (if 0 ≤ (wrap64 (Int.tdiv (wrap64 (bt146.1 * 4)) 12)) then (if (wrap64 (Int.tdiv (wrap64 (bt146.1 * 4)) 12)) < (y143.length : Int) then (some (rdOf ByteArray.empty y137 (wrap64 (Int.tdiv (wrap64 (bt140.1 * 4)) 12)), rd y143 (wrap64 (Int.tdiv (wrap64 (bt146.1 * 4)) 12)))) else (none)) else (none)))) else (none)) else (none))))))) = some (r1, r2) := H
  have A5 := Aside0.mk A50
  clear A50
  replace H := Option.bind_eq_some_iff.mp H
  obtain ⟨t133, A60, H⟩ := H
  replace H : ((spec_l1Rd_pick.f k t126 t132 3).bind fun bt134 => ((spec_l1Many.f k (⟨#[121]⟩ : ByteArray) (wrap64 (20 * (wrap64 (1 + bt134.1))))).bind fun t136 => ((some (([(⟨#[120]⟩ : ByteArray) ++ t129, t133, (⟨#[]⟩ : ByteArray), t136] : List ByteArray) : List ByteArray)).bind fun y137 => ((spec_l1Rd_pick.f k t126 bt134.2 12).bind fun bt140 => (if 0 ≤ (wrap64 (Int.tdiv (wrap64 (bt140.1 * 4)) 12)) then (if (wrap64 (Int.tdiv (wrap64 (bt140.1 * 4)) 12)) < (y137.length : Int) then ((some (([3, 0, 63, 64] : List Int) : List Int)).bind fun y143 => ((spec_l1Rd_pick.f k t126 bt140.2 12).bind fun bt146 => (if 0 ≤ (wrap64 (Int.tdiv (wrap64 (bt146.1 * 4)) 12)) then (if (wrap64 (Int.tdiv (wrap64 (bt146.1 * 4)) 12)) < (y143.length : Int) then (some (rdOf ByteArray.empty y137 (wrap64 (Int.tdiv (wrap64 (bt140.1 * 4)) 12)), rd y143 (wrap64 (Int.tdiv (wrap64 (bt146.1 * 4)) 12)))) else (none)) else (none)))) else (none)) else (none)))))) = some (r1, r2) := H
  have A6 := Aside0.mk A60
  clear A60
  replace H := Option.bind_eq_some_iff.mp H
  obtain ⟨⟨t134, t135⟩, A70, H⟩ := H
  replace H : ((spec_l1Many.f k (⟨#[121]⟩ : ByteArray) (wrap64 (20 * (wrap64 (1 + t134))))).bind fun t136 => ((some (([(⟨#[120]⟩ : ByteArray) ++ t129, t133, (⟨#[]⟩ : ByteArray), t136] : List ByteArray) : List ByteArray)).bind fun y137 => ((spec_l1Rd_pick.f k t126 t135 12).bind fun bt140 => (if 0 ≤ (wrap64 (Int.tdiv (wrap64 (bt140.1 * 4)) 12)) then (if (wrap64 (Int.tdiv (wrap64 (bt140.1 * 4)) 12)) < (y137.length : Int) then ((some (([3, 0, 63, 64] : List Int) : List Int)).bind fun y143 => ((spec_l1Rd_pick.f k t126 bt140.2 12).bind fun bt146 => (if 0 ≤ (wrap64 (Int.tdiv (wrap64 (bt146.1 * 4)) 12)) then (if (wrap64 (Int.tdiv (wrap64 (bt146.1 * 4)) 12)) < (y143.length : Int) then (some (rdOf ByteArray.empty y137 (wrap64 (Int.tdiv (wrap64 (bt140.1 * 4)) 12)), rd y143 (wrap64 (Int.tdiv (wrap64 (bt146.1 * 4)) 12)))) else (none)) else (none)))) else (none)) else (none))))) = some (r1, r2) := H
  have A7 := Aside0.mk A70
  clear A70
  replace H := Option.bind_eq_some_iff.mp H
  obtain ⟨t136, A80, H⟩ := H
  replace H : ((some (([(⟨#[120]⟩ : ByteArray) ++ t129, t133, (⟨#[]⟩ : ByteArray), t136] : List ByteArray) : List ByteArray)).bind fun y137 => ((spec_l1Rd_pick.f k t126 t135 12).bind fun bt140 => (if 0 ≤ (wrap64 (Int.tdiv (wrap64 (bt140.1 * 4)) 12)) then (if (wrap64 (Int.tdiv (wrap64 (bt140.1 * 4)) 12)) < (y137.length : Int) then ((some (([3, 0, 63, 64] : List Int) : List Int)).bind fun y143 => ((spec_l1Rd_pick.f k t126 bt140.2 12).bind fun bt146 => (if 0 ≤ (wrap64 (Int.tdiv (wrap64 (bt146.1 * 4)) 12)) then (if (wrap64 (Int.tdiv (wrap64 (bt146.1 * 4)) 12)) < (y143.length : Int) then (some (rdOf ByteArray.empty y137 (wrap64 (Int.tdiv (wrap64 (bt140.1 * 4)) 12)), rd y143 (wrap64 (Int.tdiv (wrap64 (bt146.1 * 4)) 12)))) else (none)) else (none)))) else (none)) else (none)))) = some (r1, r2) := H
  have A8 := Aside0.mk A80
  clear A80
  obtain ⟨y137, hy137⟩ : ∃ y_ : List ByteArray, y_ = (([(⟨#[120]⟩ : ByteArray) ++ t129, t133, (⟨#[]⟩ : ByteArray), t136] : List ByteArray)) := ⟨_, rfl⟩
  replace H : ((spec_l1Rd_pick.f k t126 t135 12).bind fun bt140 => (if 0 ≤ (wrap64 (Int.tdiv (wrap64 (bt140.1 * 4)) 12)) then (if (wrap64 (Int.tdiv (wrap64 (bt140.1 * 4)) 12)) < (y137.length : Int) then ((some (([3, 0, 63, 64] : List Int) : List Int)).bind fun y143 => ((spec_l1Rd_pick.f k t126 bt140.2 12).bind fun bt146 => (if 0 ≤ (wrap64 (Int.tdiv (wrap64 (bt146.1 * 4)) 12)) then (if (wrap64 (Int.tdiv (wrap64 (bt146.1 * 4)) 12)) < (y143.length : Int) then (some (rdOf ByteArray.empty y137 (wrap64 (Int.tdiv (wrap64 (bt140.1 * 4)) 12)), rd y143 (wrap64 (Int.tdiv (wrap64 (bt146.1 * 4)) 12)))) else (none)) else (none)))) else (none)) else (none))) = some (r1, r2) := by first | (rw [hy137]; with_reducible exact H) | (have H2_ := (Option.bind_some _ _).symm.trans H; rw [hy137]; with_reducible exact H2_) | (have H2_ := (Option.bind_some _ _).symm.trans H; with_reducible exact H2_) | with_reducible exact H | (rw [hy137]; exact H) | exact H
  have Ny137 := Aside0.mk hy137
  clear hy137
  replace H := Option.bind_eq_some_iff.mp H
  obtain ⟨⟨t140, t141⟩, A90, H⟩ := H
  replace H : (if 0 ≤ (wrap64 (Int.tdiv (wrap64 (t140 * 4)) 12)) then (if (wrap64 (Int.tdiv (wrap64 (t140 * 4)) 12)) < (y137.length : Int) then ((some (([3, 0, 63, 64] : List Int) : List Int)).bind fun y143 => ((spec_l1Rd_pick.f k t126 t141 12).bind fun bt146 => (if 0 ≤ (wrap64 (Int.tdiv (wrap64 (bt146.1 * 4)) 12)) then (if (wrap64 (Int.tdiv (wrap64 (bt146.1 * 4)) 12)) < (y143.length : Int) then (some (rdOf ByteArray.empty y137 (wrap64 (Int.tdiv (wrap64 (t140 * 4)) 12)), rd y143 (wrap64 (Int.tdiv (wrap64 (bt146.1 * 4)) 12)))) else (none)) else (none)))) else (none)) else (none)) = some (r1, r2) := H
  have A9 := Aside0.mk A90
  clear A90
  obtain ⟨ji10, hji10⟩ : ∃ j_ : Int, (wrap64 (Int.tdiv (wrap64 (t140 * 4)) 12)) = j_ := ⟨_, rfl⟩
  replace H : (if 0 ≤ (ji10) then (if (ji10) < (y137.length : Int) then ((some (([3, 0, 63, 64] : List Int) : List Int)).bind fun y143 => ((spec_l1Rd_pick.f k t126 t141 12).bind fun bt146 => (if 0 ≤ (wrap64 (Int.tdiv (wrap64 (bt146.1 * 4)) 12)) then (if (wrap64 (Int.tdiv (wrap64 (bt146.1 * 4)) 12)) < (y143.length : Int) then (some (rdOf ByteArray.empty y137 (ji10), rd y143 (wrap64 (Int.tdiv (wrap64 (bt146.1 * 4)) 12)))) else (none)) else (none)))) else (none)) else (none)) = some (r1, r2) := by first | (rw [hji10] at H; exact H) | (simp only [hji10] at H ⊢; exact H)
  (try rw [hji10] at A2)
  (try rw [hji10] at A3)
  (try rw [hji10] at A5)
  (try rw [hji10] at A6)
  (try rw [hji10] at A7)
  (try rw [hji10] at A8)
  (try rw [hji10] at A9)
  have hji10w : (IntKind.i64.wrap (Int.tdiv (wrap64 (t140 * 4)) 12)) = ji10 := (i64_w _).trans hji10
  by_cases c11 : 0 ≤ (ji10)
  ·rw [if_pos c11] at H
   have c11b0 : decide (0 ≤ (ji10)) = true := decide_eq_true c11
   clear c11
   by_cases c12 : (ji10) < (y137.length : Int)
   ·rw [if_pos c12] at H
    have c12b0 : decide ((ji10) < (y137.length : Int)) = true := decide_eq_true c12
    clear c12
    obtain ⟨y143, hy143⟩ : ∃ y_ : List Int, y_ = (([3, 0, 63, 64] : List Int)) := ⟨_, rfl⟩
    replace H : ((spec_l1Rd_pick.f k t126 t141 12).bind fun bt146 => (if 0 ≤ (wrap64 (Int.tdiv (wrap64 (bt146.1 * 4)) 12)) then (if (wrap64 (Int.tdiv (wrap64 (bt146.1 * 4)) 12)) < (y143.length : Int) then (some (rdOf ByteArray.empty y137 (ji10), rd y143 (wrap64 (Int.tdiv (wrap64 (bt146.1 * 4)) 12)))) else (none)) else (none))) = some (r1, r2) := by first | (rw [hy143]; with_reducible exact H) | (have H2_ := (Option.bind_some _ _).symm.trans H; rw [hy143]; with_reducible exact H2_) | (have H2_ := (Option.bind_some _ _).symm.trans H; with_reducible exact H2_) | with_reducible exact H | (rw [hy143]; exact H) | exact H
    have Ny143 := Aside0.mk hy143
    clear hy143
    replace H := Option.bind_eq_some_iff.mp H
    obtain ⟨⟨t146, t147⟩, A130, H⟩ := H
    replace H : (if 0 ≤ (wrap64 (Int.tdiv (wrap64 (t146 * 4)) 12)) then (if (wrap64 (Int.tdiv (wrap64 (t146 * 4)) 12)) < (y143.length : Int) then (some (rdOf ByteArray.empty y137 (ji10), rd y143 (wrap64 (Int.tdiv (wrap64 (t146 * 4)) 12)))) else (none)) else (none)) = some (r1, r2) := H
    have A13 := Aside0.mk A130
    clear A130
    obtain ⟨ji14, hji14⟩ : ∃ j_ : Int, (wrap64 (Int.tdiv (wrap64 (t146 * 4)) 12)) = j_ := ⟨_, rfl⟩
    replace H : (if 0 ≤ (ji14) then (if (ji14) < (y143.length : Int) then (some (rdOf ByteArray.empty y137 (ji10), rd y143 (ji14))) else (none)) else (none)) = some (r1, r2) := by first | (rw [hji14] at H; exact H) | (simp only [hji14] at H ⊢; exact H)
    (try rw [hji14] at A2)
    (try rw [hji14] at A3)
    (try rw [hji14] at A5)
    (try rw [hji14] at A6)
    (try rw [hji14] at A7)
    (try rw [hji14] at A8)
    (try rw [hji14] at A9)
    (try rw [hji14] at A13)
    have hji14w : (IntKind.i64.wrap (Int.tdiv (wrap64 (t146 * 4)) 12)) = ji14 := (i64_w _).trans hji14
    by_cases c15 : 0 ≤ (ji14)
    ·rw [if_pos c15] at H
     have c15b0 : decide (0 ≤ (ji14)) = true := decide_eq_true c15
     clear c15
     by_cases c16 : (ji14) < (y143.length : Int)
     ·rw [if_pos c16] at H
      have c16b0 : decide ((ji14) < (y143.length : Int)) = true := decide_eq_true c16
      clear c16
      simp only [Option.some.injEq, Prod.mk.injEq] at H
      obtain ⟨rfl, rfl⟩ := H
      go_enter Tryd.func16, Tryd.ntmps16
      try go_wp2_with (first | ((with_reducible refine gate_callee (f := 25) rfl ?_); refine goesL_ (some 6) rfl rfl Tryd.func25 (by kernel_rfl) rfl #[.slice A0 l0.length c0] rfl (by (try simp only [List.map_toArray, List.map_cons, List.map_nil]); first | done | rfl | (simp only [List.length_drop, List.length_take]; rfl)) ?_; (with_reducible refine (spec_l1Open.calls _ _ l0 t126 t127 w _ ?side1 ?side2 ?side3 A2.out).mono ?_); (case side1 => repeat (first | (with_reducible first | exact HB.out | apply below_alloc | apply pw_below_drewN | apply below_drew1) | exact HB.out)); (case side2 => exact HR0.out); (case side3 => exact HC0.out); rintro e w17 ⟨g128, rfl, hi, hb, hb2⟩; refine ⟨_, rfl, ?_⟩; have n0_ := Aside0.mk (hb); have n1_ := Aside0.mk (hi); clear HB; have HB := n0_; have HI128 := n1_; clear n0_ n1_; (try clear hb); (try clear hb2); (try clear hk); (try clear hi)))
      have pi142 : (0 ≤ ((ji10) : Int)) = True := eq_true (of_decide_eq_true (by first | (with_reducible assumption) | assumption))
      have qi142 : ((ji10) < (y137.length : Int)) = True := eq_true (of_decide_eq_true (by first | (with_reducible assumption) | assumption))
      have pi148 : (0 ≤ ((ji14) : Int)) = True := eq_true (of_decide_eq_true (by first | (with_reducible assumption) | assumption))
      have qi148 : ((ji14) < (y143.length : Int)) = True := eq_true (of_decide_eq_true (by first | (with_reducible assumption) | assumption))
      have n0_ := Aside0.mk (IsS70.drew HI128.out)
      have n1_ := Aside0.mk (below_drew1 HB.out)
      clear HI128
      clear HB
      have HI128 := n0_
      have HB := n1_
      clear n0_ n1_
      refine start_ (n := 28) (S := fun w' => True) (ds := []) #[false, false, false, false, false, false, false, false, false, false, false, false, false, false, false, false, false, false, false, false, false, false, false, false, false, false, false, false] (by kernel_rfl) rfl rfl trivial (fun hHeld => ?_); refine with_tabW spec_DrawSegCut.tab2 spec_DrawSegCut.bits2 (fun HT_ HW_ => ?_)
      generalize w17.drew = w18 at HI128 HB hHeld ⊢
      refine pure_ (i := 0) (N := some 7) (v := ?_) (a' := ?_) #[true, false, false, false, false, false, false, false, false, false, false, false, false, false, false, false, false, false, false, false, false, false, false, false, false, false, false, false] rfl rfl (any_of HT_.out (by kernel_rfl)) (fun _ _ _ h => h) (Or.inl ⟨by rfl, ?_⟩) ?_ ?_
      rotate_left
      ·intro w'
       go_simp
       with_reducible rfl
      rotate_left
      ·simp only [Act.put, List.setIfInBounds_toArray, List.set_cons_zero, List.set_cons_succ, i64_w, i32_w]
       rfl
      refine pure_ (i := 3) (N := some 10) (v := ?_) (a' := ?_) #[true, false, false, true, false, false, false, false, false, false, false, false, false, false, false, false, false, false, false, false, false, false, false, false, false, false, false, false] rfl rfl (any_of HT_.out (by kernel_rfl)) (fun _ _ _ h => h) (Or.inl ⟨by rfl, ?_⟩) ?_ ?_
      rotate_left
      ·intro w'
       go_simp
       with_reducible rfl
      rotate_left
      ·simp only [Act.put, List.setIfInBounds_toArray, List.set_cons_zero, List.set_cons_succ, i64_w, i32_w]
       rfl
      refine pure_ (i := 7) (N := some 14) (v := ?_) (a' := ?_) #[true, false, false, true, false, false, false, true, false, false, false, false, false, false, false, false, false, false, false, false, false, false, false, false, false, false, false, false] rfl rfl (any_of HT_.out (by kernel_rfl)) (fun _ _ _ h => h) (Or.inl ⟨by rfl, ?_⟩) ?_ ?_
      rotate_left
      ·intro w'
       go_simp
       with_reducible rfl
      rotate_left
      ·simp only [Act.put, List.setIfInBounds_toArray, List.set_cons_zero, List.set_cons_succ, i64_w, i32_w]
       rfl
      refine pure_ (i := 13) (N := some 20) (v := ?_) (a' := ?_) #[true, false, false, true, false, false, false, true, false, false, false, false, false, true, false, false, false, false, false, false, false, false, false, false, false, false, false, false] rfl rfl (any_of HT_.out (by kernel_rfl)) (fun _ _ _ h => h) (Or.inl ⟨by rfl, ?_⟩) ?_ ?_
      rotate_left
      ·intro w'
       go_simp
       with_reducible rfl
      rotate_left
      ·simp only [Act.put, List.setIfInBounds_toArray, List.set_cons_zero, List.set_cons_succ, i64_w, i32_w]
       rfl
      refine pure_ (i := 20) (N := some 27) (v := ?_) (a' := ?_) #[true, false, false, true, false, false, false, true, false, false, false, false, false, true, false, false, false, false, false, false, true, false, false, false, false, false, false, false] rfl rfl (any_of HT_.out (by kernel_rfl)) (fun _ _ _ h => h) (Or.inl ⟨by rfl, ?_⟩) ?_ ?_
      rotate_left
      ·intro w'
       go_simp
       with_reducible rfl
      rotate_left
      ·simp only [Act.put, List.setIfInBounds_toArray, List.set_cons_zero, List.set_cons_succ, i64_w, i32_w]
       rfl
      refine join_ (σ := Value × Addr × Value × Addr) 1 #[true, true, true, true, true, true, true, true, true, true, true, true, true, true, true, true, true, true, true, true, true, true, true, true, true, true, true, false] (fun s_ => [(8, .string t129), (11, .int .i64 t131), (13, .string t133), (15, .int .i64 t134), (18, .string t136), (19, s_.1), (21, .int .i64 t140), (25, .string (rdOf ByteArray.empty y137 (ji10))), (26, s_.2.2.1), (28, .int .i64 t146), (32, .int .i64 (rd y143 (ji14))), (9, .string ((⟨#[120]⟩ : ByteArray) ++ t129)), (12, .int .i64 (wrap64 (106 + t131))), (16, .int .i64 (wrap64 (1 + t134))), (17, .int .i64 (wrap64 (20 * (wrap64 (1 + t134))))), (22, .int .i64 (wrap64 (t140 * 4))), (23, .int .i64 ji10), (24, .pointer (some (s_.2.1.add ((ji10)).toNat))), (29, .int .i64 (wrap64 (t146 * 4))), (30, .int .i64 ji14), (31, .pointer (some (s_.2.2.2.add ((ji14)).toNat))), (2, .string (rdOf ByteArray.empty y137 (ji10)))]) (fun s_ w' => (Kd.R Kd.string 9 w' w.heap.size (fun _ => True) s_.1 y137) ∧ (Kd.R (Kd.int .i64) 3 w' w.heap.size (fun _ => True) s_.2.2.1 y143) ∧ (∃ c_, (s_.1 : Value) = .slice (some s_.2.1) y137.length c_) ∧ (∃ c_, (s_.2.2.1 : Value) = .slice (some s_.2.2.2) y143.length c_) ∧ (IsS70 w w' g128 t126 t147) ∧ (Below w.heap.size w w')) ?_ ?_
      rotate_left
      ·intro hJ1_4_6_8_11_12_14_18_19_21_25
       refine join_ (σ := Value × Addr × Value × Addr) 2 #[true, true, true, true, true, true, true, true, true, true, true, true, true, true, true, true, true, true, true, true, true, true, true, true, true, false, true, false] (fun s_ => [(8, .string t129), (11, .int .i64 t131), (13, .string t133), (15, .int .i64 t134), (18, .string t136), (19, s_.1), (21, .int .i64 t140), (25, .string (rdOf ByteArray.empty y137 (ji10))), (26, s_.2.2.1), (28, .int .i64 t146), (9, .string ((⟨#[120]⟩ : ByteArray) ++ t129)), (12, .int .i64 (wrap64 (106 + t131))), (16, .int .i64 (wrap64 (1 + t134))), (17, .int .i64 (wrap64 (20 * (wrap64 (1 + t134))))), (22, .int .i64 (wrap64 (t140 * 4))), (23, .int .i64 ji10), (24, .pointer (some (s_.2.1.add ((ji10)).toNat))), (29, .int .i64 (wrap64 (t146 * 4))), (30, .int .i64 ji14), (31, .pointer (some (s_.2.2.2.add ((ji14)).toNat))), (2, .string (rdOf ByteArray.empty y137 (ji10)))]) (fun s_ w' => (Kd.R Kd.string 9 w' w.heap.size (fun _ => True) s_.1 y137) ∧ (Kd.R (Kd.int .i64) 3 w' w.heap.size (fun _ => True) s_.2.2.1 y143) ∧ (∃ c_, (s_.1 : Value) = .slice (some s_.2.1) y137.length c_) ∧ (∃ c_, (s_.2.2.1 : Value) = .slice (some s_.2.2.2) y143.length c_) ∧ (IsS70 w w' g128 t126 t147) ∧ (Below w.heap.size w w')) ?_ ?_
       rotate_left
       ·intro hJ1_4_6_8_11_12_14_18_19_21
        refine join_ (σ := Value × Addr × Value × Addr) 3 #[true, true, true, true, true, true, true, true, true, true, true, true, true, true, true, true, true, true, false, true, true, true, true, true, true, true, false, false] (fun s_ => [(8, .string t129), (11, .int .i64 t131), (13, .string t133), (15, .int .i64 t134), (18, .string t136), (19, s_.1), (21, .int .i64 t140), (26, s_.2.2.1), (28, .int .i64 t146), (32, .int .i64 (rd y143 (ji14))), (9, .string ((⟨#[120]⟩ : ByteArray) ++ t129)), (12, .int .i64 (wrap64 (106 + t131))), (16, .int .i64 (wrap64 (1 + t134))), (17, .int .i64 (wrap64 (20 * (wrap64 (1 + t134))))), (22, .int .i64 (wrap64 (t140 * 4))), (23, .int .i64 ji10), (24, .pointer (some (s_.2.1.add ((ji10)).toNat))), (29, .int .i64 (wrap64 (t146 * 4))), (30, .int .i64 ji14), (31, .pointer (some (s_.2.2.2.add ((ji14)).toNat)))]) (fun s_ w' => (Kd.R Kd.string 9 w' w.heap.size (fun _ => True) s_.1 y137) ∧ (Kd.R (Kd.int .i64) 3 w' w.heap.size (fun _ => True) s_.2.2.1 y143) ∧ (∃ c_, (s_.1 : Value) = .slice (some s_.2.1) y137.length c_) ∧ (∃ c_, (s_.2.2.1 : Value) = .slice (some s_.2.2.2) y143.length c_) ∧ (IsS70 w w' g128 t126 t147) ∧ (Below w.heap.size w w')) ?_ ?_
        rotate_left
        ·intro hJ1_4_6_8_11_12_14_19_21_25
         refine join_ (σ := Value × Addr × Value × Addr) 7 #[true, true, true, true, true, true, true, true, true, true, true, true, true, true, true, true, true, true, true, true, true, false, false, false, false, false, false, false] (fun s_ => [(8, .string t129), (11, .int .i64 t131), (13, .string t133), (15, .int .i64 t134), (18, .string t136), (19, s_.1), (21, .int .i64 t140), (25, .string (rdOf ByteArray.empty y137 (ji10))), (26, s_.2.2.1), (9, .string ((⟨#[120]⟩ : ByteArray) ++ t129)), (12, .int .i64 (wrap64 (106 + t131))), (16, .int .i64 (wrap64 (1 + t134))), (17, .int .i64 (wrap64 (20 * (wrap64 (1 + t134))))), (22, .int .i64 (wrap64 (t140 * 4))), (23, .int .i64 ji10), (24, .pointer (some (s_.2.1.add ((ji10)).toNat)))]) (fun s_ w' => (Kd.R Kd.string 9 w' w.heap.size (fun _ => True) s_.1 y137) ∧ (Kd.R (Kd.int .i64) 3 w' w.heap.size (fun _ => True) s_.2.2.1 y143) ∧ (∃ c_, (s_.1 : Value) = .slice (some s_.2.1) y137.length c_) ∧ (∃ c_, (s_.2.2.1 : Value) = .slice (some s_.2.2.2) y143.length c_) ∧ (IsS70 w w' g128 t126 t141) ∧ (Below w.heap.size w w')) ?_ ?_
         rotate_left
         ·intro hJ1_4_6_8_11_12_14_18_19
          refine join_ (σ := Value × Addr) 4 #[true, true, true, true, true, true, true, true, true, true, true, true, true, true, true, true, true, true, true, false, true, true, true, true, false, false, true, false] (fun s_ => [(8, .string t129), (11, .int .i64 t131), (13, .string t133), (15, .int .i64 t134), (18, .string t136), (19, s_.1), (21, .int .i64 t140), (25, .string (rdOf ByteArray.empty y137 (ji10))), (28, .int .i64 t146), (9, .string ((⟨#[120]⟩ : ByteArray) ++ t129)), (12, .int .i64 (wrap64 (106 + t131))), (16, .int .i64 (wrap64 (1 + t134))), (17, .int .i64 (wrap64 (20 * (wrap64 (1 + t134))))), (22, .int .i64 (wrap64 (t140 * 4))), (23, .int .i64 ji10), (24, .pointer (some (s_.2.add ((ji10)).toNat))), (29, .int .i64 (wrap64 (t146 * 4))), (30, .int .i64 ji14), (2, .string (rdOf ByteArray.empty y137 (ji10)))]) (fun s_ w' => (Kd.R Kd.string 9 w' w.heap.size (fun _ => True) s_.1 y137) ∧ (∃ c_, (s_.1 : Value) = .slice (some s_.2) y137.length c_) ∧ (IsS70 w w' g128 t126 t147) ∧ (Below w.heap.size w w')) ?_ ?_
          rotate_left
          ·intro hJ1_4_6_8_11_12_14_18_21
           refine join_ (σ := Value × Addr × Value × Addr) 4 #[true, true, true, true, true, true, true, true, true, true, true, true, true, true, true, true, true, true, false, true, true, true, true, true, true, false, false, false] (fun s_ => [(8, .string t129), (11, .int .i64 t131), (13, .string t133), (15, .int .i64 t134), (18, .string t136), (19, s_.1), (21, .int .i64 t140), (26, s_.2.2.1), (28, .int .i64 t146), (9, .string ((⟨#[120]⟩ : ByteArray) ++ t129)), (12, .int .i64 (wrap64 (106 + t131))), (16, .int .i64 (wrap64 (1 + t134))), (17, .int .i64 (wrap64 (20 * (wrap64 (1 + t134))))), (22, .int .i64 (wrap64 (t140 * 4))), (23, .int .i64 ji10), (24, .pointer (some (s_.2.1.add ((ji10)).toNat))), (29, .int .i64 (wrap64 (t146 * 4))), (30, .int .i64 ji14), (31, .pointer (some (s_.2.2.2.add ((ji14)).toNat)))]) (fun s_ w' => (Kd.R Kd.string 9 w' w.heap.size (fun _ => True) s_.1 y137) ∧ (Kd.R (Kd.int .i64) 3 w' w.heap.size (fun _ => True) s_.2.2.1 y143) ∧ (∃ c_, (s_.1 : Value) = .slice (some s_.2.1) y137.length c_) ∧ (∃ c_, (s_.2.2.1 : Value) = .slice (some s_.2.2.2) y143.length c_) ∧ (IsS70 w w' g128 t126 t147) ∧ (Below w.heap.size w w')) ?_ ?_
           rotate_left
           ·intro hJ1_4_6_8_11_12_14_19_21
            refine join_ (σ := Value × Addr) 5 #[true, true, true, true, true, true, true, true, true, true, true, true, false, true, true, true, true, false, false, true, true, true, true, true, true, true, false, false] (fun s_ => [(8, .string t129), (11, .int .i64 t131), (13, .string t133), (15, .int .i64 t134), (18, .string t136), (21, .int .i64 t140), (26, s_.1), (28, .int .i64 t146), (32, .int .i64 (rd y143 (ji14))), (9, .string ((⟨#[120]⟩ : ByteArray) ++ t129)), (12, .int .i64 (wrap64 (106 + t131))), (16, .int .i64 (wrap64 (1 + t134))), (17, .int .i64 (wrap64 (20 * (wrap64 (1 + t134))))), (22, .int .i64 (wrap64 (t140 * 4))), (23, .int .i64 ji10), (29, .int .i64 (wrap64 (t146 * 4))), (30, .int .i64 ji14), (31, .pointer (some (s_.2.add ((ji14)).toNat)))]) (fun s_ w' => (Kd.R (Kd.int .i64) 3 w' w.heap.size (fun _ => True) s_.1 y143) ∧ (∃ c_, (s_.1 : Value) = .slice (some s_.2) y143.length c_) ∧ (IsS70 w w' g128 t126 t147) ∧ (Below w.heap.size w w')) ?_ ?_
            rotate_left
            ·intro hJ1_4_6_8_11_14_19_21_25
             refine join_ (σ := Value × Addr) 8 #[true, true, true, true, true, true, true, true, true, true, true, true, true, true, true, true, true, true, true, false, true, false, false, false, false, false, false, false] (fun s_ => [(8, .string t129), (11, .int .i64 t131), (13, .string t133), (15, .int .i64 t134), (18, .string t136), (19, s_.1), (21, .int .i64 t140), (25, .string (rdOf ByteArray.empty y137 (ji10))), (9, .string ((⟨#[120]⟩ : ByteArray) ++ t129)), (12, .int .i64 (wrap64 (106 + t131))), (16, .int .i64 (wrap64 (1 + t134))), (17, .int .i64 (wrap64 (20 * (wrap64 (1 + t134))))), (22, .int .i64 (wrap64 (t140 * 4))), (23, .int .i64 ji10), (24, .pointer (some (s_.2.add ((ji10)).toNat)))]) (fun s_ w' => (Kd.R Kd.string 9 w' w.heap.size (fun _ => True) s_.1 y137) ∧ (∃ c_, (s_.1 : Value) = .slice (some s_.2) y137.length c_) ∧ (IsS70 w w' g128 t126 t141) ∧ (Below w.heap.size w w')) ?_ ?_
             rotate_left
             ·intro hJ1_4_6_8_11_12_14_18
              refine join_ (σ := Value × Addr × Value × Addr) 8 #[true, true, true, true, true, true, true, true, true, true, true, true, true, true, true, true, true, true, false, true, true, false, false, false, false, false, false, false] (fun s_ => [(8, .string t129), (11, .int .i64 t131), (13, .string t133), (15, .int .i64 t134), (18, .string t136), (19, s_.1), (21, .int .i64 t140), (26, s_.2.2.1), (9, .string ((⟨#[120]⟩ : ByteArray) ++ t129)), (12, .int .i64 (wrap64 (106 + t131))), (16, .int .i64 (wrap64 (1 + t134))), (17, .int .i64 (wrap64 (20 * (wrap64 (1 + t134))))), (22, .int .i64 (wrap64 (t140 * 4))), (23, .int .i64 ji10), (24, .pointer (some (s_.2.1.add ((ji10)).toNat)))]) (fun s_ w' => (Kd.R Kd.string 9 w' w.heap.size (fun _ => True) s_.1 y137) ∧ (Kd.R (Kd.int .i64) 3 w' w.heap.size (fun _ => True) s_.2.2.1 y143) ∧ (∃ c_, (s_.1 : Value) = .slice (some s_.2.1) y137.length c_) ∧ (∃ c_, (s_.2.2.1 : Value) = .slice (some s_.2.2.2) y143.length c_) ∧ (IsS70 w w' g128 t126 t141) ∧ (Below w.heap.size w w')) ?_ ?_
              rotate_left
              ·intro hJ1_4_6_8_11_12_14_19
               refine join_ (σ := Value × Addr) 6 #[true, true, true, true, true, true, true, true, true, true, true, true, true, true, true, true, true, true, false, false, true, true, true, true, false, false, false, false] (fun s_ => [(8, .string t129), (11, .int .i64 t131), (13, .string t133), (15, .int .i64 t134), (18, .string t136), (19, s_.1), (21, .int .i64 t140), (28, .int .i64 t146), (9, .string ((⟨#[120]⟩ : ByteArray) ++ t129)), (12, .int .i64 (wrap64 (106 + t131))), (16, .int .i64 (wrap64 (1 + t134))), (17, .int .i64 (wrap64 (20 * (wrap64 (1 + t134))))), (22, .int .i64 (wrap64 (t140 * 4))), (23, .int .i64 ji10), (24, .pointer (some (s_.2.add ((ji10)).toNat))), (29, .int .i64 (wrap64 (t146 * 4))), (30, .int .i64 ji14)]) (fun s_ w' => (Kd.R Kd.string 9 w' w.heap.size (fun _ => True) s_.1 y137) ∧ (∃ c_, (s_.1 : Value) = .slice (some s_.2) y137.length c_) ∧ (IsS70 w w' g128 t126 t147) ∧ (Below w.heap.size w w')) ?_ ?_
               rotate_left
               ·intro hJ1_4_6_8_11_12_14_21
                refine join_ (σ := Value × Addr) 6 #[true, true, true, true, true, true, true, true, true, true, true, true, false, true, true, true, true, false, false, true, true, true, true, true, true, false, false, false] (fun s_ => [(8, .string t129), (11, .int .i64 t131), (13, .string t133), (15, .int .i64 t134), (18, .string t136), (21, .int .i64 t140), (26, s_.1), (28, .int .i64 t146), (9, .string ((⟨#[120]⟩ : ByteArray) ++ t129)), (12, .int .i64 (wrap64 (106 + t131))), (16, .int .i64 (wrap64 (1 + t134))), (17, .int .i64 (wrap64 (20 * (wrap64 (1 + t134))))), (22, .int .i64 (wrap64 (t140 * 4))), (23, .int .i64 ji10), (29, .int .i64 (wrap64 (t146 * 4))), (30, .int .i64 ji14), (31, .pointer (some (s_.2.add ((ji14)).toNat)))]) (fun s_ w' => (Kd.R (Kd.int .i64) 3 w' w.heap.size (fun _ => True) s_.1 y143) ∧ (∃ c_, (s_.1 : Value) = .slice (some s_.2) y143.length c_) ∧ (IsS70 w w' g128 t126 t147) ∧ (Below w.heap.size w w')) ?_ ?_
                rotate_left
                ·intro hJ1_4_6_8_11_14_19_21
                 refine join_ (σ := Value × Addr) 9 #[true, true, true, true, true, true, true, true, true, true, true, true, true, true, true, true, true, true, false, false, true, false, false, false, false, false, false, false] (fun s_ => [(8, .string t129), (11, .int .i64 t131), (13, .string t133), (15, .int .i64 t134), (18, .string t136), (19, s_.1), (21, .int .i64 t140), (9, .string ((⟨#[120]⟩ : ByteArray) ++ t129)), (12, .int .i64 (wrap64 (106 + t131))), (16, .int .i64 (wrap64 (1 + t134))), (17, .int .i64 (wrap64 (20 * (wrap64 (1 + t134))))), (22, .int .i64 (wrap64 (t140 * 4))), (23, .int .i64 ji10), (24, .pointer (some (s_.2.add ((ji10)).toNat)))]) (fun s_ w' => (Kd.R Kd.string 9 w' w.heap.size (fun _ => True) s_.1 y137) ∧ (∃ c_, (s_.1 : Value) = .slice (some s_.2) y137.length c_) ∧ (IsS70 w w' g128 t126 t141) ∧ (Below w.heap.size w w')) ?_ ?_
                 rotate_left
                 ·intro hJ1_4_6_8_11_12_14
                  refine join_ (σ := Value × Addr × Value × Addr) 12 #[true, true, true, true, true, true, true, true, true, true, true, true, true, true, false, false, false, false, false, true, true, false, false, false, false, false, false, false] (fun s_ => [(8, .string t129), (11, .int .i64 t131), (13, .string t133), (15, .int .i64 t134), (18, .string t136), (19, s_.1), (26, s_.2.2.1), (9, .string ((⟨#[120]⟩ : ByteArray) ++ t129)), (12, .int .i64 (wrap64 (106 + t131))), (16, .int .i64 (wrap64 (1 + t134))), (17, .int .i64 (wrap64 (20 * (wrap64 (1 + t134)))))]) (fun s_ w' => (Kd.R Kd.string 9 w' w.heap.size (fun _ => True) s_.1 y137) ∧ (Kd.R (Kd.int .i64) 3 w' w.heap.size (fun _ => True) s_.2.2.1 y143) ∧ (∃ c_, (s_.1 : Value) = .slice (some s_.2.1) y137.length c_) ∧ (∃ c_, (s_.2.2.1 : Value) = .slice (some s_.2.2.2) y143.length c_) ∧ (IsS70 w w' g128 t126 t135) ∧ (Below w.heap.size w w')) ?_ ?_
                  rotate_left
                  ·intro hJ1_4_6_8_11_12_19
                   refine join_ (σ := Value × Addr) 10 #[true, true, true, true, true, true, true, true, true, true, true, true, false, true, true, true, true, false, false, true, true, false, false, false, false, false, false, false] (fun s_ => [(8, .string t129), (11, .int .i64 t131), (13, .string t133), (15, .int .i64 t134), (18, .string t136), (21, .int .i64 t140), (26, s_.1), (9, .string ((⟨#[120]⟩ : ByteArray) ++ t129)), (12, .int .i64 (wrap64 (106 + t131))), (16, .int .i64 (wrap64 (1 + t134))), (17, .int .i64 (wrap64 (20 * (wrap64 (1 + t134))))), (22, .int .i64 (wrap64 (t140 * 4))), (23, .int .i64 ji10)]) (fun s_ w' => (Kd.R (Kd.int .i64) 3 w' w.heap.size (fun _ => True) s_.1 y143) ∧ (∃ c_, (s_.1 : Value) = .slice (some s_.2) y143.length c_) ∧ (IsS70 w w' g128 t126 t141) ∧ (Below w.heap.size w w')) ?_ ?_
                   rotate_left
                   ·intro hJ1_4_6_8_11_14_19
                    refine join_ (σ := Unit) 8 #[true, true, true, true, true, true, true, true, true, true, true, true, false, true, true, true, true, false, false, false, true, true, true, true, false, false, false, false] (fun s_ => [(8, .string t129), (11, .int .i64 t131), (13, .string t133), (15, .int .i64 t134), (18, .string t136), (21, .int .i64 t140), (28, .int .i64 t146), (9, .string ((⟨#[120]⟩ : ByteArray) ++ t129)), (12, .int .i64 (wrap64 (106 + t131))), (16, .int .i64 (wrap64 (1 + t134))), (17, .int .i64 (wrap64 (20 * (wrap64 (1 + t134))))), (22, .int .i64 (wrap64 (t140 * 4))), (23, .int .i64 ji10), (29, .int .i64 (wrap64 (t146 * 4))), (30, .int .i64 ji14)]) (fun s_ w' => (IsS70 w w' g128 t126 t147) ∧ (Below w.heap.size w w')) ?_ ?_
                    rotate_left
                    ·intro hJ1_4_6_8_11_14_21
                     refine join_ (σ := Value × Addr) 13 #[true, true, true, true, true, true, true, true, true, true, true, true, true, true, false, false, false, false, false, false, true, false, false, false, false, false, false, false] (fun s_ => [(8, .string t129), (11, .int .i64 t131), (13, .string t133), (15, .int .i64 t134), (18, .string t136), (19, s_.1), (9, .string ((⟨#[120]⟩ : ByteArray) ++ t129)), (12, .int .i64 (wrap64 (106 + t131))), (16, .int .i64 (wrap64 (1 + t134))), (17, .int .i64 (wrap64 (20 * (wrap64 (1 + t134)))))]) (fun s_ w' => (Kd.R Kd.string 9 w' w.heap.size (fun _ => True) s_.1 y137) ∧ (∃ c_, (s_.1 : Value) = .slice (some s_.2) y137.length c_) ∧ (IsS70 w w' g128 t126 t135) ∧ (Below w.heap.size w w')) ?_ ?_
                     rotate_left
                     ·intro hJ1_4_6_8_11_12
                      refine join_ (σ := Unit) 11 #[true, true, true, true, true, true, true, true, true, true, true, true, false, true, true, true, true, false, false, false, true, false, false, false, false, false, false, false] (fun s_ => [(8, .string t129), (11, .int .i64 t131), (13, .string t133), (15, .int .i64 t134), (18, .string t136), (21, .int .i64 t140), (9, .string ((⟨#[120]⟩ : ByteArray) ++ t129)), (12, .int .i64 (wrap64 (106 + t131))), (16, .int .i64 (wrap64 (1 + t134))), (17, .int .i64 (wrap64 (20 * (wrap64 (1 + t134))))), (22, .int .i64 (wrap64 (t140 * 4))), (23, .int .i64 ji10)]) (fun s_ w' => (IsS70 w w' g128 t126 t141) ∧ (Below w.heap.size w w')) ?_ ?_
                      rotate_left
                      ·intro hJ1_4_6_8_11_14
                       refine join_ (σ := Value × Addr) 13 #[true, true, true, true, true, true, true, true, true, true, true, true, false, true, false, false, false, false, false, true, true, false, false, false, false, false, false, false] (fun s_ => [(8, .string t129), (11, .int .i64 t131), (13, .string t133), (15, .int .i64 t134), (18, .string t136), (26, s_.1), (9, .string ((⟨#[120]⟩ : ByteArray) ++ t129)), (12, .int .i64 (wrap64 (106 + t131))), (16, .int .i64 (wrap64 (1 + t134))), (17, .int .i64 (wrap64 (20 * (wrap64 (1 + t134)))))]) (fun s_ w' => (Kd.R (Kd.int .i64) 3 w' w.heap.size (fun _ => True) s_.1 y143) ∧ (∃ c_, (s_.1 : Value) = .slice (some s_.2) y143.length c_) ∧ (IsS70 w w' g128 t126 t135) ∧ (Below w.heap.size w w')) ?_ ?_
                       rotate_left
                       ·intro hJ1_4_6_8_11_19
                        refine join_ (σ := Unit) 14 #[true, true, true, true, true, true, true, true, true, true, true, true, false, true, false, false, false, false, false, false, true, false, false, false, false, false, false, false] (fun s_ => [(8, .string t129), (11, .int .i64 t131), (13, .string t133), (15, .int .i64 t134), (18, .string t136), (9, .string ((⟨#[120]⟩ : ByteArray) ++ t129)), (12, .int .i64 (wrap64 (106 + t131))), (16, .int .i64 (wrap64 (1 + t134))), (17, .int .i64 (wrap64 (20 * (wrap64 (1 + t134)))))]) (fun s_ w' => (IsS70 w w' g128 t126 t135) ∧ (Below w.heap.size w w')) ?_ ?_
                        rotate_left
                        ·intro hJ1_4_6_8_11
                         refine join_ (σ := Value × Addr) 14 #[true, true, true, true, true, true, true, true, true, true, true, false, false, true, false, false, false, false, false, true, true, false, false, false, false, false, false, false] (fun s_ => [(8, .string t129), (11, .int .i64 t131), (13, .string t133), (15, .int .i64 t134), (26, s_.1), (9, .string ((⟨#[120]⟩ : ByteArray) ++ t129)), (12, .int .i64 (wrap64 (106 + t131))), (16, .int .i64 (wrap64 (1 + t134))), (17, .int .i64 (wrap64 (20 * (wrap64 (1 + t134)))))]) (fun s_ w' => (Kd.R (Kd.int .i64) 3 w' w.heap.size (fun _ => True) s_.1 y143) ∧ (∃ c_, (s_.1 : Value) = .slice (some s_.2) y143.length c_) ∧ (IsS70 w w' g128 t126 t135) ∧ (Below w.heap.size w w')) ?_ ?_
                         rotate_left
                         ·intro hJ1_4_6_8_19
                          refine join_ (σ := Unit) 15 #[true, true, true, true, true, true, true, true, true, true, true, false, false, true, false, false, false, false, false, false, true, false, false, false, false, false, false, false] (fun s_ => [(8, .string t129), (11, .int .i64 t131), (13, .string t133), (15, .int .i64 t134), (9, .string ((⟨#[120]⟩ : ByteArray) ++ t129)), (12, .int .i64 (wrap64 (106 + t131))), (16, .int .i64 (wrap64 (1 + t134))), (17, .int .i64 (wrap64 (20 * (wrap64 (1 + t134)))))]) (fun s_ w' => (IsS70 w w' g128 t126 t135) ∧ (Below w.heap.size w w')) ?_ ?_
                          rotate_left
                          ·intro hJ1_4_6_8
                           refine join_ (σ := Value × Addr) 17 #[true, true, true, true, true, true, true, true, false, false, false, false, false, true, false, false, false, false, false, true, true, false, false, false, false, false, false, false] (fun s_ => [(8, .string t129), (11, .int .i64 t131), (13, .string t133), (26, s_.1), (9, .string ((⟨#[120]⟩ : ByteArray) ++ t129)), (12, .int .i64 (wrap64 (106 + t131)))]) (fun s_ w' => (Kd.R (Kd.int .i64) 3 w' w.heap.size (fun _ => True) s_.1 y143) ∧ (∃ c_, (s_.1 : Value) = .slice (some s_.2) y143.length c_) ∧ (IsS70 w w' g128 t126 t132) ∧ (Below w.heap.size w w')) ?_ ?_
                           rotate_left
                           ·intro hJ1_4_6_19
                            refine join_ (σ := Unit) 18 #[true, true, true, true, true, true, true, true, false, false, false, false, false, true, false, false, false, false, false, false, true, false, false, false, false, false, false, false] (fun s_ => [(8, .string t129), (11, .int .i64 t131), (13, .string t133), (9, .string ((⟨#[120]⟩ : ByteArray) ++ t129)), (12, .int .i64 (wrap64 (106 + t131)))]) (fun s_ w' => (IsS70 w w' g128 t126 t132) ∧ (Below w.heap.size w w')) ?_ ?_
                            rotate_left
                            ·intro hJ1_4_6
                             refine join_ (σ := Value × Addr) 18 #[true, true, true, true, true, true, false, true, false, false, false, false, false, true, false, false, false, false, false, true, true, false, false, false, false, false, false, false] (fun s_ => [(8, .string t129), (11, .int .i64 t131), (26, s_.1), (9, .string ((⟨#[120]⟩ : ByteArray) ++ t129)), (12, .int .i64 (wrap64 (106 + t131)))]) (fun s_ w' => (Kd.R (Kd.int .i64) 3 w' w.heap.size (fun _ => True) s_.1 y143) ∧ (∃ c_, (s_.1 : Value) = .slice (some s_.2) y143.length c_) ∧ (IsS70 w w' g128 t126 t132) ∧ (Below w.heap.size w w')) ?_ ?_
                             rotate_left
                             ·intro hJ1_4_19
                              refine join_ (σ := Unit) 19 #[true, true, true, true, true, true, false, true, false, false, false, false, false, true, false, false, false, false, false, false, true, false, false, false, false, false, false, false] (fun s_ => [(8, .string t129), (11, .int .i64 t131), (9, .string ((⟨#[120]⟩ : ByteArray) ++ t129)), (12, .int .i64 (wrap64 (106 + t131)))]) (fun s_ w' => (IsS70 w w' g128 t126 t132) ∧ (Below w.heap.size w w')) ?_ ?_
                              rotate_left
                              ·intro hJ1_4
                               refine join_ (σ := Value × Addr) 20 #[true, true, true, true, false, false, false, true, false, false, false, false, false, true, false, false, false, false, false, true, true, false, false, false, false, false, false, false] (fun s_ => [(8, .string t129), (26, s_.1), (9, .string ((⟨#[120]⟩ : ByteArray) ++ t129))]) (fun s_ w' => (Kd.R (Kd.int .i64) 3 w' w.heap.size (fun _ => True) s_.1 y143) ∧ (∃ c_, (s_.1 : Value) = .slice (some s_.2) y143.length c_) ∧ (IsS70 w w' g128 t126 t130) ∧ (Below w.heap.size w w')) ?_ ?_
                               rotate_left
                               ·intro hJ1_19
                                refine join_ (σ := Unit) 21 #[true, true, true, true, false, false, false, true, false, false, false, false, false, true, false, false, false, false, false, false, true, false, false, false, false, false, false, false] (fun s_ => [(8, .string t129), (9, .string ((⟨#[120]⟩ : ByteArray) ++ t129))]) (fun s_ w' => (IsS70 w w' g128 t126 t130) ∧ (Below w.heap.size w w')) ?_ ?_
                                rotate_left
                                ·intro hJ1
                                 refine join_ (σ := Value × Addr) 22 #[true, false, false, true, false, false, false, true, false, false, false, false, false, true, false, false, false, false, false, true, true, false, false, false, false, false, false, false] (fun s_ => [(26, s_.1)]) (fun s_ w' => (Kd.R (Kd.int .i64) 3 w' w.heap.size (fun _ => True) s_.1 y143) ∧ (∃ c_, (s_.1 : Value) = .slice (some s_.2) y143.length c_) ∧ (IsS70 w w' g128 t126 t127) ∧ (Below w.heap.size w w')) ?_ ?_
                                 rotate_left
                                 ·intro hJ19
                                  refine two_ (i := 1) (j := 19) (Ni := some 8) (Nj := some 26) #[true, true, false, true, false, false, false, true, false, false, false, false, false, true, false, false, false, false, false, false, true, false, false, false, false, false, false, false] #[true, false, false, true, false, false, false, true, false, false, false, false, false, true, false, false, false, false, false, true, true, false, false, false, false, false, false, false] rfl rfl rfl rfl (two_of HT_.out (by kernel_rfl)) (by decide) (by decide) (fun K hK => ?_) (fun K hK => ?_)
                                  ·skip
                                   refine goes_ Tryd.func28 (by kernel_rfl) rfl #[.pointer (some ⟨g128, 0, none⟩), .int .i64 105] (by rfl) rfl rfl (by (try simp only [List.map_toArray, List.map_cons, List.map_nil]); first | done | rfl | (simp only [List.length_drop, List.length_take]; rfl)) ?_
                                   with_reducible refine (spec_l15Text.calls k g128 t126 t127 105 t129 t130 w _ ?side1 ?side2 A3.out).mono ?_
                                   (case side1 => repeat (first | (with_reducible first | exact HI128.out | apply IsS70.alloc | apply IsS70.drewN | apply IsS70.drew | apply IsS70.set_1) | exact HI128.out))
                                   (case side2 => repeat (first | (with_reducible first | exact HB.out | apply below_alloc | apply pw_below_drewN | apply below_drew1 | refine below_set ?_ (IsS70.ge HI128.out)) | exact HB.out))
                                   rintro e w19 ⟨rfl, hi, hb, hk⟩
                                   refine ⟨_, rfl, ?_⟩
                                   have n0_ := Aside0.mk (hb)
                                   have n1_ := Aside0.mk (hi)
                                   clear HB
                                   clear HI128
                                   have HB := n0_
                                   have HI128 := n1_
                                   clear n0_ n1_
                                   (try clear hb)
                                   (try clear hb2)
                                   (try clear hk)
                                   (try clear hi)
                                   refine hK.out _ _ trivial (fun hHeld => ?_)
                                   clear hK K
                                   refine norm_ (a' := ?_) ?_ ?_
                                   rotate_left
                                   ·show Act.put _ (some 8) _ = _
                                    simp only [Act.put, List.setIfInBounds_toArray, List.set_cons_zero, List.set_cons_succ, i64_w, i32_w]
                                    rfl
                                   refine pure_ (i := 2) (N := some 9) (v := ?_) (a' := ?_) #[true, true, true, true, false, false, false, true, false, false, false, false, false, true, false, false, false, false, false, false, true, false, false, false, false, false, false, false] rfl rfl (any_of HT_.out (by kernel_rfl)) (fun _ _ _ h => h) (Or.inl ⟨by rfl, ?_⟩) ?_ ?_
                                   rotate_left
                                   ·intro w'
                                    go_simp
                                    with_reducible rfl
                                   rotate_left
                                   ·simp only [Act.put, List.setIfInBounds_toArray, List.set_cons_zero, List.set_cons_succ, i64_w, i32_w]
                                    rfl
                                   exact norm_ (by first | (simp only [putAll, Act.put, List.setIfInBounds_toArray, List.set_cons_zero, List.set_cons_succ]; done) | (simp only [putAll, Act.put, List.setIfInBounds_toArray, List.set_cons_zero, List.set_cons_succ]; rfl)) (hJ1 () _ ⟨(by repeat (first | (with_reducible first | exact HI128.out | apply IsS70.alloc | apply IsS70.drewN | apply IsS70.drew | apply IsS70.set_1) | exact HI128.out)), (by repeat (first | (with_reducible first | exact HB.out | apply below_alloc | apply pw_below_drewN | apply below_drew1 | refine below_set ?_ (IsS70.ge HI128.out)) | exact HB.out))⟩)
                                  ·skip
                                   refine Kd.R_lit_step (Kd.int .i64) _ 3 ?hg (N := 26) ?hd (xs := ([3, 0, 63, 64] : List Int)) (inner := [.int .i64 3, .int .i64 0, .int .i64 63, .int .i64 64]) (ok := fun _ => True) (okp := fun _ => True) ?hr ?hp (fun _ hk => hk) trivial (Below.refl _ _) (Nat.le_refl _) (by simp) ?_; (case hd => rfl); (case hg => rfl); (case hr => first | (go_simp; done) | (go_simp; rfl)); (case hp => exact (Reps.one (show Kd.M (Kd.int .i64) _ _ _ 3 [.int .i64 3] from rfl) (Reps.one (show Kd.M (Kd.int .i64) _ _ _ 0 [.int .i64 0] from rfl) (Reps.one (show Kd.M (Kd.int .i64) _ _ _ 63 [.int .i64 63] from rfl) (Reps.one (show Kd.M (Kd.int .i64) _ _ _ 64 [.int .i64 64] from rfl) (Reps.none _ _))))))
                                   intro v144 w19 ho20 hb hg_ hnew_
                                   clear hg_ hnew_
                                   (first | rw [← Ny143.out] at ho20 | (simp only [Int.reduceToNat] at ho20; rw [← Ny143.out] at ho20))
                                   have n0_ := Aside0.mk (Kd.R_lower ho20 (below_size (by repeat (first | (with_reducible first | exact HB.out | apply below_alloc | apply pw_below_drewN | apply below_drew1 | refine below_set ?_ (IsS70.ge HI128.out)) | exact HB.out))))
                                   have n1_ := Aside0.mk (IsS70.below (by repeat (first | (with_reducible first | exact HI128.out | apply IsS70.alloc | apply IsS70.drewN | apply IsS70.drew | apply IsS70.set_1) | exact HI128.out)) hb)
                                   have n2_ := Aside0.mk (below_step (by repeat (first | (with_reducible first | exact HB.out | apply below_alloc | apply pw_below_drewN | apply below_drew1 | refine below_set ?_ (IsS70.ge HI128.out)) | exact HB.out)) hb)
                                   clear HI128
                                   clear HB
                                   have HO145 := n0_
                                   have HI128 := n1_
                                   have HB := n2_
                                   clear n0_ n1_ n2_
                                   clear hb ho20
                                   obtain ⟨Ao21, co21, eo21⟩ := Kd.R_slice HO145.out
                                   subst eo21
                                   obtain ⟨ado21, fo21, _⟩ := Kd.at_int (Kd.R_reads' HO145.out).2.2 0 (by decide) (by rw [Ny143.out]; simp)
                                   cases fo21
                                   refine hK.out _ _ trivial (fun hHeld => ?_)
                                   clear hK K
                                   refine norm_ (a' := ?_) ?_ ?_
                                   rotate_left
                                   ·show Act.put _ (some 26) _ = _
                                    simp only [Act.put, List.setIfInBounds_toArray, List.set_cons_zero, List.set_cons_succ, i64_w, i32_w]
                                    rfl
                                   exact norm_ (by first | (simp only [putAll, Act.put, List.setIfInBounds_toArray, List.set_cons_zero, List.set_cons_succ]; done) | (simp only [putAll, Act.put, List.setIfInBounds_toArray, List.set_cons_zero, List.set_cons_succ]; rfl)) (hJ19 (.slice (some ado21) y143.length co21, ado21) _ ⟨(by (with_reducible repeat (first | apply Kd.R_alloc | apply Kd.R_drewN | apply Kd.R_drew)); exact HO145.out), ⟨_, rfl⟩, (by repeat (first | (with_reducible first | exact HI128.out | apply IsS70.alloc | apply IsS70.drewN | apply IsS70.drew | apply IsS70.set_1) | exact HI128.out)), (by repeat (first | (with_reducible first | exact HB.out | apply below_alloc | apply pw_below_drewN | apply below_drew1 | refine below_set ?_ (IsS70.ge HI128.out)) | exact HB.out))⟩)
                                 ·skip
                                  rintro ⟨v144, adz_v144⟩ w22 ⟨h0_, h1_, h2_, h3_⟩
                                  have n0_ : Aside0 (Kd.R (Kd.int .i64) 3 w22 w.heap.size (fun _ => True) v144 y143) := ⟨h0_⟩
                                  have n1_ : Aside0 (∃ c_, (v144 : Value) = .slice (some adz_v144) y143.length c_) := ⟨h1_⟩
                                  have n2_ : Aside0 (IsS70 w w22 g128 t126 t127) := ⟨h2_⟩
                                  have n3_ : Aside0 (Below w.heap.size w w22) := ⟨h3_⟩
                                  clear HI128
                                  clear HB
                                  clear h0_ h1_ h2_ h3_
                                  have HO145 := n0_
                                  have HA_HO145 := n1_
                                  have HI128 := n2_
                                  have HB := n3_
                                  clear n0_ n1_ n2_ n3_
                                  have hHeld := trivial
                                  obtain ⟨co23, eo23⟩ := HA_HO145.out
                                  clear HA_HO145
                                  subst eo23
                                  refine norm_ (a' := ?_) ?_ ?_
                                  rotate_left
                                  ·simp only [putAll, Act.put, List.setIfInBounds_toArray, List.set_cons_zero, List.set_cons_succ]
                                   rfl
                                  refine one_ (i := 1) (N := some 8) #[true, true, false, true, false, false, false, true, false, false, false, false, false, true, false, false, false, false, false, true, true, false, false, false, false, false, false, false] rfl rfl (one_of HT_.out (by kernel_rfl)) (by decide) (fun K hK => ?_)
                                  refine goes_ Tryd.func28 (by kernel_rfl) rfl #[.pointer (some ⟨g128, 0, none⟩), .int .i64 105] (by rfl) rfl rfl (by (try simp only [List.map_toArray, List.map_cons, List.map_nil]); first | done | rfl | (simp only [List.length_drop, List.length_take]; rfl)) ?_
                                  with_reducible refine (spec_l15Text.calls k g128 t126 t127 105 t129 t130 w _ ?side1 ?side2 A3.out).mono ?_
                                  (case side1 => repeat (first | (with_reducible first | exact HI128.out | apply IsS70.alloc | apply IsS70.drewN | apply IsS70.drew | apply IsS70.set_1) | exact HI128.out))
                                  (case side2 => repeat (first | (with_reducible first | exact HB.out | apply below_alloc | apply pw_below_drewN | apply below_drew1 | refine below_set ?_ (IsS70.ge HI128.out)) | exact HB.out))
                                  rintro e w24 ⟨rfl, hi, hb, hk⟩
                                  refine ⟨_, rfl, ?_⟩
                                  have n0_ := Aside0.mk (Kd.R_mono (Kd.R_keep (IsS70.apart (show IsS70 w _ g128 t126 t127 from by repeat (first | (with_reducible first | exact HI128.out | apply IsS70.alloc | apply IsS70.drewN | apply IsS70.drew | apply IsS70.set_1) | exact HI128.out)) (by (with_reducible repeat (first | apply Kd.R_alloc | apply Kd.R_drewN | apply Kd.R_drew)); exact HO145.out) (by decide)) hk (fun _ h => h.2)) (fun _ h => h.1))
                                  have n1_ := Aside0.mk (hb)
                                  have n2_ := Aside0.mk (hi)
                                  clear HO145
                                  clear HB
                                  clear HI128
                                  have HO145 := n0_
                                  have HB := n1_
                                  have HI128 := n2_
                                  clear n0_ n1_ n2_
                                  (try clear hb)
                                  (try clear hb2)
                                  (try clear hk)
                                  (try clear hi)
                                  refine hK.out _ _ trivial (fun hHeld => ?_)
                                  clear hK K
                                  refine norm_ (a' := ?_) ?_ ?_
                                  rotate_left
                                  ·show Act.put _ (some 8) _ = _
                                   simp only [Act.put, List.setIfInBounds_toArray, List.set_cons_zero, List.set_cons_succ, i64_w, i32_w]
                                   rfl
                                  refine pure_ (i := 2) (N := some 9) (v := ?_) (a' := ?_) #[true, true, true, true, false, false, false, true, false, false, false, false, false, true, false, false, false, false, false, true, true, false, false, false, false, false, false, false] rfl rfl (any_of HT_.out (by kernel_rfl)) (fun _ _ _ h => h) (Or.inl ⟨by rfl, ?_⟩) ?_ ?_
                                  rotate_left
                                  ·intro w'
                                   go_simp
                                   with_reducible rfl
                                  rotate_left
                                  ·simp only [Act.put, List.setIfInBounds_toArray, List.set_cons_zero, List.set_cons_succ, i64_w, i32_w]
                                   rfl
                                  exact norm_ (by first | (simp only [putAll, Act.put, List.setIfInBounds_toArray, List.set_cons_zero, List.set_cons_succ]; done) | (simp only [putAll, Act.put, List.setIfInBounds_toArray, List.set_cons_zero, List.set_cons_succ]; rfl)) (hJ1_19 (.slice (some adz_v144) y143.length co23, adz_v144) _ ⟨(by (with_reducible repeat (first | apply Kd.R_alloc | apply Kd.R_drewN | apply Kd.R_drew)); exact HO145.out), ⟨_, rfl⟩, (by repeat (first | (with_reducible first | exact HI128.out | apply IsS70.alloc | apply IsS70.drewN | apply IsS70.drew | apply IsS70.set_1) | exact HI128.out)), (by repeat (first | (with_reducible first | exact HB.out | apply below_alloc | apply pw_below_drewN | apply below_drew1 | refine below_set ?_ (IsS70.ge HI128.out)) | exact HB.out))⟩)
                                ·skip
                                 rintro _ w20 ⟨h0_, h1_⟩
                                 have n0_ : Aside0 (IsS70 w w20 g128 t126 t130) := ⟨h0_⟩
                                 have n1_ : Aside0 (Below w.heap.size w w20) := ⟨h1_⟩
                                 clear HI128
                                 clear HB
                                 clear h0_ h1_
                                 have HI128 := n0_
                                 have HB := n1_
                                 clear n0_ n1_
                                 have hHeld := trivial
                                 refine norm_ (a' := ?_) ?_ ?_
                                 rotate_left
                                 ·simp only [putAll, Act.put, List.setIfInBounds_toArray, List.set_cons_zero, List.set_cons_succ]
                                  rfl
                                 refine two_ (i := 4) (j := 19) (Ni := some 11) (Nj := some 26) #[true, true, true, true, true, false, false, true, false, false, false, false, false, true, false, false, false, false, false, false, true, false, false, false, false, false, false, false] #[true, true, true, true, false, false, false, true, false, false, false, false, false, true, false, false, false, false, false, true, true, false, false, false, false, false, false, false] rfl rfl rfl rfl (two_of HT_.out (by kernel_rfl)) (by decide) (by decide) (fun K hK => ?_) (fun K hK => ?_)
                                 ·skip
                                  refine goes_ Tryd.func26 (by kernel_rfl) rfl #[.pointer (some ⟨g128, 0, none⟩), .int .i64 2] (by rfl) rfl rfl (by (try simp only [List.map_toArray, List.map_cons, List.map_nil]); first | done | rfl | (simp only [List.length_drop, List.length_take]; rfl)) ?_
                                  with_reducible refine (spec_l1Rd_pick.calls k g128 t126 t130 2 t131 t132 w _ ?side1 ?side2 A5.out).mono ?_
                                  (case side1 => repeat (first | (with_reducible first | exact HI128.out | apply IsS70.alloc | apply IsS70.drewN | apply IsS70.drew | apply IsS70.set_1) | exact HI128.out))
                                  (case side2 => repeat (first | (with_reducible first | exact HB.out | apply below_alloc | apply pw_below_drewN | apply below_drew1 | refine below_set ?_ (IsS70.ge HI128.out)) | exact HB.out))
                                  rintro e w21 ⟨rfl, hi, hb, hk⟩
                                  refine ⟨_, rfl, ?_⟩
                                  have n0_ := Aside0.mk (hb)
                                  have n1_ := Aside0.mk (hi)
                                  clear HB
                                  clear HI128
                                  have HB := n0_
                                  have HI128 := n1_
                                  clear n0_ n1_
                                  (try clear hb)
                                  (try clear hb2)
                                  (try clear hk)
                                  (try clear hi)
                                  refine hK.out _ _ trivial (fun hHeld => ?_)
                                  clear hK K
                                  refine norm_ (a' := ?_) ?_ ?_
                                  rotate_left
                                  ·show Act.put _ (some 11) _ = _
                                   simp only [Act.put, List.setIfInBounds_toArray, List.set_cons_zero, List.set_cons_succ, i64_w, i32_w]
                                   rfl
                                  refine pure_ (i := 5) (N := some 12) (v := ?_) (a' := ?_) #[true, true, true, true, true, true, false, true, false, false, false, false, false, true, false, false, false, false, false, false, true, false, false, false, false, false, false, false] rfl rfl (any_of HT_.out (by kernel_rfl)) (fun _ _ _ h => h) (Or.inl ⟨by rfl, ?_⟩) ?_ ?_
                                  rotate_left
                                  ·intro w'
                                   go_simp
                                   with_reducible rfl
                                  rotate_left
                                  ·simp only [Act.put, List.setIfInBounds_toArray, List.set_cons_zero, List.set_cons_succ, i64_w, i32_w]
                                   rfl
                                  exact norm_ (by first | (simp only [putAll, Act.put, List.setIfInBounds_toArray, List.set_cons_zero, List.set_cons_succ]; done) | (simp only [putAll, Act.put, List.setIfInBounds_toArray, List.set_cons_zero, List.set_cons_succ]; rfl)) (hJ1_4 () _ ⟨(by repeat (first | (with_reducible first | exact HI128.out | apply IsS70.alloc | apply IsS70.drewN | apply IsS70.drew | apply IsS70.set_1) | exact HI128.out)), (by repeat (first | (with_reducible first | exact HB.out | apply below_alloc | apply pw_below_drewN | apply below_drew1 | refine below_set ?_ (IsS70.ge HI128.out)) | exact HB.out))⟩)
                                 ·skip
                                  refine Kd.R_lit_step (Kd.int .i64) _ 3 ?hg (N := 26) ?hd (xs := ([3, 0, 63, 64] : List Int)) (inner := [.int .i64 3, .int .i64 0, .int .i64 63, .int .i64 64]) (ok := fun _ => True) (okp := fun _ => True) ?hr ?hp (fun _ hk => hk) trivial (Below.refl _ _) (Nat.le_refl _) (by simp) ?_; (case hd => rfl); (case hg => rfl); (case hr => first | (go_simp; done) | (go_simp; rfl)); (case hp => exact (Reps.one (show Kd.M (Kd.int .i64) _ _ _ 3 [.int .i64 3] from rfl) (Reps.one (show Kd.M (Kd.int .i64) _ _ _ 0 [.int .i64 0] from rfl) (Reps.one (show Kd.M (Kd.int .i64) _ _ _ 63 [.int .i64 63] from rfl) (Reps.one (show Kd.M (Kd.int .i64) _ _ _ 64 [.int .i64 64] from rfl) (Reps.none _ _))))))
                                  intro v144 w21 ho22 hb hg_ hnew_
                                  clear hg_ hnew_
                                  (first | rw [← Ny143.out] at ho22 | (simp only [Int.reduceToNat] at ho22; rw [← Ny143.out] at ho22))
                                  have n0_ := Aside0.mk (Kd.R_lower ho22 (below_size (by repeat (first | (with_reducible first | exact HB.out | apply below_alloc | apply pw_below_drewN | apply below_drew1 | refine below_set ?_ (IsS70.ge HI128.out)) | exact HB.out))))
                                  have n1_ := Aside0.mk (IsS70.below (by repeat (first | (with_reducible first | exact HI128.out | apply IsS70.alloc | apply IsS70.drewN | apply IsS70.drew | apply IsS70.set_1) | exact HI128.out)) hb)
                                  have n2_ := Aside0.mk (below_step (by repeat (first | (with_reducible first | exact HB.out | apply below_alloc | apply pw_below_drewN | apply below_drew1 | refine below_set ?_ (IsS70.ge HI128.out)) | exact HB.out)) hb)
                                  clear HI128
                                  clear HB
                                  have HO145 := n0_
                                  have HI128 := n1_
                                  have HB := n2_
                                  clear n0_ n1_ n2_
                                  clear hb ho22
                                  obtain ⟨Ao23, co23, eo23⟩ := Kd.R_slice HO145.out
                                  subst eo23
                                  obtain ⟨ado23, fo23, _⟩ := Kd.at_int (Kd.R_reads' HO145.out).2.2 0 (by decide) (by rw [Ny143.out]; simp)
                                  cases fo23
                                  refine hK.out _ _ trivial (fun hHeld => ?_)
                                  clear hK K
                                  refine norm_ (a' := ?_) ?_ ?_
                                  rotate_left
                                  ·show Act.put _ (some 26) _ = _
                                   simp only [Act.put, List.setIfInBounds_toArray, List.set_cons_zero, List.set_cons_succ, i64_w, i32_w]
                                   rfl
                                  exact norm_ (by first | (simp only [putAll, Act.put, List.setIfInBounds_toArray, List.set_cons_zero, List.set_cons_succ]; done) | (simp only [putAll, Act.put, List.setIfInBounds_toArray, List.set_cons_zero, List.set_cons_succ]; rfl)) (hJ1_19 (.slice (some ado23) y143.length co23, ado23) _ ⟨(by (with_reducible repeat (first | apply Kd.R_alloc | apply Kd.R_drewN | apply Kd.R_drew)); exact HO145.out), ⟨_, rfl⟩, (by repeat (first | (with_reducible first | exact HI128.out | apply IsS70.alloc | apply IsS70.drewN | apply IsS70.drew | apply IsS70.set_1) | exact HI128.out)), (by repeat (first | (with_reducible first | exact HB.out | apply below_alloc | apply pw_below_drewN | apply below_drew1 | refine below_set ?_ (IsS70.ge HI128.out)) | exact HB.out))⟩)
                               ·skip
                                rintro ⟨v144, adz_v144⟩ w23 ⟨h0_, h1_, h2_, h3_⟩
                                have n0_ : Aside0 (Kd.R (Kd.int .i64) 3 w23 w.heap.size (fun _ => True) v144 y143) := ⟨h0_⟩
                                have n1_ : Aside0 (∃ c_, (v144 : Value) = .slice (some adz_v144) y143.length c_) := ⟨h1_⟩
                                have n2_ : Aside0 (IsS70 w w23 g128 t126 t130) := ⟨h2_⟩
                                have n3_ : Aside0 (Below w.heap.size w w23) := ⟨h3_⟩
                                clear HI128
                                clear HB
                                clear h0_ h1_ h2_ h3_
                                have HO145 := n0_
                                have HA_HO145 := n1_
                                have HI128 := n2_
                                have HB := n3_
                                clear n0_ n1_ n2_ n3_
                                have hHeld := trivial
                                obtain ⟨co24, eo24⟩ := HA_HO145.out
                                clear HA_HO145
                                subst eo24
                                refine norm_ (a' := ?_) ?_ ?_
                                rotate_left
                                ·simp only [putAll, Act.put, List.setIfInBounds_toArray, List.set_cons_zero, List.set_cons_succ]
                                 rfl
                                refine one_ (i := 4) (N := some 11) #[true, true, true, true, true, false, false, true, false, false, false, false, false, true, false, false, false, false, false, true, true, false, false, false, false, false, false, false] rfl rfl (one_of HT_.out (by kernel_rfl)) (by decide) (fun K hK => ?_)
                                refine goes_ Tryd.func26 (by kernel_rfl) rfl #[.pointer (some ⟨g128, 0, none⟩), .int .i64 2] (by rfl) rfl rfl (by (try simp only [List.map_toArray, List.map_cons, List.map_nil]); first | done | rfl | (simp only [List.length_drop, List.length_take]; rfl)) ?_
                                with_reducible refine (spec_l1Rd_pick.calls k g128 t126 t130 2 t131 t132 w _ ?side1 ?side2 A5.out).mono ?_
                                (case side1 => repeat (first | (with_reducible first | exact HI128.out | apply IsS70.alloc | apply IsS70.drewN | apply IsS70.drew | apply IsS70.set_1) | exact HI128.out))
                                (case side2 => repeat (first | (with_reducible first | exact HB.out | apply below_alloc | apply pw_below_drewN | apply below_drew1 | refine below_set ?_ (IsS70.ge HI128.out)) | exact HB.out))
                                rintro e w25 ⟨rfl, hi, hb, hk⟩
                                refine ⟨_, rfl, ?_⟩
                                have n0_ := Aside0.mk (Kd.R_mono (Kd.R_keep (IsS70.apart (show IsS70 w _ g128 t126 t130 from by repeat (first | (with_reducible first | exact HI128.out | apply IsS70.alloc | apply IsS70.drewN | apply IsS70.drew | apply IsS70.set_1) | exact HI128.out)) (by (with_reducible repeat (first | apply Kd.R_alloc | apply Kd.R_drewN | apply Kd.R_drew)); exact HO145.out) (by decide)) hk (fun _ h => h.2)) (fun _ h => h.1))
                                have n1_ := Aside0.mk (hb)
                                have n2_ := Aside0.mk (hi)
                                clear HO145
                                clear HB
                                clear HI128
                                have HO145 := n0_
                                have HB := n1_
                                have HI128 := n2_
                                clear n0_ n1_ n2_
                                (try clear hb)
                                (try clear hb2)
                                (try clear hk)
                                (try clear hi)
                                refine hK.out _ _ trivial (fun hHeld => ?_)
                                clear hK K
                                refine norm_ (a' := ?_) ?_ ?_
                                rotate_left
                                ·show Act.put _ (some 11) _ = _
                                 simp only [Act.put, List.setIfInBounds_toArray, List.set_cons_zero, List.set_cons_succ, i64_w, i32_w]
                                 rfl
                                refine pure_ (i := 5) (N := some 12) (v := ?_) (a' := ?_) #[true, true, true, true, true, true, false, true, false, false, false, false, false, true, false, false, false, false, false, true, true, false, false, false, false, false, false, false] rfl rfl (any_of HT_.out (by kernel_rfl)) (fun _ _ _ h => h) (Or.inl ⟨by rfl, ?_⟩) ?_ ?_
                                rotate_left
                                ·intro w'
                                 go_simp
                                 with_reducible rfl
                                rotate_left
                                ·simp only [Act.put, List.setIfInBounds_toArray, List.set_cons_zero, List.set_cons_succ, i64_w, i32_w]
                                 rfl
                                exact norm_ (by first | (simp only [putAll, Act.put, List.setIfInBounds_toArray, List.set_cons_zero, List.set_cons_succ]; done) | (simp only [putAll, Act.put, List.setIfInBounds_toArray, List.set_cons_zero, List.set_cons_succ]; rfl)) (hJ1_4_19 (.slice (some adz_v144) y143.length co24, adz_v144) _ ⟨(by (with_reducible repeat (first | apply Kd.R_alloc | apply Kd.R_drewN | apply Kd.R_drew)); exact HO145.out), ⟨_, rfl⟩, (by repeat (first | (with_reducible first | exact HI128.out | apply IsS70.alloc | apply IsS70.drewN | apply IsS70.drew | apply IsS70.set_1) | exact HI128.out)), (by repeat (first | (with_reducible first | exact HB.out | apply below_alloc | apply pw_below_drewN | apply below_drew1 | refine below_set ?_ (IsS70.ge HI128.out)) | exact HB.out))⟩)
                              ·skip
                               rintro _ w21 ⟨h0_, h1_⟩
                               have n0_ : Aside0 (IsS70 w w21 g128 t126 t132) := ⟨h0_⟩
                               have n1_ : Aside0 (Below w.heap.size w w21) := ⟨h1_⟩
                               clear HI128
                               clear HB
                               clear h0_ h1_
                               have HI128 := n0_
                               have HB := n1_
                               clear n0_ n1_
                               have hHeld := trivial
                               refine norm_ (a' := ?_) ?_ ?_
                               rotate_left
                               ·simp only [putAll, Act.put, List.setIfInBounds_toArray, List.set_cons_zero, List.set_cons_succ]
                                rfl
                               refine two_ (i := 6) (j := 19) (Ni := some 13) (Nj := some 26) #[true, true, true, true, true, true, true, true, false, false, false, false, false, true, false, false, false, false, false, false, true, false, false, false, false, false, false, false] #[true, true, true, true, true, true, false, true, false, false, false, false, false, true, false, false, false, false, false, true, true, false, false, false, false, false, false, false] rfl rfl rfl rfl (two_of HT_.out (by kernel_rfl)) (by decide) (by decide) (fun K hK => ?_) (fun K hK => ?_)
                               ·skip
                                refine goes_ Tryd.func29 (by kernel_rfl) rfl #[.string (⟨#[122]⟩ : ByteArray), .int .i64 (wrap64 (106 + t131))] (by rfl) rfl rfl (by (try simp only [List.map_toArray, List.map_cons, List.map_nil]); first | done | rfl | (simp only [List.length_drop, List.length_take]; rfl)) ?_
                                with_reducible refine (spec_l1Many.calls k (⟨#[122]⟩ : ByteArray) (wrap64 (106 + t131)) t133 _ A6.out).mono ?_
                                rintro e w' ⟨rfl, ⟨nd, rfl⟩⟩
                                refine ⟨_, rfl, ?_⟩
                                refine hK.out _ _ trivial (fun hHeld => ?_)
                                clear hK K
                                refine norm_ (a' := ?_) ?_ ?_
                                rotate_left
                                ·show Act.put _ (some 13) _ = _
                                 simp only [Act.put, List.setIfInBounds_toArray, List.set_cons_zero, List.set_cons_succ, i64_w, i32_w]
                                 rfl
                                exact norm_ (by first | (simp only [putAll, Act.put, List.setIfInBounds_toArray, List.set_cons_zero, List.set_cons_succ]; done) | (simp only [putAll, Act.put, List.setIfInBounds_toArray, List.set_cons_zero, List.set_cons_succ]; rfl)) (hJ1_4_6 () _ ⟨(by repeat (first | (with_reducible first | exact HI128.out | apply IsS70.alloc | apply IsS70.drewN | apply IsS70.drew | apply IsS70.set_1) | exact HI128.out)), (by repeat (first | (with_reducible first | exact HB.out | apply below_alloc | apply pw_below_drewN | apply below_drew1 | refine below_set ?_ (IsS70.ge HI128.out)) | exact HB.out))⟩)
                               ·skip
                                refine Kd.R_lit_step (Kd.int .i64) _ 3 ?hg (N := 26) ?hd (xs := ([3, 0, 63, 64] : List Int)) (inner := [.int .i64 3, .int .i64 0, .int .i64 63, .int .i64 64]) (ok := fun _ => True) (okp := fun _ => True) ?hr ?hp (fun _ hk => hk) trivial (Below.refl _ _) (Nat.le_refl _) (by simp) ?_; (case hd => rfl); (case hg => rfl); (case hr => first | (go_simp; done) | (go_simp; rfl)); (case hp => exact (Reps.one (show Kd.M (Kd.int .i64) _ _ _ 3 [.int .i64 3] from rfl) (Reps.one (show Kd.M (Kd.int .i64) _ _ _ 0 [.int .i64 0] from rfl) (Reps.one (show Kd.M (Kd.int .i64) _ _ _ 63 [.int .i64 63] from rfl) (Reps.one (show Kd.M (Kd.int .i64) _ _ _ 64 [.int .i64 64] from rfl) (Reps.none _ _))))))
                                intro v144 w22 ho23 hb hg_ hnew_
                                clear hg_ hnew_
                                (first | rw [← Ny143.out] at ho23 | (simp only [Int.reduceToNat] at ho23; rw [← Ny143.out] at ho23))
                                have n0_ := Aside0.mk (Kd.R_lower ho23 (below_size (by repeat (first | (with_reducible first | exact HB.out | apply below_alloc | apply pw_below_drewN | apply below_drew1 | refine below_set ?_ (IsS70.ge HI128.out)) | exact HB.out))))
                                have n1_ := Aside0.mk (IsS70.below (by repeat (first | (with_reducible first | exact HI128.out | apply IsS70.alloc | apply IsS70.drewN | apply IsS70.drew | apply IsS70.set_1) | exact HI128.out)) hb)
                                have n2_ := Aside0.mk (below_step (by repeat (first | (with_reducible first | exact HB.out | apply below_alloc | apply pw_below_drewN | apply below_drew1 | refine below_set ?_ (IsS70.ge HI128.out)) | exact HB.out)) hb)
                                clear HI128
                                clear HB
                                have HO145 := n0_
                                have HI128 := n1_
                                have HB := n2_
                                clear n0_ n1_ n2_
                                clear hb ho23
                                obtain ⟨Ao24, co24, eo24⟩ := Kd.R_slice HO145.out
                                subst eo24
                                obtain ⟨ado24, fo24, _⟩ := Kd.at_int (Kd.R_reads' HO145.out).2.2 0 (by decide) (by rw [Ny143.out]; simp)
                                cases fo24
                                refine hK.out _ _ trivial (fun hHeld => ?_)
                                clear hK K
                                refine norm_ (a' := ?_) ?_ ?_
                                rotate_left
                                ·show Act.put _ (some 26) _ = _
                                 simp only [Act.put, List.setIfInBounds_toArray, List.set_cons_zero, List.set_cons_succ, i64_w, i32_w]
                                 rfl
                                exact norm_ (by first | (simp only [putAll, Act.put, List.setIfInBounds_toArray, List.set_cons_zero, List.set_cons_succ]; done) | (simp only [putAll, Act.put, List.setIfInBounds_toArray, List.set_cons_zero, List.set_cons_succ]; rfl)) (hJ1_4_19 (.slice (some ado24) y143.length co24, ado24) _ ⟨(by (with_reducible repeat (first | apply Kd.R_alloc | apply Kd.R_drewN | apply Kd.R_drew)); exact HO145.out), ⟨_, rfl⟩, (by repeat (first | (with_reducible first | exact HI128.out | apply IsS70.alloc | apply IsS70.drewN | apply IsS70.drew | apply IsS70.set_1) | exact HI128.out)), (by repeat (first | (with_reducible first | exact HB.out | apply below_alloc | apply pw_below_drewN | apply below_drew1 | refine below_set ?_ (IsS70.ge HI128.out)) | exact HB.out))⟩)
                             ·skip
                              rintro ⟨v144, adz_v144⟩ w24 ⟨h0_, h1_, h2_, h3_⟩
                              have n0_ : Aside0 (Kd.R (Kd.int .i64) 3 w24 w.heap.size (fun _ => True) v144 y143) := ⟨h0_⟩
                              have n1_ : Aside0 (∃ c_, (v144 : Value) = .slice (some adz_v144) y143.length c_) := ⟨h1_⟩
                              have n2_ : Aside0 (IsS70 w w24 g128 t126 t132) := ⟨h2_⟩
                              have n3_ : Aside0 (Below w.heap.size w w24) := ⟨h3_⟩
                              clear HI128
                              clear HB
                              clear h0_ h1_ h2_ h3_
                              have HO145 := n0_
                              have HA_HO145 := n1_
                              have HI128 := n2_
                              have HB := n3_
                              clear n0_ n1_ n2_ n3_
                              have hHeld := trivial
                              obtain ⟨co25, eo25⟩ := HA_HO145.out
                              clear HA_HO145
                              subst eo25
                              refine norm_ (a' := ?_) ?_ ?_
                              rotate_left
                              ·simp only [putAll, Act.put, List.setIfInBounds_toArray, List.set_cons_zero, List.set_cons_succ]
                               rfl
                              refine one_ (i := 6) (N := some 13) #[true, true, true, true, true, true, true, true, false, false, false, false, false, true, false, false, false, false, false, true, true, false, false, false, false, false, false, false] rfl rfl (one_of HT_.out (by kernel_rfl)) (by decide) (fun K hK => ?_)
                              refine goes_ Tryd.func29 (by kernel_rfl) rfl #[.string (⟨#[122]⟩ : ByteArray), .int .i64 (wrap64 (106 + t131))] (by rfl) rfl rfl (by (try simp only [List.map_toArray, List.map_cons, List.map_nil]); first | done | rfl | (simp only [List.length_drop, List.length_take]; rfl)) ?_
                              with_reducible refine (spec_l1Many.calls k (⟨#[122]⟩ : ByteArray) (wrap64 (106 + t131)) t133 _ A6.out).mono ?_
                              rintro e w' ⟨rfl, ⟨nd, rfl⟩⟩
                              refine ⟨_, rfl, ?_⟩
                              refine hK.out _ _ trivial (fun hHeld => ?_)
                              clear hK K
                              refine norm_ (a' := ?_) ?_ ?_
                              rotate_left
                              ·show Act.put _ (some 13) _ = _
                               simp only [Act.put, List.setIfInBounds_toArray, List.set_cons_zero, List.set_cons_succ, i64_w, i32_w]
                               rfl
                              exact norm_ (by first | (simp only [putAll, Act.put, List.setIfInBounds_toArray, List.set_cons_zero, List.set_cons_succ]; done) | (simp only [putAll, Act.put, List.setIfInBounds_toArray, List.set_cons_zero, List.set_cons_succ]; rfl)) (hJ1_4_6_19 (.slice (some adz_v144) y143.length co25, adz_v144) _ ⟨(by (with_reducible repeat (first | apply Kd.R_alloc | apply Kd.R_drewN | apply Kd.R_drew)); exact HO145.out), ⟨_, rfl⟩, (by repeat (first | (with_reducible first | exact HI128.out | apply IsS70.alloc | apply IsS70.drewN | apply IsS70.drew | apply IsS70.set_1) | exact HI128.out)), (by repeat (first | (with_reducible first | exact HB.out | apply below_alloc | apply pw_below_drewN | apply below_drew1 | refine below_set ?_ (IsS70.ge HI128.out)) | exact HB.out))⟩)
                            ·skip
                             rintro _ w21 ⟨h0_, h1_⟩
                             have n0_ : Aside0 (IsS70 w w21 g128 t126 t132) := ⟨h0_⟩
                             have n1_ : Aside0 (Below w.heap.size w w21) := ⟨h1_⟩
                             clear HI128
                             clear HB
                             clear h0_ h1_
                             have HI128 := n0_
                             have HB := n1_
                             clear n0_ n1_
                             have hHeld := trivial
                             refine norm_ (a' := ?_) ?_ ?_
                             rotate_left
                             ·simp only [putAll, Act.put, List.setIfInBounds_toArray, List.set_cons_zero, List.set_cons_succ]
                              rfl
                             refine two_ (i := 8) (j := 19) (Ni := some 15) (Nj := some 26) #[true, true, true, true, true, true, true, true, true, false, false, false, false, true, false, false, false, false, false, false, true, false, false, false, false, false, false, false] #[true, true, true, true, true, true, true, true, false, false, false, false, false, true, false, false, false, false, false, true, true, false, false, false, false, false, false, false] rfl rfl rfl rfl (two_of HT_.out (by kernel_rfl)) (by decide) (by decide) (fun K hK => ?_) (fun K hK => ?_)
                             ·skip
                              refine goes_ Tryd.func26 (by kernel_rfl) rfl #[.pointer (some ⟨g128, 0, none⟩), .int .i64 3] (by rfl) rfl rfl (by (try simp only [List.map_toArray, List.map_cons, List.map_nil]); first | done | rfl | (simp only [List.length_drop, List.length_take]; rfl)) ?_
                              with_reducible refine (spec_l1Rd_pick.calls k g128 t126 t132 3 t134 t135 w _ ?side1 ?side2 A7.out).mono ?_
                              (case side1 => repeat (first | (with_reducible first | exact HI128.out | apply IsS70.alloc | apply IsS70.drewN | apply IsS70.drew | apply IsS70.set_1) | exact HI128.out))
                              (case side2 => repeat (first | (with_reducible first | exact HB.out | apply below_alloc | apply pw_below_drewN | apply below_drew1 | refine below_set ?_ (IsS70.ge HI128.out)) | exact HB.out))
                              rintro e w22 ⟨rfl, hi, hb, hk⟩
                              refine ⟨_, rfl, ?_⟩
                              have n0_ := Aside0.mk (hb)
                              have n1_ := Aside0.mk (hi)
                              clear HB
                              clear HI128
                              have HB := n0_
                              have HI128 := n1_
                              clear n0_ n1_
                              (try clear hb)
                              (try clear hb2)
                              (try clear hk)
                              (try clear hi)
                              refine hK.out _ _ trivial (fun hHeld => ?_)
                              clear hK K
                              refine norm_ (a' := ?_) ?_ ?_
                              rotate_left
                              ·show Act.put _ (some 15) _ = _
                               simp only [Act.put, List.setIfInBounds_toArray, List.set_cons_zero, List.set_cons_succ, i64_w, i32_w]
                               rfl
                              refine pure_ (i := 9) (N := some 16) (v := ?_) (a' := ?_) #[true, true, true, true, true, true, true, true, true, true, false, false, false, true, false, false, false, false, false, false, true, false, false, false, false, false, false, false] rfl rfl (any_of HT_.out (by kernel_rfl)) (fun _ _ _ h => h) (Or.inl ⟨by rfl, ?_⟩) ?_ ?_
                              rotate_left
                              ·intro w'
                               go_simp
                               with_reducible rfl
                              rotate_left
                              ·simp only [Act.put, List.setIfInBounds_toArray, List.set_cons_zero, List.set_cons_succ, i64_w, i32_w]
                               rfl
                              refine pure_ (i := 10) (N := some 17) (v := ?_) (a' := ?_) #[true, true, true, true, true, true, true, true, true, true, true, false, false, true, false, false, false, false, false, false, true, false, false, false, false, false, false, false] rfl rfl (any_of HT_.out (by kernel_rfl)) (fun _ _ _ h => h) (Or.inl ⟨by rfl, ?_⟩) ?_ ?_
                              rotate_left
                              ·intro w'
                               go_simp
                               with_reducible rfl
                              rotate_left
                              ·simp only [Act.put, List.setIfInBounds_toArray, List.set_cons_zero, List.set_cons_succ, i64_w, i32_w]
                               rfl
                              exact norm_ (by first | (simp only [putAll, Act.put, List.setIfInBounds_toArray, List.set_cons_zero, List.set_cons_succ]; done) | (simp only [putAll, Act.put, List.setIfInBounds_toArray, List.set_cons_zero, List.set_cons_succ]; rfl)) (hJ1_4_6_8 () _ ⟨(by repeat (first | (with_reducible first | exact HI128.out | apply IsS70.alloc | apply IsS70.drewN | apply IsS70.drew | apply IsS70.set_1) | exact HI128.out)), (by repeat (first | (with_reducible first | exact HB.out | apply below_alloc | apply pw_below_drewN | apply below_drew1 | refine below_set ?_ (IsS70.ge HI128.out)) | exact HB.out))⟩)
                             ·skip
                              refine Kd.R_lit_step (Kd.int .i64) _ 3 ?hg (N := 26) ?hd (xs := ([3, 0, 63, 64] : List Int)) (inner := [.int .i64 3, .int .i64 0, .int .i64 63, .int .i64 64]) (ok := fun _ => True) (okp := fun _ => True) ?hr ?hp (fun _ hk => hk) trivial (Below.refl _ _) (Nat.le_refl _) (by simp) ?_; (case hd => rfl); (case hg => rfl); (case hr => first | (go_simp; done) | (go_simp; rfl)); (case hp => exact (Reps.one (show Kd.M (Kd.int .i64) _ _ _ 3 [.int .i64 3] from rfl) (Reps.one (show Kd.M (Kd.int .i64) _ _ _ 0 [.int .i64 0] from rfl) (Reps.one (show Kd.M (Kd.int .i64) _ _ _ 63 [.int .i64 63] from rfl) (Reps.one (show Kd.M (Kd.int .i64) _ _ _ 64 [.int .i64 64] from rfl) (Reps.none _ _))))))
                              intro v144 w22 ho23 hb hg_ hnew_
                              clear hg_ hnew_
                              (first | rw [← Ny143.out] at ho23 | (simp only [Int.reduceToNat] at ho23; rw [← Ny143.out] at ho23))
                              have n0_ := Aside0.mk (Kd.R_lower ho23 (below_size (by repeat (first | (with_reducible first | exact HB.out | apply below_alloc | apply pw_below_drewN | apply below_drew1 | refine below_set ?_ (IsS70.ge HI128.out)) | exact HB.out))))
                              have n1_ := Aside0.mk (IsS70.below (by repeat (first | (with_reducible first | exact HI128.out | apply IsS70.alloc | apply IsS70.drewN | apply IsS70.drew | apply IsS70.set_1) | exact HI128.out)) hb)
                              have n2_ := Aside0.mk (below_step (by repeat (first | (with_reducible first | exact HB.out | apply below_alloc | apply pw_below_drewN | apply below_drew1 | refine below_set ?_ (IsS70.ge HI128.out)) | exact HB.out)) hb)
                              clear HI128
                              clear HB
                              have HO145 := n0_
                              have HI128 := n1_
                              have HB := n2_
                              clear n0_ n1_ n2_
                              clear hb ho23
                              obtain ⟨Ao24, co24, eo24⟩ := Kd.R_slice HO145.out
                              subst eo24
                              obtain ⟨ado24, fo24, _⟩ := Kd.at_int (Kd.R_reads' HO145.out).2.2 0 (by decide) (by rw [Ny143.out]; simp)
                              cases fo24
                              refine hK.out _ _ trivial (fun hHeld => ?_)
                              clear hK K
                              refine norm_ (a' := ?_) ?_ ?_
                              rotate_left
                              ·show Act.put _ (some 26) _ = _
                               simp only [Act.put, List.setIfInBounds_toArray, List.set_cons_zero, List.set_cons_succ, i64_w, i32_w]
                               rfl
                              exact norm_ (by first | (simp only [putAll, Act.put, List.setIfInBounds_toArray, List.set_cons_zero, List.set_cons_succ]; done) | (simp only [putAll, Act.put, List.setIfInBounds_toArray, List.set_cons_zero, List.set_cons_succ]; rfl)) (hJ1_4_6_19 (.slice (some ado24) y143.length co24, ado24) _ ⟨(by (with_reducible repeat (first | apply Kd.R_alloc | apply Kd.R_drewN | apply Kd.R_drew)); exact HO145.out), ⟨_, rfl⟩, (by repeat (first | (with_reducible first | exact HI128.out | apply IsS70.alloc | apply IsS70.drewN | apply IsS70.drew | apply IsS70.set_1) | exact HI128.out)), (by repeat (first | (with_reducible first | exact HB.out | apply below_alloc | apply pw_below_drewN | apply below_drew1 | refine below_set ?_ (IsS70.ge HI128.out)) | exact HB.out))⟩)
                           ·skip
                            rintro ⟨v144, adz_v144⟩ w24 ⟨h0_, h1_, h2_, h3_⟩
                            have n0_ : Aside0 (Kd.R (Kd.int .i64) 3 w24 w.heap.size (fun _ => True) v144 y143) := ⟨h0_⟩
                            have n1_ : Aside0 (∃ c_, (v144 : Value) = .slice (some adz_v144) y143.length c_) := ⟨h1_⟩
                            have n2_ : Aside0 (IsS70 w w24 g128 t126 t132) := ⟨h2_⟩
                            have n3_ : Aside0 (Below w.heap.size w w24) := ⟨h3_⟩
                            clear HI128
                            clear HB
                            clear h0_ h1_ h2_ h3_
                            have HO145 := n0_
                            have HA_HO145 := n1_
                            have HI128 := n2_
                            have HB := n3_
                            clear n0_ n1_ n2_ n3_
                            have hHeld := trivial
                            obtain ⟨co25, eo25⟩ := HA_HO145.out
                            clear HA_HO145
                            subst eo25
                            refine norm_ (a' := ?_) ?_ ?_
                            rotate_left
                            ·simp only [putAll, Act.put, List.setIfInBounds_toArray, List.set_cons_zero, List.set_cons_succ]
                             rfl
                            refine one_ (i := 8) (N := some 15) #[true, true, true, true, true, true, true, true, true, false, false, false, false, true, false, false, false, false, false, true, true, false, false, false, false, false, false, false] rfl rfl (one_of HT_.out (by kernel_rfl)) (by decide) (fun K hK => ?_)
                            refine goes_ Tryd.func26 (by kernel_rfl) rfl #[.pointer (some ⟨g128, 0, none⟩), .int .i64 3] (by rfl) rfl rfl (by (try simp only [List.map_toArray, List.map_cons, List.map_nil]); first | done | rfl | (simp only [List.length_drop, List.length_take]; rfl)) ?_
                            with_reducible refine (spec_l1Rd_pick.calls k g128 t126 t132 3 t134 t135 w _ ?side1 ?side2 A7.out).mono ?_
                            (case side1 => repeat (first | (with_reducible first | exact HI128.out | apply IsS70.alloc | apply IsS70.drewN | apply IsS70.drew | apply IsS70.set_1) | exact HI128.out))
                            (case side2 => repeat (first | (with_reducible first | exact HB.out | apply below_alloc | apply pw_below_drewN | apply below_drew1 | refine below_set ?_ (IsS70.ge HI128.out)) | exact HB.out))
                            rintro e w26 ⟨rfl, hi, hb, hk⟩
                            refine ⟨_, rfl, ?_⟩
                            have n0_ := Aside0.mk (Kd.R_mono (Kd.R_keep (IsS70.apart (show IsS70 w _ g128 t126 t132 from by repeat (first | (with_reducible first | exact HI128.out | apply IsS70.alloc | apply IsS70.drewN | apply IsS70.drew | apply IsS70.set_1) | exact HI128.out)) (by (with_reducible repeat (first | apply Kd.R_alloc | apply Kd.R_drewN | apply Kd.R_drew)); exact HO145.out) (by decide)) hk (fun _ h => h.2)) (fun _ h => h.1))
                            have n1_ := Aside0.mk (hb)
                            have n2_ := Aside0.mk (hi)
                            clear HO145
                            clear HB
                            clear HI128
                            have HO145 := n0_
                            have HB := n1_
                            have HI128 := n2_
                            clear n0_ n1_ n2_
                            (try clear hb)
                            (try clear hb2)
                            (try clear hk)
                            (try clear hi)
                            refine hK.out _ _ trivial (fun hHeld => ?_)
                            clear hK K
                            refine norm_ (a' := ?_) ?_ ?_
                            rotate_left
                            ·show Act.put _ (some 15) _ = _
                             simp only [Act.put, List.setIfInBounds_toArray, List.set_cons_zero, List.set_cons_succ, i64_w, i32_w]
                             rfl
                            refine pure_ (i := 9) (N := some 16) (v := ?_) (a' := ?_) #[true, true, true, true, true, true, true, true, true, true, false, false, false, true, false, false, false, false, false, true, true, false, false, false, false, false, false, false] rfl rfl (any_of HT_.out (by kernel_rfl)) (fun _ _ _ h => h) (Or.inl ⟨by rfl, ?_⟩) ?_ ?_
                            rotate_left
                            ·intro w'
                             go_simp
                             with_reducible rfl
                            rotate_left
                            ·simp only [Act.put, List.setIfInBounds_toArray, List.set_cons_zero, List.set_cons_succ, i64_w, i32_w]
                             rfl
                            refine pure_ (i := 10) (N := some 17) (v := ?_) (a' := ?_) #[true, true, true, true, true, true, true, true, true, true, true, false, false, true, false, false, false, false, false, true, true, false, false, false, false, false, false, false] rfl rfl (any_of HT_.out (by kernel_rfl)) (fun _ _ _ h => h) (Or.inl ⟨by rfl, ?_⟩) ?_ ?_
                            rotate_left
                            ·intro w'
                             go_simp
                             with_reducible rfl
                            rotate_left
                            ·simp only [Act.put, List.setIfInBounds_toArray, List.set_cons_zero, List.set_cons_succ, i64_w, i32_w]
                             rfl
                            exact norm_ (by first | (simp only [putAll, Act.put, List.setIfInBounds_toArray, List.set_cons_zero, List.set_cons_succ]; done) | (simp only [putAll, Act.put, List.setIfInBounds_toArray, List.set_cons_zero, List.set_cons_succ]; rfl)) (hJ1_4_6_8_19 (.slice (some adz_v144) y143.length co25, adz_v144) _ ⟨(by (with_reducible repeat (first | apply Kd.R_alloc | apply Kd.R_drewN | apply Kd.R_drew)); exact HO145.out), ⟨_, rfl⟩, (by repeat (first | (with_reducible first | exact HI128.out | apply IsS70.alloc | apply IsS70.drewN | apply IsS70.drew | apply IsS70.set_1) | exact HI128.out)), (by repeat (first | (with_reducible first | exact HB.out | apply below_alloc | apply pw_below_drewN | apply below_drew1 | refine below_set ?_ (IsS70.ge HI128.out)) | exact HB.out))⟩)
                          ·skip
                           rintro _ w22 ⟨h0_, h1_⟩
                           have n0_ : Aside0 (IsS70 w w22 g128 t126 t135) := ⟨h0_⟩
                           have n1_ : Aside0 (Below w.heap.size w w22) := ⟨h1_⟩
                           clear HI128
                           clear HB
                           clear h0_ h1_
                           have HI128 := n0_
                           have HB := n1_
                           clear n0_ n1_
                           have hHeld := trivial
                           refine norm_ (a' := ?_) ?_ ?_
                           rotate_left
                           ·simp only [putAll, Act.put, List.setIfInBounds_toArray, List.set_cons_zero, List.set_cons_succ]
                            rfl
                           refine two_ (i := 11) (j := 19) (Ni := some 18) (Nj := some 26) #[true, true, true, true, true, true, true, true, true, true, true, true, false, true, false, false, false, false, false, false, true, false, false, false, false, false, false, false] #[true, true, true, true, true, true, true, true, true, true, true, false, false, true, false, false, false, false, false, true, true, false, false, false, false, false, false, false] rfl rfl rfl rfl (two_of HT_.out (by kernel_rfl)) (by decide) (by decide) (fun K hK => ?_) (fun K hK => ?_)
                           ·skip
                            refine goes_ Tryd.func29 (by kernel_rfl) rfl #[.string (⟨#[121]⟩ : ByteArray), .int .i64 (wrap64 (20 * (wrap64 (1 + t134))))] (by rfl) rfl rfl (by (try simp only [List.map_toArray, List.map_cons, List.map_nil]); first | done | rfl | (simp only [List.length_drop, List.length_take]; rfl)) ?_
                            with_reducible refine (spec_l1Many.calls k (⟨#[121]⟩ : ByteArray) (wrap64 (20 * (wrap64 (1 + t134)))) t136 _ A8.out).mono ?_
                            rintro e w' ⟨rfl, ⟨nd, rfl⟩⟩
                            refine ⟨_, rfl, ?_⟩
                            refine hK.out _ _ trivial (fun hHeld => ?_)
                            clear hK K
                            refine norm_ (a' := ?_) ?_ ?_
                            rotate_left
                            ·show Act.put _ (some 18) _ = _
                             simp only [Act.put, List.setIfInBounds_toArray, List.set_cons_zero, List.set_cons_succ, i64_w, i32_w]
                             rfl
                            exact norm_ (by first | (simp only [putAll, Act.put, List.setIfInBounds_toArray, List.set_cons_zero, List.set_cons_succ]; done) | (simp only [putAll, Act.put, List.setIfInBounds_toArray, List.set_cons_zero, List.set_cons_succ]; rfl)) (hJ1_4_6_8_11 () _ ⟨(by repeat (first | (with_reducible first | exact HI128.out | apply IsS70.alloc | apply IsS70.drewN | apply IsS70.drew | apply IsS70.set_1) | exact HI128.out)), (by repeat (first | (with_reducible first | exact HB.out | apply below_alloc | apply pw_below_drewN | apply below_drew1 | refine below_set ?_ (IsS70.ge HI128.out)) | exact HB.out))⟩)
                           ·skip
                            refine Kd.R_lit_step (Kd.int .i64) _ 3 ?hg (N := 26) ?hd (xs := ([3, 0, 63, 64] : List Int)) (inner := [.int .i64 3, .int .i64 0, .int .i64 63, .int .i64 64]) (ok := fun _ => True) (okp := fun _ => True) ?hr ?hp (fun _ hk => hk) trivial (Below.refl _ _) (Nat.le_refl _) (by simp) ?_; (case hd => rfl); (case hg => rfl); (case hr => first | (go_simp; done) | (go_simp; rfl)); (case hp => exact (Reps.one (show Kd.M (Kd.int .i64) _ _ _ 3 [.int .i64 3] from rfl) (Reps.one (show Kd.M (Kd.int .i64) _ _ _ 0 [.int .i64 0] from rfl) (Reps.one (show Kd.M (Kd.int .i64) _ _ _ 63 [.int .i64 63] from rfl) (Reps.one (show Kd.M (Kd.int .i64) _ _ _ 64 [.int .i64 64] from rfl) (Reps.none _ _))))))
                            intro v144 w23 ho24 hb hg_ hnew_
                            clear hg_ hnew_
                            (first | rw [← Ny143.out] at ho24 | (simp only [Int.reduceToNat] at ho24; rw [← Ny143.out] at ho24))
                            have n0_ := Aside0.mk (Kd.R_lower ho24 (below_size (by repeat (first | (with_reducible first | exact HB.out | apply below_alloc | apply pw_below_drewN | apply below_drew1 | refine below_set ?_ (IsS70.ge HI128.out)) | exact HB.out))))
                            have n1_ := Aside0.mk (IsS70.below (by repeat (first | (with_reducible first | exact HI128.out | apply IsS70.alloc | apply IsS70.drewN | apply IsS70.drew | apply IsS70.set_1) | exact HI128.out)) hb)
                            have n2_ := Aside0.mk (below_step (by repeat (first | (with_reducible first | exact HB.out | apply below_alloc | apply pw_below_drewN | apply below_drew1 | refine below_set ?_ (IsS70.ge HI128.out)) | exact HB.out)) hb)
                            clear HI128
                            clear HB
                            have HO145 := n0_
                            have HI128 := n1_
                            have HB := n2_
                            clear n0_ n1_ n2_
                            clear hb ho24
                            obtain ⟨Ao25, co25, eo25⟩ := Kd.R_slice HO145.out
                            subst eo25
                            obtain ⟨ado25, fo25, _⟩ := Kd.at_int (Kd.R_reads' HO145.out).2.2 0 (by decide) (by rw [Ny143.out]; simp)
                            cases fo25
                            refine hK.out _ _ trivial (fun hHeld => ?_)
                            clear hK K
                            refine norm_ (a' := ?_) ?_ ?_
                            rotate_left
                            ·show Act.put _ (some 26) _ = _
                             simp only [Act.put, List.setIfInBounds_toArray, List.set_cons_zero, List.set_cons_succ, i64_w, i32_w]
                             rfl
                            exact norm_ (by first | (simp only [putAll, Act.put, List.setIfInBounds_toArray, List.set_cons_zero, List.set_cons_succ]; done) | (simp only [putAll, Act.put, List.setIfInBounds_toArray, List.set_cons_zero, List.set_cons_succ]; rfl)) (hJ1_4_6_8_19 (.slice (some ado25) y143.length co25, ado25) _ ⟨(by (with_reducible repeat (first | apply Kd.R_alloc | apply Kd.R_drewN | apply Kd.R_drew)); exact HO145.out), ⟨_, rfl⟩, (by repeat (first | (with_reducible first | exact HI128.out | apply IsS70.alloc | apply IsS70.drewN | apply IsS70.drew | apply IsS70.set_1) | exact HI128.out)), (by repeat (first | (with_reducible first | exact HB.out | apply below_alloc | apply pw_below_drewN | apply below_drew1 | refine below_set ?_ (IsS70.ge HI128.out)) | exact HB.out))⟩)
                         ·skip
                          rintro ⟨v144, adz_v144⟩ w25 ⟨h0_, h1_, h2_, h3_⟩
                          have n0_ : Aside0 (Kd.R (Kd.int .i64) 3 w25 w.heap.size (fun _ => True) v144 y143) := ⟨h0_⟩
                          have n1_ : Aside0 (∃ c_, (v144 : Value) = .slice (some adz_v144) y143.length c_) := ⟨h1_⟩
                          have n2_ : Aside0 (IsS70 w w25 g128 t126 t135) := ⟨h2_⟩
                          have n3_ : Aside0 (Below w.heap.size w w25) := ⟨h3_⟩
                          clear HI128
                          clear HB
                          clear h0_ h1_ h2_ h3_
                          have HO145 := n0_
                          have HA_HO145 := n1_
                          have HI128 := n2_
                          have HB := n3_
                          clear n0_ n1_ n2_ n3_
                          have hHeld := trivial
                          obtain ⟨co26, eo26⟩ := HA_HO145.out
                          clear HA_HO145
                          subst eo26
                          refine norm_ (a' := ?_) ?_ ?_
                          rotate_left
                          ·simp only [putAll, Act.put, List.setIfInBounds_toArray, List.set_cons_zero, List.set_cons_succ]
                           rfl
                          refine one_ (i := 11) (N := some 18) #[true, true, true, true, true, true, true, true, true, true, true, true, false, true, false, false, false, false, false, true, true, false, false, false, false, false, false, false] rfl rfl (one_of HT_.out (by kernel_rfl)) (by decide) (fun K hK => ?_)
                          refine goes_ Tryd.func29 (by kernel_rfl) rfl #[.string (⟨#[121]⟩ : ByteArray), .int .i64 (wrap64 (20 * (wrap64 (1 + t134))))] (by rfl) rfl rfl (by (try simp only [List.map_toArray, List.map_cons, List.map_nil]); first | done | rfl | (simp only [List.length_drop, List.length_take]; rfl)) ?_
                          with_reducible refine (spec_l1Many.calls k (⟨#[121]⟩ : ByteArray) (wrap64 (20 * (wrap64 (1 + t134)))) t136 _ A8.out).mono ?_
                          rintro e w' ⟨rfl, ⟨nd, rfl⟩⟩
                          refine ⟨_, rfl, ?_⟩
                          refine hK.out _ _ trivial (fun hHeld => ?_)
                          clear hK K
                          refine norm_ (a' := ?_) ?_ ?_
                          rotate_left
                          ·show Act.put _ (some 18) _ = _
                           simp only [Act.put, List.setIfInBounds_toArray, List.set_cons_zero, List.set_cons_succ, i64_w, i32_w]
                           rfl
                          exact norm_ (by first | (simp only [putAll, Act.put, List.setIfInBounds_toArray, List.set_cons_zero, List.set_cons_succ]; done) | (simp only [putAll, Act.put, List.setIfInBounds_toArray, List.set_cons_zero, List.set_cons_succ]; rfl)) (hJ1_4_6_8_11_19 (.slice (some adz_v144) y143.length co26, adz_v144) _ ⟨(by (with_reducible repeat (first | apply Kd.R_alloc | apply Kd.R_drewN | apply Kd.R_drew)); exact HO145.out), ⟨_, rfl⟩, (by repeat (first | (with_reducible first | exact HI128.out | apply IsS70.alloc | apply IsS70.drewN | apply IsS70.drew | apply IsS70.set_1) | exact HI128.out)), (by repeat (first | (with_reducible first | exact HB.out | apply below_alloc | apply pw_below_drewN | apply below_drew1 | refine below_set ?_ (IsS70.ge HI128.out)) | exact HB.out))⟩)
                        ·skip
                         rintro _ w22 ⟨h0_, h1_⟩
                         have n0_ : Aside0 (IsS70 w w22 g128 t126 t135) := ⟨h0_⟩
                         have n1_ : Aside0 (Below w.heap.size w w22) := ⟨h1_⟩
                         clear HI128
                         clear HB
                         clear h0_ h1_
                         have HI128 := n0_
                         have HB := n1_
                         clear n0_ n1_
                         have hHeld := trivial
                         refine norm_ (a' := ?_) ?_ ?_
                         rotate_left
                         ·simp only [putAll, Act.put, List.setIfInBounds_toArray, List.set_cons_zero, List.set_cons_succ]
                          rfl
                         refine three_ (i := 12) (j := 14) (k := 19) (Ni := some 19) (Nj := some 21) (Nk := some 26) #[true, true, true, true, true, true, true, true, true, true, true, true, true, true, false, false, false, false, false, false, true, false, false, false, false, false, false, false] #[true, true, true, true, true, true, true, true, true, true, true, true, false, true, true, false, false, false, false, false, true, false, false, false, false, false, false, false] #[true, true, true, true, true, true, true, true, true, true, true, true, false, true, false, false, false, false, false, true, true, false, false, false, false, false, false, false] rfl rfl rfl rfl rfl rfl (three_of HT_.out (by kernel_rfl)) (by decide) (by decide) (by decide) (fun K hK => ?_) (fun K hK => ?_) (fun K hK => ?_)
                         ·skip
                          refine Kd.R_lit_step Kd.string _ 9 ?hg (N := 19) ?hd (xs := ([(⟨#[120]⟩ : ByteArray) ++ t129, t133, (⟨#[]⟩ : ByteArray), t136] : List ByteArray)) (inner := [.string ((⟨#[120]⟩ : ByteArray) ++ t129), .string t133, .string (⟨#[]⟩ : ByteArray), .string t136]) (ok := fun _ => True) (okp := fun _ => True) ?hr ?hp (fun _ hk => hk) trivial (Below.refl _ _) (Nat.le_refl _) (by simp) ?_; (case hd => rfl); (case hg => rfl); (case hr => first | (go_simp; done) | (go_simp; rfl)); (case hp => exact (Reps.one (show Kd.M Kd.string _ _ _ ((⟨#[120]⟩ : ByteArray) ++ t129) [.string ((⟨#[120]⟩ : ByteArray) ++ t129)] from rfl) (Reps.one (show Kd.M Kd.string _ _ _ t133 [.string t133] from rfl) (Reps.one (show Kd.M Kd.string _ _ _ (⟨#[]⟩ : ByteArray) [.string (⟨#[]⟩ : ByteArray)] from rfl) (Reps.one (show Kd.M Kd.string _ _ _ t136 [.string t136] from rfl) (Reps.none _ _))))))
                          intro v138 w23 ho24 hb hg_ hnew_
                          clear hg_ hnew_
                          (first | rw [← Ny137.out] at ho24 | (simp only [Int.reduceToNat] at ho24; rw [← Ny137.out] at ho24))
                          have n0_ := Aside0.mk (Kd.R_lower ho24 (below_size (by repeat (first | (with_reducible first | exact HB.out | apply below_alloc | apply pw_below_drewN | apply below_drew1 | refine below_set ?_ (IsS70.ge HI128.out)) | exact HB.out))))
                          have n1_ := Aside0.mk (IsS70.below (by repeat (first | (with_reducible first | exact HI128.out | apply IsS70.alloc | apply IsS70.drewN | apply IsS70.drew | apply IsS70.set_1) | exact HI128.out)) hb)
                          have n2_ := Aside0.mk (below_step (by repeat (first | (with_reducible first | exact HB.out | apply below_alloc | apply pw_below_drewN | apply below_drew1 | refine below_set ?_ (IsS70.ge HI128.out)) | exact HB.out)) hb)
                          clear HI128
                          clear HB
                          have HO139 := n0_
                          have HI128 := n1_
                          have HB := n2_
                          clear n0_ n1_ n2_
                          clear hb ho24
                          obtain ⟨Ao25, co25, eo25⟩ := Kd.R_slice HO139.out
                          subst eo25
                          obtain ⟨ado25, fo25, _⟩ := Kd.at_string (Kd.R_reads' HO139.out).2.2 0 (by decide) (by rw [Ny137.out]; simp)
                          cases fo25
                          refine hK.out _ _ trivial (fun hHeld => ?_)
                          clear hK K
                          refine norm_ (a' := ?_) ?_ ?_
                          rotate_left
                          ·show Act.put _ (some 19) _ = _
                           simp only [Act.put, List.setIfInBounds_toArray, List.set_cons_zero, List.set_cons_succ, i64_w, i32_w]
                           rfl
                          exact norm_ (by first | (simp only [putAll, Act.put, List.setIfInBounds_toArray, List.set_cons_zero, List.set_cons_succ]; done) | (simp only [putAll, Act.put, List.setIfInBounds_toArray, List.set_cons_zero, List.set_cons_succ]; rfl)) (hJ1_4_6_8_11_12 (.slice (some ado25) y137.length co25, ado25) _ ⟨(by (with_reducible repeat (first | apply Kd.R_alloc | apply Kd.R_drewN | apply Kd.R_drew)); exact HO139.out), ⟨_, rfl⟩, (by repeat (first | (with_reducible first | exact HI128.out | apply IsS70.alloc | apply IsS70.drewN | apply IsS70.drew | apply IsS70.set_1) | exact HI128.out)), (by repeat (first | (with_reducible first | exact HB.out | apply below_alloc | apply pw_below_drewN | apply below_drew1 | refine below_set ?_ (IsS70.ge HI128.out)) | exact HB.out))⟩)
                         ·skip
                          refine goes_ Tryd.func26 (by kernel_rfl) rfl #[.pointer (some ⟨g128, 0, none⟩), .int .i64 12] (by rfl) rfl rfl (by (try simp only [List.map_toArray, List.map_cons, List.map_nil]); first | done | rfl | (simp only [List.length_drop, List.length_take]; rfl)) ?_
                          with_reducible refine (spec_l1Rd_pick.calls k g128 t126 t135 12 t140 t141 w _ ?side1 ?side2 A9.out).mono ?_
                          (case side1 => repeat (first | (with_reducible first | exact HI128.out | apply IsS70.alloc | apply IsS70.drewN | apply IsS70.drew | apply IsS70.set_1) | exact HI128.out))
                          (case side2 => repeat (first | (with_reducible first | exact HB.out | apply below_alloc | apply pw_below_drewN | apply below_drew1 | refine below_set ?_ (IsS70.ge HI128.out)) | exact HB.out))
                          rintro e w23 ⟨rfl, hi, hb, hk⟩
                          refine ⟨_, rfl, ?_⟩
                          have n0_ := Aside0.mk (hb)
                          have n1_ := Aside0.mk (hi)
                          clear HB
                          clear HI128
                          have HB := n0_
                          have HI128 := n1_
                          clear n0_ n1_
                          (try clear hb)
                          (try clear hb2)
                          (try clear hk)
                          (try clear hi)
                          refine hK.out _ _ trivial (fun hHeld => ?_)
                          clear hK K
                          refine norm_ (a' := ?_) ?_ ?_
                          rotate_left
                          ·show Act.put _ (some 21) _ = _
                           simp only [Act.put, List.setIfInBounds_toArray, List.set_cons_zero, List.set_cons_succ, i64_w, i32_w]
                           rfl
                          refine pure_ (i := 15) (N := some 22) (v := ?_) (a' := ?_) #[true, true, true, true, true, true, true, true, true, true, true, true, false, true, true, true, false, false, false, false, true, false, false, false, false, false, false, false] rfl rfl (any_of HT_.out (by kernel_rfl)) (fun _ _ _ h => h) (Or.inl ⟨by rfl, ?_⟩) ?_ ?_
                          rotate_left
                          ·intro w'
                           go_simp
                           with_reducible rfl
                          rotate_left
                          ·simp only [Act.put, List.setIfInBounds_toArray, List.set_cons_zero, List.set_cons_succ, i64_w, i32_w]
                           rfl
                          refine pure_ (i := 16) (N := some 23) (v := ?_) (a' := ?_) #[true, true, true, true, true, true, true, true, true, true, true, true, false, true, true, true, true, false, false, false, true, false, false, false, false, false, false, false] rfl rfl (any_of HT_.out (by kernel_rfl)) (fun _ _ _ h => h) (Or.inl ⟨by rfl, ?_⟩) ?_ ?_
                          rotate_left
                          ·intro w'
                           go_simp
                           with_reducible rfl
                          rotate_left
                          ·simp only [Act.put, List.setIfInBounds_toArray, List.set_cons_zero, List.set_cons_succ, i64_w, i32_w]
                           rfl
                          exact norm_ (by first | (simp only [putAll, Act.put, List.setIfInBounds_toArray, List.set_cons_zero, List.set_cons_succ]; done) | (simp only [putAll, Act.put, List.setIfInBounds_toArray, List.set_cons_zero, List.set_cons_succ]; rfl)) (hJ1_4_6_8_11_14 () _ ⟨(by repeat (first | (with_reducible first | exact HI128.out | apply IsS70.alloc | apply IsS70.drewN | apply IsS70.drew | apply IsS70.set_1) | exact HI128.out)), (by repeat (first | (with_reducible first | exact HB.out | apply below_alloc | apply pw_below_drewN | apply below_drew1 | refine below_set ?_ (IsS70.ge HI128.out)) | exact HB.out))⟩)
                         ·skip
                          refine Kd.R_lit_step (Kd.int .i64) _ 3 ?hg (N := 26) ?hd (xs := ([3, 0, 63, 64] : List Int)) (inner := [.int .i64 3, .int .i64 0, .int .i64 63, .int .i64 64]) (ok := fun _ => True) (okp := fun _ => True) ?hr ?hp (fun _ hk => hk) trivial (Below.refl _ _) (Nat.le_refl _) (by simp) ?_; (case hd => rfl); (case hg => rfl); (case hr => first | (go_simp; done) | (go_simp; rfl)); (case hp => exact (Reps.one (show Kd.M (Kd.int .i64) _ _ _ 3 [.int .i64 3] from rfl) (Reps.one (show Kd.M (Kd.int .i64) _ _ _ 0 [.int .i64 0] from rfl) (Reps.one (show Kd.M (Kd.int .i64) _ _ _ 63 [.int .i64 63] from rfl) (Reps.one (show Kd.M (Kd.int .i64) _ _ _ 64 [.int .i64 64] from rfl) (Reps.none _ _))))))
                          intro v144 w23 ho24 hb hg_ hnew_
                          clear hg_ hnew_
                          (first | rw [← Ny143.out] at ho24 | (simp only [Int.reduceToNat] at ho24; rw [← Ny143.out] at ho24))
                          have n0_ := Aside0.mk (Kd.R_lower ho24 (below_size (by repeat (first | (with_reducible first | exact HB.out | apply below_alloc | apply pw_below_drewN | apply below_drew1 | refine below_set ?_ (IsS70.ge HI128.out)) | exact HB.out))))
                          have n1_ := Aside0.mk (IsS70.below (by repeat (first | (with_reducible first | exact HI128.out | apply IsS70.alloc | apply IsS70.drewN | apply IsS70.drew | apply IsS70.set_1) | exact HI128.out)) hb)
                          have n2_ := Aside0.mk (below_step (by repeat (first | (with_reducible first | exact HB.out | apply below_alloc | apply pw_below_drewN | apply below_drew1 | refine below_set ?_ (IsS70.ge HI128.out)) | exact HB.out)) hb)
                          clear HI128
                          clear HB
                          have HO145 := n0_
                          have HI128 := n1_
                          have HB := n2_
                          clear n0_ n1_ n2_
                          clear hb ho24
                          obtain ⟨Ao25, co25, eo25⟩ := Kd.R_slice HO145.out
                          subst eo25
                          obtain ⟨ado25, fo25, _⟩ := Kd.at_int (Kd.R_reads' HO145.out).2.2 0 (by decide) (by rw [Ny143.out]; simp)
                          cases fo25
                          refine hK.out _ _ trivial (fun hHeld => ?_)
                          clear hK K
                          refine norm_ (a' := ?_) ?_ ?_
                          rotate_left
                          ·show Act.put _ (some 26) _ = _
                           simp only [Act.put, List.setIfInBounds_toArray, List.set_cons_zero, List.set_cons_succ, i64_w, i32_w]
                           rfl
                          exact norm_ (by first | (simp only [putAll, Act.put, List.setIfInBounds_toArray, List.set_cons_zero, List.set_cons_succ]; done) | (simp only [putAll, Act.put, List.setIfInBounds_toArray, List.set_cons_zero, List.set_cons_succ]; rfl)) (hJ1_4_6_8_11_19 (.slice (some ado25) y143.length co25, ado25) _ ⟨(by (with_reducible repeat (first | apply Kd.R_alloc | apply Kd.R_drewN | apply Kd.R_drew)); exact HO145.out), ⟨_, rfl⟩, (by repeat (first | (with_reducible first | exact HI128.out | apply IsS70.alloc | apply IsS70.drewN | apply IsS70.drew | apply IsS70.set_1) | exact HI128.out)), (by repeat (first | (with_reducible first | exact HB.out | apply below_alloc | apply pw_below_drewN | apply below_drew1 | refine below_set ?_ (IsS70.ge HI128.out)) | exact HB.out))⟩)
                       ·skip
                        rintro ⟨v144, adz_v144⟩ w25 ⟨h0_, h1_, h2_, h3_⟩
                        have n0_ : Aside0 (Kd.R (Kd.int .i64) 3 w25 w.heap.size (fun _ => True) v144 y143) := ⟨h0_⟩
                        have n1_ : Aside0 (∃ c_, (v144 : Value) = .slice (some adz_v144) y143.length c_) := ⟨h1_⟩
                        have n2_ : Aside0 (IsS70 w w25 g128 t126 t135) := ⟨h2_⟩
                        have n3_ : Aside0 (Below w.heap.size w w25) := ⟨h3_⟩
                        clear HI128
                        clear HB
                        clear h0_ h1_ h2_ h3_
                        have HO145 := n0_
                        have HA_HO145 := n1_
                        have HI128 := n2_
                        have HB := n3_
                        clear n0_ n1_ n2_ n3_
                        have hHeld := trivial
                        obtain ⟨co26, eo26⟩ := HA_HO145.out
                        clear HA_HO145
                        subst eo26
                        refine norm_ (a' := ?_) ?_ ?_
                        rotate_left
                        ·simp only [putAll, Act.put, List.setIfInBounds_toArray, List.set_cons_zero, List.set_cons_succ]
                         rfl
                        refine two_ (i := 12) (j := 14) (Ni := some 19) (Nj := some 21) #[true, true, true, true, true, true, true, true, true, true, true, true, true, true, false, false, false, false, false, true, true, false, false, false, false, false, false, false] #[true, true, true, true, true, true, true, true, true, true, true, true, false, true, true, false, false, false, false, true, true, false, false, false, false, false, false, false] rfl rfl rfl rfl (two_of HT_.out (by kernel_rfl)) (by decide) (by decide) (fun K hK => ?_) (fun K hK => ?_)
                        ·skip
                         refine Kd.R_lit_step Kd.string _ 9 ?hg (N := 19) ?hd (xs := ([(⟨#[120]⟩ : ByteArray) ++ t129, t133, (⟨#[]⟩ : ByteArray), t136] : List ByteArray)) (inner := [.string ((⟨#[120]⟩ : ByteArray) ++ t129), .string t133, .string (⟨#[]⟩ : ByteArray), .string t136]) (ok := fun _ => True) (okp := fun _ => True) ?hr ?hp (fun _ hk => hk) trivial (Below.refl _ _) (Nat.le_refl _) (by simp) ?_; (case hd => rfl); (case hg => rfl); (case hr => first | (go_simp; done) | (go_simp; rfl)); (case hp => exact (Reps.one (show Kd.M Kd.string _ _ _ ((⟨#[120]⟩ : ByteArray) ++ t129) [.string ((⟨#[120]⟩ : ByteArray) ++ t129)] from rfl) (Reps.one (show Kd.M Kd.string _ _ _ t133 [.string t133] from rfl) (Reps.one (show Kd.M Kd.string _ _ _ (⟨#[]⟩ : ByteArray) [.string (⟨#[]⟩ : ByteArray)] from rfl) (Reps.one (show Kd.M Kd.string _ _ _ t136 [.string t136] from rfl) (Reps.none _ _))))))
                         intro v138 w27 ho28 hb hg_ hnew_
                         clear hg_ hnew_
                         (first | rw [← Ny137.out] at ho28 | (simp only [Int.reduceToNat] at ho28; rw [← Ny137.out] at ho28))
                         have n0_ := Aside0.mk (Kd.R_below (by (with_reducible repeat (first | apply Kd.R_alloc | apply Kd.R_drewN | apply Kd.R_drew)); exact HO145.out) hb)
                         have n1_ := Aside0.mk (Kd.R_lower ho28 (below_size (by repeat (first | (with_reducible first | exact HB.out | apply below_alloc | apply pw_below_drewN | apply below_drew1 | refine below_set ?_ (IsS70.ge HI128.out)) | exact HB.out))))
                         have n2_ := Aside0.mk (IsS70.below (by repeat (first | (with_reducible first | exact HI128.out | apply IsS70.alloc | apply IsS70.drewN | apply IsS70.drew | apply IsS70.set_1) | exact HI128.out)) hb)
                         have n3_ := Aside0.mk (below_step (by repeat (first | (with_reducible first | exact HB.out | apply below_alloc | apply pw_below_drewN | apply below_drew1 | refine below_set ?_ (IsS70.ge HI128.out)) | exact HB.out)) hb)
                         clear HO145
                         clear HI128
                         clear HB
                         have HO145 := n0_
                         have HO139 := n1_
                         have HI128 := n2_
                         have HB := n3_
                         clear n0_ n1_ n2_ n3_
                         clear hb ho28
                         obtain ⟨Ao29, co29, eo29⟩ := Kd.R_slice HO139.out
                         subst eo29
                         obtain ⟨ado29, fo29, _⟩ := Kd.at_string (Kd.R_reads' HO139.out).2.2 0 (by decide) (by rw [Ny137.out]; simp)
                         cases fo29
                         refine hK.out _ _ trivial (fun hHeld => ?_)
                         clear hK K
                         refine norm_ (a' := ?_) ?_ ?_
                         rotate_left
                         ·show Act.put _ (some 19) _ = _
                          simp only [Act.put, List.setIfInBounds_toArray, List.set_cons_zero, List.set_cons_succ, i64_w, i32_w]
                          rfl
                         exact norm_ (by first | (simp only [putAll, Act.put, List.setIfInBounds_toArray, List.set_cons_zero, List.set_cons_succ]; done) | (simp only [putAll, Act.put, List.setIfInBounds_toArray, List.set_cons_zero, List.set_cons_succ]; rfl)) (hJ1_4_6_8_11_12_19 (.slice (some ado29) y137.length co29, ado29, .slice (some adz_v144) y143.length co26, adz_v144) _ ⟨(by (with_reducible repeat (first | apply Kd.R_alloc | apply Kd.R_drewN | apply Kd.R_drew)); exact HO139.out), (by (with_reducible repeat (first | apply Kd.R_alloc | apply Kd.R_drewN | apply Kd.R_drew)); exact HO145.out), ⟨_, rfl⟩, ⟨_, rfl⟩, (by repeat (first | (with_reducible first | exact HI128.out | apply IsS70.alloc | apply IsS70.drewN | apply IsS70.drew | apply IsS70.set_1) | exact HI128.out)), (by repeat (first | (with_reducible first | exact HB.out | apply below_alloc | apply pw_below_drewN | apply below_drew1 | refine below_set ?_ (IsS70.ge HI128.out)) | exact HB.out))⟩)
                        ·skip
                         refine goes_ Tryd.func26 (by kernel_rfl) rfl #[.pointer (some ⟨g128, 0, none⟩), .int .i64 12] (by rfl) rfl rfl (by (try simp only [List.map_toArray, List.map_cons, List.map_nil]); first | done | rfl | (simp only [List.length_drop, List.length_take]; rfl)) ?_
                         with_reducible refine (spec_l1Rd_pick.calls k g128 t126 t135 12 t140 t141 w _ ?side1 ?side2 A9.out).mono ?_
                         (case side1 => repeat (first | (with_reducible first | exact HI128.out | apply IsS70.alloc | apply IsS70.drewN | apply IsS70.drew | apply IsS70.set_1) | exact HI128.out))
                         (case side2 => repeat (first | (with_reducible first | exact HB.out | apply below_alloc | apply pw_below_drewN | apply below_drew1 | refine below_set ?_ (IsS70.ge HI128.out)) | exact HB.out))
                         rintro e w27 ⟨rfl, hi, hb, hk⟩
                         refine ⟨_, rfl, ?_⟩
                         have n0_ := Aside0.mk (Kd.R_mono (Kd.R_keep (IsS70.apart (show IsS70 w _ g128 t126 t135 from by repeat (first | (with_reducible first | exact HI128.out | apply IsS70.alloc | apply IsS70.drewN | apply IsS70.drew | apply IsS70.set_1) | exact HI128.out)) (by (with_reducible repeat (first | apply Kd.R_alloc | apply Kd.R_drewN | apply Kd.R_drew)); exact HO145.out) (by decide)) hk (fun _ h => h.2)) (fun _ h => h.1))
                         have n1_ := Aside0.mk (hb)
                         have n2_ := Aside0.mk (hi)
                         clear HO145
                         clear HB
                         clear HI128
                         have HO145 := n0_
                         have HB := n1_
                         have HI128 := n2_
                         clear n0_ n1_ n2_
                         (try clear hb)
                         (try clear hb2)
                         (try clear hk)
                         (try clear hi)
                         refine hK.out _ _ trivial (fun hHeld => ?_)
                         clear hK K
                         refine norm_ (a' := ?_) ?_ ?_
                         rotate_left
                         ·show Act.put _ (some 21) _ = _
                          simp only [Act.put, List.setIfInBounds_toArray, List.set_cons_zero, List.set_cons_succ, i64_w, i32_w]
                          rfl
                         refine pure_ (i := 15) (N := some 22) (v := ?_) (a' := ?_) #[true, true, true, true, true, true, true, true, true, true, true, true, false, true, true, true, false, false, false, true, true, false, false, false, false, false, false, false] rfl rfl (any_of HT_.out (by kernel_rfl)) (fun _ _ _ h => h) (Or.inl ⟨by rfl, ?_⟩) ?_ ?_
                         rotate_left
                         ·intro w'
                          go_simp
                          with_reducible rfl
                         rotate_left
                         ·simp only [Act.put, List.setIfInBounds_toArray, List.set_cons_zero, List.set_cons_succ, i64_w, i32_w]
                          rfl
                         refine pure_ (i := 16) (N := some 23) (v := ?_) (a' := ?_) #[true, true, true, true, true, true, true, true, true, true, true, true, false, true, true, true, true, false, false, true, true, false, false, false, false, false, false, false] rfl rfl (any_of HT_.out (by kernel_rfl)) (fun _ _ _ h => h) (Or.inl ⟨by rfl, ?_⟩) ?_ ?_
                         rotate_left
                         ·intro w'
                          go_simp
                          with_reducible rfl
                         rotate_left
                         ·simp only [Act.put, List.setIfInBounds_toArray, List.set_cons_zero, List.set_cons_succ, i64_w, i32_w]
                          rfl
                         exact norm_ (by first | (simp only [putAll, Act.put, List.setIfInBounds_toArray, List.set_cons_zero, List.set_cons_succ]; done) | (simp only [putAll, Act.put, List.setIfInBounds_toArray, List.set_cons_zero, List.set_cons_succ]; rfl)) (hJ1_4_6_8_11_14_19 (.slice (some adz_v144) y143.length co26, adz_v144) _ ⟨(by (with_reducible repeat (first | apply Kd.R_alloc | apply Kd.R_drewN | apply Kd.R_drew)); exact HO145.out), ⟨_, rfl⟩, (by repeat (first | (with_reducible first | exact HI128.out | apply IsS70.alloc | apply IsS70.drewN | apply IsS70.drew | apply IsS70.set_1) | exact HI128.out)), (by repeat (first | (with_reducible first | exact HB.out | apply below_alloc | apply pw_below_drewN | apply below_drew1 | refine below_set ?_ (IsS70.ge HI128.out)) | exact HB.out))⟩)
                      ·skip
                       rintro _ w23 ⟨h0_, h1_⟩
                       have n0_ : Aside0 (IsS70 w w23 g128 t126 t141) := ⟨h0_⟩
                       have n1_ : Aside0 (Below w.heap.size w w23) := ⟨h1_⟩
                       clear HI128
                       clear HB
                       clear h0_ h1_
                       have HI128 := n0_
                       have HB := n1_
                       clear n0_ n1_
                       have hHeld := trivial
                       refine norm_ (a' := ?_) ?_ ?_
                       rotate_left
                       ·simp only [putAll, Act.put, List.setIfInBounds_toArray, List.set_cons_zero, List.set_cons_succ]
                        rfl
                       refine three_ (i := 12) (j := 19) (k := 21) (Ni := some 19) (Nj := some 26) (Nk := some 28) #[true, true, true, true, true, true, true, true, true, true, true, true, true, true, true, true, true, false, false, false, true, false, false, false, false, false, false, false] #[true, true, true, true, true, true, true, true, true, true, true, true, false, true, true, true, true, false, false, true, true, false, false, false, false, false, false, false] #[true, true, true, true, true, true, true, true, true, true, true, true, false, true, true, true, true, false, false, false, true, true, false, false, false, false, false, false] rfl rfl rfl rfl rfl rfl (three_of HT_.out (by kernel_rfl)) (by decide) (by decide) (by decide) (fun K hK => ?_) (fun K hK => ?_) (fun K hK => ?_)
                       ·skip
                        refine Kd.R_lit_step Kd.string _ 9 ?hg (N := 19) ?hd (xs := ([(⟨#[120]⟩ : ByteArray) ++ t129, t133, (⟨#[]⟩ : ByteArray), t136] : List ByteArray)) (inner := [.string ((⟨#[120]⟩ : ByteArray) ++ t129), .string t133, .string (⟨#[]⟩ : ByteArray), .string t136]) (ok := fun _ => True) (okp := fun _ => True) ?hr ?hp (fun _ hk => hk) trivial (Below.refl _ _) (Nat.le_refl _) (by simp) ?_; (case hd => rfl); (case hg => rfl); (case hr => first | (go_simp; done) | (go_simp; rfl)); (case hp => exact (Reps.one (show Kd.M Kd.string _ _ _ ((⟨#[120]⟩ : ByteArray) ++ t129) [.string ((⟨#[120]⟩ : ByteArray) ++ t129)] from rfl) (Reps.one (show Kd.M Kd.string _ _ _ t133 [.string t133] from rfl) (Reps.one (show Kd.M Kd.string _ _ _ (⟨#[]⟩ : ByteArray) [.string (⟨#[]⟩ : ByteArray)] from rfl) (Reps.one (show Kd.M Kd.string _ _ _ t136 [.string t136] from rfl) (Reps.none _ _))))))
                        intro v138 w24 ho25 hb hg_ hnew_
                        clear hg_ hnew_
                        (first | rw [← Ny137.out] at ho25 | (simp only [Int.reduceToNat] at ho25; rw [← Ny137.out] at ho25))
                        have n0_ := Aside0.mk (Kd.R_lower ho25 (below_size (by repeat (first | (with_reducible first | exact HB.out | apply below_alloc | apply pw_below_drewN | apply below_drew1 | refine below_set ?_ (IsS70.ge HI128.out)) | exact HB.out))))
                        have n1_ := Aside0.mk (IsS70.below (by repeat (first | (with_reducible first | exact HI128.out | apply IsS70.alloc | apply IsS70.drewN | apply IsS70.drew | apply IsS70.set_1) | exact HI128.out)) hb)
                        have n2_ := Aside0.mk (below_step (by repeat (first | (with_reducible first | exact HB.out | apply below_alloc | apply pw_below_drewN | apply below_drew1 | refine below_set ?_ (IsS70.ge HI128.out)) | exact HB.out)) hb)
                        clear HI128
                        clear HB
                        have HO139 := n0_
                        have HI128 := n1_
                        have HB := n2_
                        clear n0_ n1_ n2_
                        clear hb ho25
                        obtain ⟨Ao26, co26, eo26⟩ := Kd.R_slice HO139.out
                        subst eo26
                        obtain ⟨ado26, fo26, _⟩ := Kd.at_string (Kd.R_reads' HO139.out).2.2 0 (by decide) (by rw [Ny137.out]; simp)
                        cases fo26
                        refine hK.out _ _ trivial (fun hHeld => ?_)
                        clear hK K
                        refine norm_ (a' := ?_) ?_ ?_
                        rotate_left
                        ·show Act.put _ (some 19) _ = _
                         simp only [Act.put, List.setIfInBounds_toArray, List.set_cons_zero, List.set_cons_succ, i64_w, i32_w]
                         rfl
                        refine pure_ (i := 17) (N := some 24) (v := ?_) (a' := ?_) #[true, true, true, true, true, true, true, true, true, true, true, true, true, true, true, true, true, true, false, false, true, false, false, false, false, false, false, false] rfl rfl (any_of HT_.out (by kernel_rfl)) (fun _ _ _ h => h) (Or.inl ⟨by rfl, ?_⟩) ?_ ?_
                        rotate_left
                        ·intro w'
                         go_simp
                         with_reducible rfl
                        rotate_left
                        ·simp only [Act.put, List.setIfInBounds_toArray, List.set_cons_zero, List.set_cons_succ, i64_w, i32_w]
                         rfl
                        exact norm_ (by first | (simp only [putAll, Act.put, List.setIfInBounds_toArray, List.set_cons_zero, List.set_cons_succ]; done) | (simp only [putAll, Act.put, List.setIfInBounds_toArray, List.set_cons_zero, List.set_cons_succ]; rfl)) (hJ1_4_6_8_11_12_14 (.slice (some ado26) y137.length co26, ado26) _ ⟨(by (with_reducible repeat (first | apply Kd.R_alloc | apply Kd.R_drewN | apply Kd.R_drew)); exact HO139.out), ⟨_, rfl⟩, (by repeat (first | (with_reducible first | exact HI128.out | apply IsS70.alloc | apply IsS70.drewN | apply IsS70.drew | apply IsS70.set_1) | exact HI128.out)), (by repeat (first | (with_reducible first | exact HB.out | apply below_alloc | apply pw_below_drewN | apply below_drew1 | refine below_set ?_ (IsS70.ge HI128.out)) | exact HB.out))⟩)
                       ·skip
                        refine Kd.R_lit_step (Kd.int .i64) _ 3 ?hg (N := 26) ?hd (xs := ([3, 0, 63, 64] : List Int)) (inner := [.int .i64 3, .int .i64 0, .int .i64 63, .int .i64 64]) (ok := fun _ => True) (okp := fun _ => True) ?hr ?hp (fun _ hk => hk) trivial (Below.refl _ _) (Nat.le_refl _) (by simp) ?_; (case hd => rfl); (case hg => rfl); (case hr => first | (go_simp; done) | (go_simp; rfl)); (case hp => exact (Reps.one (show Kd.M (Kd.int .i64) _ _ _ 3 [.int .i64 3] from rfl) (Reps.one (show Kd.M (Kd.int .i64) _ _ _ 0 [.int .i64 0] from rfl) (Reps.one (show Kd.M (Kd.int .i64) _ _ _ 63 [.int .i64 63] from rfl) (Reps.one (show Kd.M (Kd.int .i64) _ _ _ 64 [.int .i64 64] from rfl) (Reps.none _ _))))))
                        intro v144 w24 ho25 hb hg_ hnew_
                        clear hg_ hnew_
                        (first | rw [← Ny143.out] at ho25 | (simp only [Int.reduceToNat] at ho25; rw [← Ny143.out] at ho25))
                        have n0_ := Aside0.mk (Kd.R_lower ho25 (below_size (by repeat (first | (with_reducible first | exact HB.out | apply below_alloc | apply pw_below_drewN | apply below_drew1 | refine below_set ?_ (IsS70.ge HI128.out)) | exact HB.out))))
                        have n1_ := Aside0.mk (IsS70.below (by repeat (first | (with_reducible first | exact HI128.out | apply IsS70.alloc | apply IsS70.drewN | apply IsS70.drew | apply IsS70.set_1) | exact HI128.out)) hb)
                        have n2_ := Aside0.mk (below_step (by repeat (first | (with_reducible first | exact HB.out | apply below_alloc | apply pw_below_drewN | apply below_drew1 | refine below_set ?_ (IsS70.ge HI128.out)) | exact HB.out)) hb)
                        clear HI128
                        clear HB
                        have HO145 := n0_
                        have HI128 := n1_
                        have HB := n2_
                        clear n0_ n1_ n2_
                        clear hb ho25
                        obtain ⟨Ao26, co26, eo26⟩ := Kd.R_slice HO145.out
                        subst eo26
                        obtain ⟨ado26, fo26, _⟩ := Kd.at_int (Kd.R_reads' HO145.out).2.2 0 (by decide) (by rw [Ny143.out]; simp)
                        cases fo26
                        refine hK.out _ _ trivial (fun hHeld => ?_)
                        clear hK K
                        refine norm_ (a' := ?_) ?_ ?_
                        rotate_left
                        ·show Act.put _ (some 26) _ = _
                         simp only [Act.put, List.setIfInBounds_toArray, List.set_cons_zero, List.set_cons_succ, i64_w, i32_w]
                         rfl
                        exact norm_ (by first | (simp only [putAll, Act.put, List.setIfInBounds_toArray, List.set_cons_zero, List.set_cons_succ]; done) | (simp only [putAll, Act.put, List.setIfInBounds_toArray, List.set_cons_zero, List.set_cons_succ]; rfl)) (hJ1_4_6_8_11_14_19 (.slice (some ado26) y143.length co26, ado26) _ ⟨(by (with_reducible repeat (first | apply Kd.R_alloc | apply Kd.R_drewN | apply Kd.R_drew)); exact HO145.out), ⟨_, rfl⟩, (by repeat (first | (with_reducible first | exact HI128.out | apply IsS70.alloc | apply IsS70.drewN | apply IsS70.drew | apply IsS70.set_1) | exact HI128.out)), (by repeat (first | (with_reducible first | exact HB.out | apply below_alloc | apply pw_below_drewN | apply below_drew1 | refine below_set ?_ (IsS70.ge HI128.out)) | exact HB.out))⟩)
                       ·skip
                        refine goes_ Tryd.func26 (by kernel_rfl) rfl #[.pointer (some ⟨g128, 0, none⟩), .int .i64 12] (by rfl) rfl rfl (by (try simp only [List.map_toArray, List.map_cons, List.map_nil]); first | done | rfl | (simp only [List.length_drop, List.length_take]; rfl)) ?_
                        with_reducible refine (spec_l1Rd_pick.calls k g128 t126 t141 12 t146 t147 w _ ?side1 ?side2 A13.out).mono ?_
                        (case side1 => repeat (first | (with_reducible first | exact HI128.out | apply IsS70.alloc | apply IsS70.drewN | apply IsS70.drew | apply IsS70.set_1) | exact HI128.out))
                        (case side2 => repeat (first | (with_reducible first | exact HB.out | apply below_alloc | apply pw_below_drewN | apply below_drew1 | refine below_set ?_ (IsS70.ge HI128.out)) | exact HB.out))
                        rintro e w24 ⟨rfl, hi, hb, hk⟩
                        refine ⟨_, rfl, ?_⟩
                        have n0_ := Aside0.mk (hb)
                        have n1_ := Aside0.mk (hi)
                        clear HB
                        clear HI128
                        have HB := n0_
                        have HI128 := n1_
                        clear n0_ n1_
                        (try clear hb)
                        (try clear hb2)
                        (try clear hk)
                        (try clear hi)
                        refine hK.out _ _ trivial (fun hHeld => ?_)
                        clear hK K
                        refine norm_ (a' := ?_) ?_ ?_
                        rotate_left
                        ·show Act.put _ (some 28) _ = _
                         simp only [Act.put, List.setIfInBounds_toArray, List.set_cons_zero, List.set_cons_succ, i64_w, i32_w]
                         rfl
                        refine pure_ (i := 22) (N := some 29) (v := ?_) (a' := ?_) #[true, true, true, true, true, true, true, true, true, true, true, true, false, true, true, true, true, false, false, false, true, true, true, false, false, false, false, false] rfl rfl (any_of HT_.out (by kernel_rfl)) (fun _ _ _ h => h) (Or.inl ⟨by rfl, ?_⟩) ?_ ?_
                        rotate_left
                        ·intro w'
                         go_simp
                         with_reducible rfl
                        rotate_left
                        ·simp only [Act.put, List.setIfInBounds_toArray, List.set_cons_zero, List.set_cons_succ, i64_w, i32_w]
                         rfl
                        refine pure_ (i := 23) (N := some 30) (v := ?_) (a' := ?_) #[true, true, true, true, true, true, true, true, true, true, true, true, false, true, true, true, true, false, false, false, true, true, true, true, false, false, false, false] rfl rfl (any_of HT_.out (by kernel_rfl)) (fun _ _ _ h => h) (Or.inl ⟨by rfl, ?_⟩) ?_ ?_
                        rotate_left
                        ·intro w'
                         go_simp
                         with_reducible rfl
                        rotate_left
                        ·simp only [Act.put, List.setIfInBounds_toArray, List.set_cons_zero, List.set_cons_succ, i64_w, i32_w]
                         rfl
                        exact norm_ (by first | (simp only [putAll, Act.put, List.setIfInBounds_toArray, List.set_cons_zero, List.set_cons_succ]; done) | (simp only [putAll, Act.put, List.setIfInBounds_toArray, List.set_cons_zero, List.set_cons_succ]; rfl)) (hJ1_4_6_8_11_14_21 () _ ⟨(by repeat (first | (with_reducible first | exact HI128.out | apply IsS70.alloc | apply IsS70.drewN | apply IsS70.drew | apply IsS70.set_1) | exact HI128.out)), (by repeat (first | (with_reducible first | exact HB.out | apply below_alloc | apply pw_below_drewN | apply below_drew1 | refine below_set ?_ (IsS70.ge HI128.out)) | exact HB.out))⟩)
                     ·skip
                      rintro ⟨v138, adz_v138⟩ w25 ⟨h0_, h1_, h2_, h3_⟩
                      have n0_ : Aside0 (Kd.R Kd.string 9 w25 w.heap.size (fun _ => True) v138 y137) := ⟨h0_⟩
                      have n1_ : Aside0 (∃ c_, (v138 : Value) = .slice (some adz_v138) y137.length c_) := ⟨h1_⟩
                      have n2_ : Aside0 (IsS70 w w25 g128 t126 t135) := ⟨h2_⟩
                      have n3_ : Aside0 (Below w.heap.size w w25) := ⟨h3_⟩
                      clear HI128
                      clear HB
                      clear h0_ h1_ h2_ h3_
                      have HO139 := n0_
                      have HA_HO139 := n1_
                      have HI128 := n2_
                      have HB := n3_
                      clear n0_ n1_ n2_ n3_
                      have hHeld := trivial
                      obtain ⟨co26, eo26⟩ := HA_HO139.out
                      clear HA_HO139
                      subst eo26
                      refine norm_ (a' := ?_) ?_ ?_
                      rotate_left
                      ·simp only [putAll, Act.put, List.setIfInBounds_toArray, List.set_cons_zero, List.set_cons_succ]
                       rfl
                      refine two_ (i := 14) (j := 19) (Ni := some 21) (Nj := some 26) #[true, true, true, true, true, true, true, true, true, true, true, true, true, true, true, false, false, false, false, false, true, false, false, false, false, false, false, false] #[true, true, true, true, true, true, true, true, true, true, true, true, true, true, false, false, false, false, false, true, true, false, false, false, false, false, false, false] rfl rfl rfl rfl (two_of HT_.out (by kernel_rfl)) (by decide) (by decide) (fun K hK => ?_) (fun K hK => ?_)
                      ·skip
                       refine goes_ Tryd.func26 (by kernel_rfl) rfl #[.pointer (some ⟨g128, 0, none⟩), .int .i64 12] (by rfl) rfl rfl (by (try simp only [List.map_toArray, List.map_cons, List.map_nil]); first | done | rfl | (simp only [List.length_drop, List.length_take]; rfl)) ?_
                       with_reducible refine (spec_l1Rd_pick.calls k g128 t126 t135 12 t140 t141 w _ ?side1 ?side2 A9.out).mono ?_
                       (case side1 => repeat (first | (with_reducible first | exact HI128.out | apply IsS70.alloc | apply IsS70.drewN | apply IsS70.drew | apply IsS70.set_1) | exact HI128.out))
                       (case side2 => repeat (first | (with_reducible first | exact HB.out | apply below_alloc | apply pw_below_drewN | apply below_drew1 | refine below_set ?_ (IsS70.ge HI128.out)) | exact HB.out))
                       rintro e w27 ⟨rfl, hi, hb, hk⟩
                       refine ⟨_, rfl, ?_⟩
                       have n0_ := Aside0.mk (Kd.R_mono (Kd.R_keep (IsS70.apart (show IsS70 w _ g128 t126 t135 from by repeat (first | (with_reducible first | exact HI128.out | apply IsS70.alloc | apply IsS70.drewN | apply IsS70.drew | apply IsS70.set_1) | exact HI128.out)) (by (with_reducible repeat (first | apply Kd.R_alloc | apply Kd.R_drewN | apply Kd.R_drew)); exact HO139.out) (by decide)) hk (fun _ h => h.2)) (fun _ h => h.1))
                       have n1_ := Aside0.mk (hb)
                       have n2_ := Aside0.mk (hi)
                       clear HO139
                       clear HB
                       clear HI128
                       have HO139 := n0_
                       have HB := n1_
                       have HI128 := n2_
                       clear n0_ n1_ n2_
                       (try clear hb)
                       (try clear hb2)
                       (try clear hk)
                       (try clear hi)
                       refine hK.out _ _ trivial (fun hHeld => ?_)
                       clear hK K
                       refine norm_ (a' := ?_) ?_ ?_
                       rotate_left
                       ·show Act.put _ (some 21) _ = _
                        simp only [Act.put, List.setIfInBounds_toArray, List.set_cons_zero, List.set_cons_succ, i64_w, i32_w]
                        rfl
                       refine pure_ (i := 15) (N := some 22) (v := ?_) (a' := ?_) #[true, true, true, true, true, true, true, true, true, true, true, true, true, true, true, true, false, false, false, false, true, false, false, false, false, false, false, false] rfl rfl (any_of HT_.out (by kernel_rfl)) (fun _ _ _ h => h) (Or.inl ⟨by rfl, ?_⟩) ?_ ?_
                       rotate_left
                       ·intro w'
                        go_simp
                        with_reducible rfl
                       rotate_left
                       ·simp only [Act.put, List.setIfInBounds_toArray, List.set_cons_zero, List.set_cons_succ, i64_w, i32_w]
                        rfl
                       refine pure_ (i := 16) (N := some 23) (v := ?_) (a' := ?_) #[true, true, true, true, true, true, true, true, true, true, true, true, true, true, true, true, true, false, false, false, true, false, false, false, false, false, false, false] rfl rfl (any_of HT_.out (by kernel_rfl)) (fun _ _ _ h => h) (Or.inl ⟨by rfl, ?_⟩) ?_ ?_
                       rotate_left
                       ·intro w'
                        go_simp
                        with_reducible rfl
                       rotate_left
                       ·simp only [Act.put, List.setIfInBounds_toArray, List.set_cons_zero, List.set_cons_succ, i64_w, i32_w]
                        rfl
                       refine pure_ (i := 17) (N := some 24) (v := ?_) (a' := ?_) #[true, true, true, true, true, true, true, true, true, true, true, true, true, true, true, true, true, true, false, false, true, false, false, false, false, false, false, false] rfl rfl (any_of HT_.out (by kernel_rfl)) (fun _ _ _ h => h) (Or.inl ⟨by rfl, ?_⟩) ?_ ?_
                       rotate_left
                       ·intro w'
                        go_simp
                        with_reducible rfl
                       rotate_left
                       ·simp only [Act.put, List.setIfInBounds_toArray, List.set_cons_zero, List.set_cons_succ, i64_w, i32_w]
                        rfl
                       exact norm_ (by first | (simp only [putAll, Act.put, List.setIfInBounds_toArray, List.set_cons_zero, List.set_cons_succ]; done) | (simp only [putAll, Act.put, List.setIfInBounds_toArray, List.set_cons_zero, List.set_cons_succ]; rfl)) (hJ1_4_6_8_11_12_14 (.slice (some adz_v138) y137.length co26, adz_v138) _ ⟨(by (with_reducible repeat (first | apply Kd.R_alloc | apply Kd.R_drewN | apply Kd.R_drew)); exact HO139.out), ⟨_, rfl⟩, (by repeat (first | (with_reducible first | exact HI128.out | apply IsS70.alloc | apply IsS70.drewN | apply IsS70.drew | apply IsS70.set_1) | exact HI128.out)), (by repeat (first | (with_reducible first | exact HB.out | apply below_alloc | apply pw_below_drewN | apply below_drew1 | refine below_set ?_ (IsS70.ge HI128.out)) | exact HB.out))⟩)
                      ·skip
                       refine Kd.R_lit_step (Kd.int .i64) _ 3 ?hg (N := 26) ?hd (xs := ([3, 0, 63, 64] : List Int)) (inner := [.int .i64 3, .int .i64 0, .int .i64 63, .int .i64 64]) (ok := fun _ => True) (okp := fun _ => True) ?hr ?hp (fun _ hk => hk) trivial (Below.refl _ _) (Nat.le_refl _) (by simp) ?_; (case hd => rfl); (case hg => rfl); (case hr => first | (go_simp; done) | (go_simp; rfl)); (case hp => exact (Reps.one (show Kd.M (Kd.int .i64) _ _ _ 3 [.int .i64 3] from rfl) (Reps.one (show Kd.M (Kd.int .i64) _ _ _ 0 [.int .i64 0] from rfl) (Reps.one (show Kd.M (Kd.int .i64) _ _ _ 63 [.int .i64 63] from rfl) (Reps.one (show Kd.M (Kd.int .i64) _ _ _ 64 [.int .i64 64] from rfl) (Reps.none _ _))))))
                       intro v144 w27 ho28 hb hg_ hnew_
                       clear hg_ hnew_
                       (first | rw [← Ny143.out] at ho28 | (simp only [Int.reduceToNat] at ho28; rw [← Ny143.out] at ho28))
                       have n0_ := Aside0.mk (Kd.R_below (by (with_reducible repeat (first | apply Kd.R_alloc | apply Kd.R_drewN | apply Kd.R_drew)); exact HO139.out) hb)
                       have n1_ := Aside0.mk (Kd.R_lower ho28 (below_size (by repeat (first | (with_reducible first | exact HB.out | apply below_alloc | apply pw_below_drewN | apply below_drew1 | refine below_set ?_ (IsS70.ge HI128.out)) | exact HB.out))))
                       have n2_ := Aside0.mk (IsS70.below (by repeat (first | (with_reducible first | exact HI128.out | apply IsS70.alloc | apply IsS70.drewN | apply IsS70.drew | apply IsS70.set_1) | exact HI128.out)) hb)
                       have n3_ := Aside0.mk (below_step (by repeat (first | (with_reducible first | exact HB.out | apply below_alloc | apply pw_below_drewN | apply below_drew1 | refine below_set ?_ (IsS70.ge HI128.out)) | exact HB.out)) hb)
                       clear HO139
                       clear HI128
                       clear HB
                       have HO139 := n0_
                       have HO145 := n1_
                       have HI128 := n2_
                       have HB := n3_
                       clear n0_ n1_ n2_ n3_
                       clear hb ho28
                       obtain ⟨Ao29, co29, eo29⟩ := Kd.R_slice HO145.out
                       subst eo29
                       obtain ⟨ado29, fo29, _⟩ := Kd.at_int (Kd.R_reads' HO145.out).2.2 0 (by decide) (by rw [Ny143.out]; simp)
                       cases fo29
                       refine hK.out _ _ trivial (fun hHeld => ?_)
                       clear hK K
                       refine norm_ (a' := ?_) ?_ ?_
                       rotate_left
                       ·show Act.put _ (some 26) _ = _
                        simp only [Act.put, List.setIfInBounds_toArray, List.set_cons_zero, List.set_cons_succ, i64_w, i32_w]
                        rfl
                       exact norm_ (by first | (simp only [putAll, Act.put, List.setIfInBounds_toArray, List.set_cons_zero, List.set_cons_succ]; done) | (simp only [putAll, Act.put, List.setIfInBounds_toArray, List.set_cons_zero, List.set_cons_succ]; rfl)) (hJ1_4_6_8_11_12_19 (.slice (some adz_v138) y137.length co26, adz_v138, .slice (some ado29) y143.length co29, ado29) _ ⟨(by (with_reducible repeat (first | apply Kd.R_alloc | apply Kd.R_drewN | apply Kd.R_drew)); exact HO139.out), (by (with_reducible repeat (first | apply Kd.R_alloc | apply Kd.R_drewN | apply Kd.R_drew)); exact HO145.out), ⟨_, rfl⟩, ⟨_, rfl⟩, (by repeat (first | (with_reducible first | exact HI128.out | apply IsS70.alloc | apply IsS70.drewN | apply IsS70.drew | apply IsS70.set_1) | exact HI128.out)), (by repeat (first | (with_reducible first | exact HB.out | apply below_alloc | apply pw_below_drewN | apply below_drew1 | refine below_set ?_ (IsS70.ge HI128.out)) | exact HB.out))⟩)
                    ·skip
                     rintro _ w24 ⟨h0_, h1_⟩
                     have n0_ : Aside0 (IsS70 w w24 g128 t126 t147) := ⟨h0_⟩
                     have n1_ : Aside0 (Below w.heap.size w w24) := ⟨h1_⟩
                     clear HI128
                     clear HB
                     clear h0_ h1_
                     have HI128 := n0_
                     have HB := n1_
                     clear n0_ n1_
                     have hHeld := trivial
                     refine norm_ (a' := ?_) ?_ ?_
                     rotate_left
                     ·simp only [putAll, Act.put, List.setIfInBounds_toArray, List.set_cons_zero, List.set_cons_succ]
                      rfl
                     refine two_ (i := 12) (j := 19) (Ni := some 19) (Nj := some 26) #[true, true, true, true, true, true, true, true, true, true, true, true, true, true, true, true, true, false, false, false, true, true, true, true, false, false, false, false] #[true, true, true, true, true, true, true, true, true, true, true, true, false, true, true, true, true, false, false, true, true, true, true, true, false, false, false, false] rfl rfl rfl rfl (two_of HT_.out (by kernel_rfl)) (by decide) (by decide) (fun K hK => ?_) (fun K hK => ?_)
                     ·skip
                      refine Kd.R_lit_step Kd.string _ 9 ?hg (N := 19) ?hd (xs := ([(⟨#[120]⟩ : ByteArray) ++ t129, t133, (⟨#[]⟩ : ByteArray), t136] : List ByteArray)) (inner := [.string ((⟨#[120]⟩ : ByteArray) ++ t129), .string t133, .string (⟨#[]⟩ : ByteArray), .string t136]) (ok := fun _ => True) (okp := fun _ => True) ?hr ?hp (fun _ hk => hk) trivial (Below.refl _ _) (Nat.le_refl _) (by simp) ?_; (case hd => rfl); (case hg => rfl); (case hr => first | (go_simp; done) | (go_simp; rfl)); (case hp => exact (Reps.one (show Kd.M Kd.string _ _ _ ((⟨#[120]⟩ : ByteArray) ++ t129) [.string ((⟨#[120]⟩ : ByteArray) ++ t129)] from rfl) (Reps.one (show Kd.M Kd.string _ _ _ t133 [.string t133] from rfl) (Reps.one (show Kd.M Kd.string _ _ _ (⟨#[]⟩ : ByteArray) [.string (⟨#[]⟩ : ByteArray)] from rfl) (Reps.one (show Kd.M Kd.string _ _ _ t136 [.string t136] from rfl) (Reps.none _ _))))))
                      intro v138 w25 ho26 hb hg_ hnew_
                      clear hg_ hnew_
                      (first | rw [← Ny137.out] at ho26 | (simp only [Int.reduceToNat] at ho26; rw [← Ny137.out] at ho26))
                      have n0_ := Aside0.mk (Kd.R_lower ho26 (below_size (by repeat (first | (with_reducible first | exact HB.out | apply below_alloc | apply pw_below_drewN | apply below_drew1 | refine below_set ?_ (IsS70.ge HI128.out)) | exact HB.out))))
                      have n1_ := Aside0.mk (IsS70.below (by repeat (first | (with_reducible first | exact HI128.out | apply IsS70.alloc | apply IsS70.drewN | apply IsS70.drew | apply IsS70.set_1) | exact HI128.out)) hb)
                      have n2_ := Aside0.mk (below_step (by repeat (first | (with_reducible first | exact HB.out | apply below_alloc | apply pw_below_drewN | apply below_drew1 | refine below_set ?_ (IsS70.ge HI128.out)) | exact HB.out)) hb)
                      clear HI128
                      clear HB
                      have HO139 := n0_
                      have HI128 := n1_
                      have HB := n2_
                      clear n0_ n1_ n2_
                      clear hb ho26
                      obtain ⟨Ao27, co27, eo27⟩ := Kd.R_slice HO139.out
                      subst eo27
                      obtain ⟨ado27, fo27, _⟩ := Kd.at_string (Kd.R_reads' HO139.out).2.2 0 (by decide) (by rw [Ny137.out]; simp)
                      cases fo27
                      refine hK.out _ _ trivial (fun hHeld => ?_)
                      clear hK K
                      refine norm_ (a' := ?_) ?_ ?_
                      rotate_left
                      ·show Act.put _ (some 19) _ = _
                       simp only [Act.put, List.setIfInBounds_toArray, List.set_cons_zero, List.set_cons_succ, i64_w, i32_w]
                       rfl
                      refine pure_ (i := 17) (N := some 24) (v := ?_) (a' := ?_) #[true, true, true, true, true, true, true, true, true, true, true, true, true, true, true, true, true, true, false, false, true, true, true, true, false, false, false, false] rfl rfl (any_of HT_.out (by kernel_rfl)) (fun _ _ _ h => h) (Or.inl ⟨by rfl, ?_⟩) ?_ ?_
                      rotate_left
                      ·intro w'
                       go_simp
                       with_reducible rfl
                      rotate_left
                      ·simp only [Act.put, List.setIfInBounds_toArray, List.set_cons_zero, List.set_cons_succ, i64_w, i32_w]
                       rfl
                      exact norm_ (by first | (simp only [putAll, Act.put, List.setIfInBounds_toArray, List.set_cons_zero, List.set_cons_succ]; done) | (simp only [putAll, Act.put, List.setIfInBounds_toArray, List.set_cons_zero, List.set_cons_succ]; rfl)) (hJ1_4_6_8_11_12_14_21 (.slice (some ado27) y137.length co27, ado27) _ ⟨(by (with_reducible repeat (first | apply Kd.R_alloc | apply Kd.R_drewN | apply Kd.R_drew)); exact HO139.out), ⟨_, rfl⟩, (by repeat (first | (with_reducible first | exact HI128.out | apply IsS70.alloc | apply IsS70.drewN | apply IsS70.drew | apply IsS70.set_1) | exact HI128.out)), (by repeat (first | (with_reducible first | exact HB.out | apply below_alloc | apply pw_below_drewN | apply below_drew1 | refine below_set ?_ (IsS70.ge HI128.out)) | exact HB.out))⟩)
                     ·skip
                      refine Kd.R_lit_step (Kd.int .i64) _ 3 ?hg (N := 26) ?hd (xs := ([3, 0, 63, 64] : List Int)) (inner := [.int .i64 3, .int .i64 0, .int .i64 63, .int .i64 64]) (ok := fun _ => True) (okp := fun _ => True) ?hr ?hp (fun _ hk => hk) trivial (Below.refl _ _) (Nat.le_refl _) (by simp) ?_; (case hd => rfl); (case hg => rfl); (case hr => first | (go_simp; done) | (go_simp; rfl)); (case hp => exact (Reps.one (show Kd.M (Kd.int .i64) _ _ _ 3 [.int .i64 3] from rfl) (Reps.one (show Kd.M (Kd.int .i64) _ _ _ 0 [.int .i64 0] from rfl) (Reps.one (show Kd.M (Kd.int .i64) _ _ _ 63 [.int .i64 63] from rfl) (Reps.one (show Kd.M (Kd.int .i64) _ _ _ 64 [.int .i64 64] from rfl) (Reps.none _ _))))))
                      intro v144 w25 ho26 hb hg_ hnew_
                      clear hg_ hnew_
                      (first | rw [← Ny143.out] at ho26 | (simp only [Int.reduceToNat] at ho26; rw [← Ny143.out] at ho26))
                      have n0_ := Aside0.mk (Kd.R_lower ho26 (below_size (by repeat (first | (with_reducible first | exact HB.out | apply below_alloc | apply pw_below_drewN | apply below_drew1 | refine below_set ?_ (IsS70.ge HI128.out)) | exact HB.out))))
                      have n1_ := Aside0.mk (IsS70.below (by repeat (first | (with_reducible first | exact HI128.out | apply IsS70.alloc | apply IsS70.drewN | apply IsS70.drew | apply IsS70.set_1) | exact HI128.out)) hb)
                      have n2_ := Aside0.mk (below_step (by repeat (first | (with_reducible first | exact HB.out | apply below_alloc | apply pw_below_drewN | apply below_drew1 | refine below_set ?_ (IsS70.ge HI128.out)) | exact HB.out)) hb)
                      clear HI128
                      clear HB
                      have HO145 := n0_
                      have HI128 := n1_
                      have HB := n2_
                      clear n0_ n1_ n2_
                      clear hb ho26
                      obtain ⟨Ao27, co27, eo27⟩ := Kd.R_slice HO145.out
                      subst eo27
                      obtain ⟨ado27, fo27, _⟩ := Kd.at_int (Kd.R_reads' HO145.out).2.2 0 (by decide) (by rw [Ny143.out]; simp)
                      cases fo27
                      refine hK.out _ _ trivial (fun hHeld => ?_)
                      clear hK K
                      refine norm_ (a' := ?_) ?_ ?_
                      rotate_left
                      ·show Act.put _ (some 26) _ = _
                       simp only [Act.put, List.setIfInBounds_toArray, List.set_cons_zero, List.set_cons_succ, i64_w, i32_w]
                       rfl
                      refine pure_ (i := 24) (N := some 31) (v := ?_) (a' := ?_) #[true, true, true, true, true, true, true, true, true, true, true, true, false, true, true, true, true, false, false, true, true, true, true, true, true, false, false, false] rfl rfl (any_of HT_.out (by kernel_rfl)) (fun _ _ _ h => h) (Or.inl ⟨by rfl, ?_⟩) ?_ ?_
                      rotate_left
                      ·intro w'
                       go_simp
                       with_reducible rfl
                      rotate_left
                      ·simp only [Act.put, List.setIfInBounds_toArray, List.set_cons_zero, List.set_cons_succ, i64_w, i32_w]
                       rfl
                      exact norm_ (by first | (simp only [putAll, Act.put, List.setIfInBounds_toArray, List.set_cons_zero, List.set_cons_succ]; done) | (simp only [putAll, Act.put, List.setIfInBounds_toArray, List.set_cons_zero, List.set_cons_succ]; rfl)) (hJ1_4_6_8_11_14_19_21 (.slice (some ado27) y143.length co27, ado27) _ ⟨(by (with_reducible repeat (first | apply Kd.R_alloc | apply Kd.R_drewN | apply Kd.R_drew)); exact HO145.out), ⟨_, rfl⟩, (by repeat (first | (with_reducible first | exact HI128.out | apply IsS70.alloc | apply IsS70.drewN | apply IsS70.drew | apply IsS70.set_1) | exact HI128.out)), (by repeat (first | (with_reducible first | exact HB.out | apply below_alloc | apply pw_below_drewN | apply below_drew1 | refine below_set ?_ (IsS70.ge HI128.out)) | exact HB.out))⟩)
                   ·skip
                    rintro ⟨v144, adz_v144⟩ w26 ⟨h0_, h1_, h2_, h3_⟩
                    have n0_ : Aside0 (Kd.R (Kd.int .i64) 3 w26 w.heap.size (fun _ => True) v144 y143) := ⟨h0_⟩
                    have n1_ : Aside0 (∃ c_, (v144 : Value) = .slice (some adz_v144) y143.length c_) := ⟨h1_⟩
                    have n2_ : Aside0 (IsS70 w w26 g128 t126 t141) := ⟨h2_⟩
                    have n3_ : Aside0 (Below w.heap.size w w26) := ⟨h3_⟩
                    clear HI128
                    clear HB
                    clear h0_ h1_ h2_ h3_
                    have HO145 := n0_
                    have HA_HO145 := n1_
                    have HI128 := n2_
                    have HB := n3_
                    clear n0_ n1_ n2_ n3_
                    have hHeld := trivial
                    obtain ⟨co27, eo27⟩ := HA_HO145.out
                    clear HA_HO145
                    subst eo27
                    refine norm_ (a' := ?_) ?_ ?_
                    rotate_left
                    ·simp only [putAll, Act.put, List.setIfInBounds_toArray, List.set_cons_zero, List.set_cons_succ]
                     rfl
                    refine two_ (i := 12) (j := 21) (Ni := some 19) (Nj := some 28) #[true, true, true, true, true, true, true, true, true, true, true, true, true, true, true, true, true, false, false, true, true, false, false, false, false, false, false, false] #[true, true, true, true, true, true, true, true, true, true, true, true, false, true, true, true, true, false, false, true, true, true, false, false, false, false, false, false] rfl rfl rfl rfl (two_of HT_.out (by kernel_rfl)) (by decide) (by decide) (fun K hK => ?_) (fun K hK => ?_)
                    ·skip
                     refine Kd.R_lit_step Kd.string _ 9 ?hg (N := 19) ?hd (xs := ([(⟨#[120]⟩ : ByteArray) ++ t129, t133, (⟨#[]⟩ : ByteArray), t136] : List ByteArray)) (inner := [.string ((⟨#[120]⟩ : ByteArray) ++ t129), .string t133, .string (⟨#[]⟩ : ByteArray), .string t136]) (ok := fun _ => True) (okp := fun _ => True) ?hr ?hp (fun _ hk => hk) trivial (Below.refl _ _) (Nat.le_refl _) (by simp) ?_; (case hd => rfl); (case hg => rfl); (case hr => first | (go_simp; done) | (go_simp; rfl)); (case hp => exact (Reps.one (show Kd.M Kd.string _ _ _ ((⟨#[120]⟩ : ByteArray) ++ t129) [.string ((⟨#[120]⟩ : ByteArray) ++ t129)] from rfl) (Reps.one (show Kd.M Kd.string _ _ _ t133 [.string t133] from rfl) (Reps.one (show Kd.M Kd.string _ _ _ (⟨#[]⟩ : ByteArray) [.string (⟨#[]⟩ : ByteArray)] from rfl) (Reps.one (show Kd.M Kd.string _ _ _ t136 [.string t136] from rfl) (Reps.none _ _))))))
                     intro v138 w28 ho29 hb hg_ hnew_
                     clear hg_ hnew_
                     (first | rw [← Ny137.out] at ho29 | (simp only [Int.reduceToNat] at ho29; rw [← Ny137.out] at ho29))
                     have n0_ := Aside0.mk (Kd.R_below (by (with_reducible repeat (first | apply Kd.R_alloc | apply Kd.R_drewN | apply Kd.R_drew)); exact HO145.out) hb)
                     have n1_ := Aside0.mk (Kd.R_lower ho29 (below_size (by repeat (first | (with_reducible first | exact HB.out | apply below_alloc | apply pw_below_drewN | apply below_drew1 | refine below_set ?_ (IsS70.ge HI128.out)) | exact HB.out))))
                     have n2_ := Aside0.mk (IsS70.below (by repeat (first | (with_reducible first | exact HI128.out | apply IsS70.alloc | apply IsS70.drewN | apply IsS70.drew | apply IsS70.set_1) | exact HI128.out)) hb)
                     have n3_ := Aside0.mk (below_step (by repeat (first | (with_reducible first | exact HB.out | apply below_alloc | apply pw_below_drewN | apply below_drew1 | refine below_set ?_ (IsS70.ge HI128.out)) | exact HB.out)) hb)
                     clear HO145
                     clear HI128
                     clear HB
                     have HO145 := n0_
                     have HO139 := n1_
                     have HI128 := n2_
                     have HB := n3_
                     clear n0_ n1_ n2_ n3_
                     clear hb ho29
                     obtain ⟨Ao30, co30, eo30⟩ := Kd.R_slice HO139.out
                     subst eo30
                     obtain ⟨ado30, fo30, _⟩ := Kd.at_string (Kd.R_reads' HO139.out).2.2 0 (by decide) (by rw [Ny137.out]; simp)
                     cases fo30
                     refine hK.out _ _ trivial (fun hHeld => ?_)
                     clear hK K
                     refine norm_ (a' := ?_) ?_ ?_
                     rotate_left
                     ·show Act.put _ (some 19) _ = _
                      simp only [Act.put, List.setIfInBounds_toArray, List.set_cons_zero, List.set_cons_succ, i64_w, i32_w]
                      rfl
                     refine pure_ (i := 17) (N := some 24) (v := ?_) (a' := ?_) #[true, true, true, true, true, true, true, true, true, true, true, true, true, true, true, true, true, true, false, true, true, false, false, false, false, false, false, false] rfl rfl (any_of HT_.out (by kernel_rfl)) (fun _ _ _ h => h) (Or.inl ⟨by rfl, ?_⟩) ?_ ?_
                     rotate_left
                     ·intro w'
                      go_simp
                      with_reducible rfl
                     rotate_left
                     ·simp only [Act.put, List.setIfInBounds_toArray, List.set_cons_zero, List.set_cons_succ, i64_w, i32_w]
                      rfl
                     exact norm_ (by first | (simp only [putAll, Act.put, List.setIfInBounds_toArray, List.set_cons_zero, List.set_cons_succ]; done) | (simp only [putAll, Act.put, List.setIfInBounds_toArray, List.set_cons_zero, List.set_cons_succ]; rfl)) (hJ1_4_6_8_11_12_14_19 (.slice (some ado30) y137.length co30, ado30, .slice (some adz_v144) y143.length co27, adz_v144) _ ⟨(by (with_reducible repeat (first | apply Kd.R_alloc | apply Kd.R_drewN | apply Kd.R_drew)); exact HO139.out), (by (with_reducible repeat (first | apply Kd.R_alloc | apply Kd.R_drewN | apply Kd.R_drew)); exact HO145.out), ⟨_, rfl⟩, ⟨_, rfl⟩, (by repeat (first | (with_reducible first | exact HI128.out | apply IsS70.alloc | apply IsS70.drewN | apply IsS70.drew | apply IsS70.set_1) | exact HI128.out)), (by repeat (first | (with_reducible first | exact HB.out | apply below_alloc | apply pw_below_drewN | apply below_drew1 | refine below_set ?_ (IsS70.ge HI128.out)) | exact HB.out))⟩)
                    ·skip
                     refine goes_ Tryd.func26 (by kernel_rfl) rfl #[.pointer (some ⟨g128, 0, none⟩), .int .i64 12] (by rfl) rfl rfl (by (try simp only [List.map_toArray, List.map_cons, List.map_nil]); first | done | rfl | (simp only [List.length_drop, List.length_take]; rfl)) ?_
                     with_reducible refine (spec_l1Rd_pick.calls k g128 t126 t141 12 t146 t147 w _ ?side1 ?side2 A13.out).mono ?_
                     (case side1 => repeat (first | (with_reducible first | exact HI128.out | apply IsS70.alloc | apply IsS70.drewN | apply IsS70.drew | apply IsS70.set_1) | exact HI128.out))
                     (case side2 => repeat (first | (with_reducible first | exact HB.out | apply below_alloc | apply pw_below_drewN | apply below_drew1 | refine below_set ?_ (IsS70.ge HI128.out)) | exact HB.out))
                     rintro e w28 ⟨rfl, hi, hb, hk⟩
                     refine ⟨_, rfl, ?_⟩
                     have n0_ := Aside0.mk (Kd.R_mono (Kd.R_keep (IsS70.apart (show IsS70 w _ g128 t126 t141 from by repeat (first | (with_reducible first | exact HI128.out | apply IsS70.alloc | apply IsS70.drewN | apply IsS70.drew | apply IsS70.set_1) | exact HI128.out)) (by (with_reducible repeat (first | apply Kd.R_alloc | apply Kd.R_drewN | apply Kd.R_drew)); exact HO145.out) (by decide)) hk (fun _ h => h.2)) (fun _ h => h.1))
                     have n1_ := Aside0.mk (hb)
                     have n2_ := Aside0.mk (hi)
                     clear HO145
                     clear HB
                     clear HI128
                     have HO145 := n0_
                     have HB := n1_
                     have HI128 := n2_
                     clear n0_ n1_ n2_
                     (try clear hb)
                     (try clear hb2)
                     (try clear hk)
                     (try clear hi)
                     refine hK.out _ _ trivial (fun hHeld => ?_)
                     clear hK K
                     refine norm_ (a' := ?_) ?_ ?_
                     rotate_left
                     ·show Act.put _ (some 28) _ = _
                      simp only [Act.put, List.setIfInBounds_toArray, List.set_cons_zero, List.set_cons_succ, i64_w, i32_w]
                      rfl
                     refine pure_ (i := 22) (N := some 29) (v := ?_) (a' := ?_) #[true, true, true, true, true, true, true, true, true, true, true, true, false, true, true, true, true, false, false, true, true, true, true, false, false, false, false, false] rfl rfl (any_of HT_.out (by kernel_rfl)) (fun _ _ _ h => h) (Or.inl ⟨by rfl, ?_⟩) ?_ ?_
                     rotate_left
                     ·intro w'
                      go_simp
                      with_reducible rfl
                     rotate_left
                     ·simp only [Act.put, List.setIfInBounds_toArray, List.set_cons_zero, List.set_cons_succ, i64_w, i32_w]
                      rfl
                     refine pure_ (i := 23) (N := some 30) (v := ?_) (a' := ?_) #[true, true, true, true, true, true, true, true, true, true, true, true, false, true, true, true, true, false, false, true, true, true, true, true, false, false, false, false] rfl rfl (any_of HT_.out (by kernel_rfl)) (fun _ _ _ h => h) (Or.inl ⟨by rfl, ?_⟩) ?_ ?_
                     rotate_left
                     ·intro w'
                      go_simp
                      with_reducible rfl
                     rotate_left
                     ·simp only [Act.put, List.setIfInBounds_toArray, List.set_cons_zero, List.set_cons_succ, i64_w, i32_w]
                      rfl
                     refine pure_ (i := 24) (N := some 31) (v := ?_) (a' := ?_) #[true, true, true, true, true, true, true, true, true, true, true, true, false, true, true, true, true, false, false, true, true, true, true, true, true, false, false, false] rfl rfl (any_of HT_.out (by kernel_rfl)) (fun _ _ _ h => h) (Or.inl ⟨by rfl, ?_⟩) ?_ ?_
                     rotate_left
                     ·intro w'
                      go_simp
                      with_reducible rfl
                     rotate_left
                     ·simp only [Act.put, List.setIfInBounds_toArray, List.set_cons_zero, List.set_cons_succ, i64_w, i32_w]
                      rfl
                     exact norm_ (by first | (simp only [putAll, Act.put, List.setIfInBounds_toArray, List.set_cons_zero, List.set_cons_succ]; done) | (simp only [putAll, Act.put, List.setIfInBounds_toArray, List.set_cons_zero, List.set_cons_succ]; rfl)) (hJ1_4_6_8_11_14_19_21 (.slice (some adz_v144) y143.length co27, adz_v144) _ ⟨(by (with_reducible repeat (first | apply Kd.R_alloc | apply Kd.R_drewN | apply Kd.R_drew)); exact HO145.out), ⟨_, rfl⟩, (by repeat (first | (with_reducible first | exact HI128.out | apply IsS70.alloc | apply IsS70.drewN | apply IsS70.drew | apply IsS70.set_1) | exact HI128.out)), (by repeat (first | (with_reducible first | exact HB.out | apply below_alloc | apply pw_below_drewN | apply below_drew1 | refine below_set ?_ (IsS70.ge HI128.out)) | exact HB.out))⟩)
                  ·skip
                   rintro ⟨v138, adz_v138, v144, adz_v144⟩ w28 ⟨h0_, h1_, h2_, h3_, h4_, h5_⟩
                   have n0_ : Aside0 (Kd.R Kd.string 9 w28 w.heap.size (fun _ => True) v138 y137) := ⟨h0_⟩
                   have n1_ : Aside0 (Kd.R (Kd.int .i64) 3 w28 w.heap.size (fun _ => True) v144 y143) := ⟨h1_⟩
                   have n2_ : Aside0 (∃ c_, (v138 : Value) = .slice (some adz_v138) y137.length c_) := ⟨h2_⟩
                   have n3_ : Aside0 (∃ c_, (v144 : Value) = .slice (some adz_v144) y143.length c_) := ⟨h3_⟩
                   have n4_ : Aside0 (IsS70 w w28 g128 t126 t135) := ⟨h4_⟩
                   have n5_ : Aside0 (Below w.heap.size w w28) := ⟨h5_⟩
                   clear HI128
                   clear HB
                   clear h0_ h1_ h2_ h3_ h4_ h5_
                   have HO139 := n0_
                   have HO145 := n1_
                   have HA_HO139 := n2_
                   have HA_HO145 := n3_
                   have HI128 := n4_
                   have HB := n5_
                   clear n0_ n1_ n2_ n3_ n4_ n5_
                   have hHeld := trivial
                   obtain ⟨co29, eo29⟩ := HA_HO139.out
                   clear HA_HO139
                   subst eo29
                   obtain ⟨co30, eo30⟩ := HA_HO145.out
                   clear HA_HO145
                   subst eo30
                   refine norm_ (a' := ?_) ?_ ?_
                   rotate_left
                   ·simp only [putAll, Act.put, List.setIfInBounds_toArray, List.set_cons_zero, List.set_cons_succ]
                    rfl
                   refine one_ (i := 14) (N := some 21) #[true, true, true, true, true, true, true, true, true, true, true, true, true, true, true, false, false, false, false, true, true, false, false, false, false, false, false, false] rfl rfl (one_of HT_.out (by kernel_rfl)) (by decide) (fun K hK => ?_)
                   refine goes_ Tryd.func26 (by kernel_rfl) rfl #[.pointer (some ⟨g128, 0, none⟩), .int .i64 12] (by rfl) rfl rfl (by (try simp only [List.map_toArray, List.map_cons, List.map_nil]); first | done | rfl | (simp only [List.length_drop, List.length_take]; rfl)) ?_
                   with_reducible refine (spec_l1Rd_pick.calls k g128 t126 t135 12 t140 t141 w _ ?side1 ?side2 A9.out).mono ?_
                   (case side1 => repeat (first | (with_reducible first | exact HI128.out | apply IsS70.alloc | apply IsS70.drewN | apply IsS70.drew | apply IsS70.set_1) | exact HI128.out))
                   (case side2 => repeat (first | (with_reducible first | exact HB.out | apply below_alloc | apply pw_below_drewN | apply below_drew1 | refine below_set ?_ (IsS70.ge HI128.out)) | exact HB.out))
                   rintro e w31 ⟨rfl, hi, hb, hk⟩
                   refine ⟨_, rfl, ?_⟩
                   have n0_ := Aside0.mk (Kd.R_mono (Kd.R_keep (IsS70.apart (show IsS70 w _ g128 t126 t135 from by repeat (first | (with_reducible first | exact HI128.out | apply IsS70.alloc | apply IsS70.drewN | apply IsS70.drew | apply IsS70.set_1) | exact HI128.out)) (by (with_reducible repeat (first | apply Kd.R_alloc | apply Kd.R_drewN | apply Kd.R_drew)); exact HO139.out) (by decide)) hk (fun _ h => h.2)) (fun _ h => h.1))
                   have n1_ := Aside0.mk (Kd.R_mono (Kd.R_keep (IsS70.apart (show IsS70 w _ g128 t126 t135 from by repeat (first | (with_reducible first | exact HI128.out | apply IsS70.alloc | apply IsS70.drewN | apply IsS70.drew | apply IsS70.set_1) | exact HI128.out)) (by (with_reducible repeat (first | apply Kd.R_alloc | apply Kd.R_drewN | apply Kd.R_drew)); exact HO145.out) (by decide)) hk (fun _ h => h.2)) (fun _ h => h.1))
                   have n2_ := Aside0.mk (hb)
                   have n3_ := Aside0.mk (hi)
                   clear HO139
                   clear HO145
                   clear HB
                   clear HI128
                   have HO139 := n0_
                   have HO145 := n1_
                   have HB := n2_
                   have HI128 := n3_
                   clear n0_ n1_ n2_ n3_
                   (try clear hb)
                   (try clear hb2)
                   (try clear hk)
                   (try clear hi)
                   refine hK.out _ _ trivial (fun hHeld => ?_)
                   clear hK K
                   refine norm_ (a' := ?_) ?_ ?_
                   rotate_left
                   ·show Act.put _ (some 21) _ = _
                    simp only [Act.put, List.setIfInBounds_toArray, List.set_cons_zero, List.set_cons_succ, i64_w, i32_w]
                    rfl
                   refine pure_ (i := 15) (N := some 22) (v := ?_) (a' := ?_) #[true, true, true, true, true, true, true, true, true, true, true, true, true, true, true, true, false, false, false, true, true, false, false, false, false, false, false, false] rfl rfl (any_of HT_.out (by kernel_rfl)) (fun _ _ _ h => h) (Or.inl ⟨by rfl, ?_⟩) ?_ ?_
                   rotate_left
                   ·intro w'
                    go_simp
                    with_reducible rfl
                   rotate_left
                   ·simp only [Act.put, List.setIfInBounds_toArray, List.set_cons_zero, List.set_cons_succ, i64_w, i32_w]
                    rfl
                   refine pure_ (i := 16) (N := some 23) (v := ?_) (a' := ?_) #[true, true, true, true, true, true, true, true, true, true, true, true, true, true, true, true, true, false, false, true, true, false, false, false, false, false, false, false] rfl rfl (any_of HT_.out (by kernel_rfl)) (fun _ _ _ h => h) (Or.inl ⟨by rfl, ?_⟩) ?_ ?_
                   rotate_left
                   ·intro w'
                    go_simp
                    with_reducible rfl
                   rotate_left
                   ·simp only [Act.put, List.setIfInBounds_toArray, List.set_cons_zero, List.set_cons_succ, i64_w, i32_w]
                    rfl
                   refine pure_ (i := 17) (N := some 24) (v := ?_) (a' := ?_) #[true, true, true, true, true, true, true, true, true, true, true, true, true, true, true, true, true, true, false, true, true, false, false, false, false, false, false, false] rfl rfl (any_of HT_.out (by kernel_rfl)) (fun _ _ _ h => h) (Or.inl ⟨by rfl, ?_⟩) ?_ ?_
                   rotate_left
                   ·intro w'
                    go_simp
                    with_reducible rfl
                   rotate_left
                   ·simp only [Act.put, List.setIfInBounds_toArray, List.set_cons_zero, List.set_cons_succ, i64_w, i32_w]
                    rfl
                   exact norm_ (by first | (simp only [putAll, Act.put, List.setIfInBounds_toArray, List.set_cons_zero, List.set_cons_succ]; done) | (simp only [putAll, Act.put, List.setIfInBounds_toArray, List.set_cons_zero, List.set_cons_succ]; rfl)) (hJ1_4_6_8_11_12_14_19 (.slice (some adz_v138) y137.length co29, adz_v138, .slice (some adz_v144) y143.length co30, adz_v144) _ ⟨(by (with_reducible repeat (first | apply Kd.R_alloc | apply Kd.R_drewN | apply Kd.R_drew)); exact HO139.out), (by (with_reducible repeat (first | apply Kd.R_alloc | apply Kd.R_drewN | apply Kd.R_drew)); exact HO145.out), ⟨_, rfl⟩, ⟨_, rfl⟩, (by repeat (first | (with_reducible first | exact HI128.out | apply IsS70.alloc | apply IsS70.drewN | apply IsS70.drew | apply IsS70.set_1) | exact HI128.out)), (by repeat (first | (with_reducible first | exact HB.out | apply below_alloc | apply pw_below_drewN | apply below_drew1 | refine below_set ?_ (IsS70.ge HI128.out)) | exact HB.out))⟩)
                 ·skip
                  rintro ⟨v138, adz_v138⟩ w26 ⟨h0_, h1_, h2_, h3_⟩
                  have n0_ : Aside0 (Kd.R Kd.string 9 w26 w.heap.size (fun _ => True) v138 y137) := ⟨h0_⟩
                  have n1_ : Aside0 (∃ c_, (v138 : Value) = .slice (some adz_v138) y137.length c_) := ⟨h1_⟩
                  have n2_ : Aside0 (IsS70 w w26 g128 t126 t141) := ⟨h2_⟩
                  have n3_ : Aside0 (Below w.heap.size w w26) := ⟨h3_⟩
                  clear HI128
                  clear HB
                  clear h0_ h1_ h2_ h3_
                  have HO139 := n0_
                  have HA_HO139 := n1_
                  have HI128 := n2_
                  have HB := n3_
                  clear n0_ n1_ n2_ n3_
                  have hHeld := trivial
                  obtain ⟨co27, eo27⟩ := HA_HO139.out
                  clear HA_HO139
                  subst eo27
                  refine norm_ (a' := ?_) ?_ ?_
                  rotate_left
                  ·simp only [putAll, Act.put, List.setIfInBounds_toArray, List.set_cons_zero, List.set_cons_succ]
                   rfl
                  refine three_ (i := 18) (j := 19) (k := 21) (Ni := some 25) (Nj := some 26) (Nk := some 28) #[true, true, true, true, true, true, true, true, true, true, true, true, true, true, true, true, true, true, true, false, true, false, false, false, false, false, false, false] #[true, true, true, true, true, true, true, true, true, true, true, true, true, true, true, true, true, true, false, true, true, false, false, false, false, false, false, false] #[true, true, true, true, true, true, true, true, true, true, true, true, true, true, true, true, true, true, false, false, true, true, false, false, false, false, false, false] rfl rfl rfl rfl rfl rfl (three_of HT_.out (by kernel_rfl)) (by decide) (by decide) (by decide) (fun K hK => ?_) (fun K hK => ?_) (fun K hK => ?_)
                  ·skip
                   (have p142 : 0 ≤ ((ji10) : Int) := of_decide_eq_true (by first | (with_reducible assumption) | assumption); have q142 : (ji10) < (y137.length : Int) := of_decide_eq_true (by first | (with_reducible assumption) | assumption); obtain ⟨ad142, e142, hx142_0⟩ := Kd.at_string (Kd.R_reads' HO139.out).2.2 (ji10) p142 q142; obtain rfl : adz_v138 = ad142 := (by injection e142))
                   refine value_ (w1 := ?_) (v := ?_) (by rfl) rfl ?_ ?_
                   rotate_left 2
                   ·go_simp
                    constructor
                    ·rfl
                    ·rfl
                   clear hx142_0
                   refine hK.out _ _ trivial (fun hHeld => ?_)
                   clear hK K
                   refine norm_ (a' := ?_) ?_ ?_
                   rotate_left
                   ·show Act.put _ (some 25) _ = _
                    simp only [Act.put, List.setIfInBounds_toArray, List.set_cons_zero, List.set_cons_succ, i64_w, i32_w]
                    rfl
                   exact norm_ (by first | (simp only [putAll, Act.put, List.setIfInBounds_toArray, List.set_cons_zero, List.set_cons_succ]; done) | (simp only [putAll, Act.put, List.setIfInBounds_toArray, List.set_cons_zero, List.set_cons_succ]; rfl)) (hJ1_4_6_8_11_12_14_18 (.slice (some adz_v138) y137.length co27, adz_v138) _ ⟨(by (with_reducible repeat (first | apply Kd.R_alloc | apply Kd.R_drewN | apply Kd.R_drew)); exact HO139.out), ⟨_, rfl⟩, (by repeat (first | (with_reducible first | exact HI128.out | apply IsS70.alloc | apply IsS70.drewN | apply IsS70.drew | apply IsS70.set_1) | exact HI128.out)), (by repeat (first | (with_reducible first | exact HB.out | apply below_alloc | apply pw_below_drewN | apply below_drew1 | refine below_set ?_ (IsS70.ge HI128.out)) | exact HB.out))⟩)
                  ·skip
                   refine Kd.R_lit_step (Kd.int .i64) _ 3 ?hg (N := 26) ?hd (xs := ([3, 0, 63, 64] : List Int)) (inner := [.int .i64 3, .int .i64 0, .int .i64 63, .int .i64 64]) (ok := fun _ => True) (okp := fun _ => True) ?hr ?hp (fun _ hk => hk) trivial (Below.refl _ _) (Nat.le_refl _) (by simp) ?_; (case hd => rfl); (case hg => rfl); (case hr => first | (go_simp; done) | (go_simp; rfl)); (case hp => exact (Reps.one (show Kd.M (Kd.int .i64) _ _ _ 3 [.int .i64 3] from rfl) (Reps.one (show Kd.M (Kd.int .i64) _ _ _ 0 [.int .i64 0] from rfl) (Reps.one (show Kd.M (Kd.int .i64) _ _ _ 63 [.int .i64 63] from rfl) (Reps.one (show Kd.M (Kd.int .i64) _ _ _ 64 [.int .i64 64] from rfl) (Reps.none _ _))))))
                   intro v144 w28 ho29 hb hg_ hnew_
                   clear hg_ hnew_
                   (first | rw [← Ny143.out] at ho29 | (simp only [Int.reduceToNat] at ho29; rw [← Ny143.out] at ho29))
                   have n0_ := Aside0.mk (Kd.R_below (by (with_reducible repeat (first | apply Kd.R_alloc | apply Kd.R_drewN | apply Kd.R_drew)); exact HO139.out) hb)
                   have n1_ := Aside0.mk (Kd.R_lower ho29 (below_size (by repeat (first | (with_reducible first | exact HB.out | apply below_alloc | apply pw_below_drewN | apply below_drew1 | refine below_set ?_ (IsS70.ge HI128.out)) | exact HB.out))))
                   have n2_ := Aside0.mk (IsS70.below (by repeat (first | (with_reducible first | exact HI128.out | apply IsS70.alloc | apply IsS70.drewN | apply IsS70.drew | apply IsS70.set_1) | exact HI128.out)) hb)
                   have n3_ := Aside0.mk (below_step (by repeat (first | (with_reducible first | exact HB.out | apply below_alloc | apply pw_below_drewN | apply below_drew1 | refine below_set ?_ (IsS70.ge HI128.out)) | exact HB.out)) hb)
                   clear HO139
                   clear HI128
                   clear HB
                   have HO139 := n0_
                   have HO145 := n1_
                   have HI128 := n2_
                   have HB := n3_
                   clear n0_ n1_ n2_ n3_
                   clear hb ho29
                   obtain ⟨Ao30, co30, eo30⟩ := Kd.R_slice HO145.out
                   subst eo30
                   obtain ⟨ado30, fo30, _⟩ := Kd.at_int (Kd.R_reads' HO145.out).2.2 0 (by decide) (by rw [Ny143.out]; simp)
                   cases fo30
                   refine hK.out _ _ trivial (fun hHeld => ?_)
                   clear hK K
                   refine norm_ (a' := ?_) ?_ ?_
                   rotate_left
                   ·show Act.put _ (some 26) _ = _
                    simp only [Act.put, List.setIfInBounds_toArray, List.set_cons_zero, List.set_cons_succ, i64_w, i32_w]
                    rfl
                   exact norm_ (by first | (simp only [putAll, Act.put, List.setIfInBounds_toArray, List.set_cons_zero, List.set_cons_succ]; done) | (simp only [putAll, Act.put, List.setIfInBounds_toArray, List.set_cons_zero, List.set_cons_succ]; rfl)) (hJ1_4_6_8_11_12_14_19 (.slice (some adz_v138) y137.length co27, adz_v138, .slice (some ado30) y143.length co30, ado30) _ ⟨(by (with_reducible repeat (first | apply Kd.R_alloc | apply Kd.R_drewN | apply Kd.R_drew)); exact HO139.out), (by (with_reducible repeat (first | apply Kd.R_alloc | apply Kd.R_drewN | apply Kd.R_drew)); exact HO145.out), ⟨_, rfl⟩, ⟨_, rfl⟩, (by repeat (first | (with_reducible first | exact HI128.out | apply IsS70.alloc | apply IsS70.drewN | apply IsS70.drew | apply IsS70.set_1) | exact HI128.out)), (by repeat (first | (with_reducible first | exact HB.out | apply below_alloc | apply pw_below_drewN | apply below_drew1 | refine below_set ?_ (IsS70.ge HI128.out)) | exact HB.out))⟩)
                  ·skip
                   refine goes_ Tryd.func26 (by kernel_rfl) rfl #[.pointer (some ⟨g128, 0, none⟩), .int .i64 12] (by rfl) rfl rfl (by (try simp only [List.map_toArray, List.map_cons, List.map_nil]); first | done | rfl | (simp only [List.length_drop, List.length_take]; rfl)) ?_
                   with_reducible refine (spec_l1Rd_pick.calls k g128 t126 t141 12 t146 t147 w _ ?side1 ?side2 A13.out).mono ?_
                   (case side1 => repeat (first | (with_reducible first | exact HI128.out | apply IsS70.alloc | apply IsS70.drewN | apply IsS70.drew | apply IsS70.set_1) | exact HI128.out))
                   (case side2 => repeat (first | (with_reducible first | exact HB.out | apply below_alloc | apply pw_below_drewN | apply below_drew1 | refine below_set ?_ (IsS70.ge HI128.out)) | exact HB.out))
                   rintro e w28 ⟨rfl, hi, hb, hk⟩
                   refine ⟨_, rfl, ?_⟩
                   have n0_ := Aside0.mk (Kd.R_mono (Kd.R_keep (IsS70.apart (show IsS70 w _ g128 t126 t141 from by repeat (first | (with_reducible first | exact HI128.out | apply IsS70.alloc | apply IsS70.drewN | apply IsS70.drew | apply IsS70.set_1) | exact HI128.out)) (by (with_reducible repeat (first | apply Kd.R_alloc | apply Kd.R_drewN | apply Kd.R_drew)); exact HO139.out) (by decide)) hk (fun _ h => h.2)) (fun _ h => h.1))
                   have n1_ := Aside0.mk (hb)
                   have n2_ := Aside0.mk (hi)
                   clear HO139
                   clear HB
                   clear HI128
                   have HO139 := n0_
                   have HB := n1_
                   have HI128 := n2_
                   clear n0_ n1_ n2_
                   (try clear hb)
                   (try clear hb2)
                   (try clear hk)
                   (try clear hi)
                   refine hK.out _ _ trivial (fun hHeld => ?_)
                   clear hK K
                   refine norm_ (a' := ?_) ?_ ?_
                   rotate_left
                   ·show Act.put _ (some 28) _ = _
                    simp only [Act.put, List.setIfInBounds_toArray, List.set_cons_zero, List.set_cons_succ, i64_w, i32_w]
                    rfl
                   refine pure_ (i := 22) (N := some 29) (v := ?_) (a' := ?_) #[true, true, true, true, true, true, true, true, true, true, true, true, true, true, true, true, true, true, false, false, true, true, true, false, false, false, false, false] rfl rfl (any_of HT_.out (by kernel_rfl)) (fun _ _ _ h => h) (Or.inl ⟨by rfl, ?_⟩) ?_ ?_
                   rotate_left
                   ·intro w'
                    go_simp
                    with_reducible rfl
                   rotate_left
                   ·simp only [Act.put, List.setIfInBounds_toArray, List.set_cons_zero, List.set_cons_succ, i64_w, i32_w]
                    rfl
                   refine pure_ (i := 23) (N := some 30) (v := ?_) (a' := ?_) #[true, true, true, true, true, true, true, true, true, true, true, true, true, true, true, true, true, true, false, false, true, true, true, true, false, false, false, false] rfl rfl (any_of HT_.out (by kernel_rfl)) (fun _ _ _ h => h) (Or.inl ⟨by rfl, ?_⟩) ?_ ?_
                   rotate_left
                   ·intro w'
                    go_simp
                    with_reducible rfl
                   rotate_left
                   ·simp only [Act.put, List.setIfInBounds_toArray, List.set_cons_zero, List.set_cons_succ, i64_w, i32_w]
                    rfl
                   exact norm_ (by first | (simp only [putAll, Act.put, List.setIfInBounds_toArray, List.set_cons_zero, List.set_cons_succ]; done) | (simp only [putAll, Act.put, List.setIfInBounds_toArray, List.set_cons_zero, List.set_cons_succ]; rfl)) (hJ1_4_6_8_11_12_14_21 (.slice (some adz_v138) y137.length co27, adz_v138) _ ⟨(by (with_reducible repeat (first | apply Kd.R_alloc | apply Kd.R_drewN | apply Kd.R_drew)); exact HO139.out), ⟨_, rfl⟩, (by repeat (first | (with_reducible first | exact HI128.out | apply IsS70.alloc | apply IsS70.drewN | apply IsS70.drew | apply IsS70.set_1) | exact HI128.out)), (by repeat (first | (with_reducible first | exact HB.out | apply below_alloc | apply pw_below_drewN | apply below_drew1 | refine below_set ?_ (IsS70.ge HI128.out)) | exact HB.out))⟩)
                ·skip
                 rintro ⟨v144, adz_v144⟩ w27 ⟨h0_, h1_, h2_, h3_⟩
                 have n0_ : Aside0 (Kd.R (Kd.int .i64) 3 w27 w.heap.size (fun _ => True) v144 y143) := ⟨h0_⟩
                 have n1_ : Aside0 (∃ c_, (v144 : Value) = .slice (some adz_v144) y143.length c_) := ⟨h1_⟩
                 have n2_ : Aside0 (IsS70 w w27 g128 t126 t147) := ⟨h2_⟩
                 have n3_ : Aside0 (Below w.heap.size w w27) := ⟨h3_⟩
                 clear HI128
                 clear HB
                 clear h0_ h1_ h2_ h3_
                 have HO145 := n0_
                 have HA_HO145 := n1_
                 have HI128 := n2_
                 have HB := n3_
                 clear n0_ n1_ n2_ n3_
                 have hHeld := trivial
                 obtain ⟨co28, eo28⟩ := HA_HO145.out
                 clear HA_HO145
                 subst eo28
                 refine norm_ (a' := ?_) ?_ ?_
                 rotate_left
                 ·simp only [putAll, Act.put, List.setIfInBounds_toArray, List.set_cons_zero, List.set_cons_succ]
                  rfl
                 refine two_ (i := 12) (j := 25) (Ni := some 19) (Nj := some 32) #[true, true, true, true, true, true, true, true, true, true, true, true, true, true, true, true, true, false, false, true, true, true, true, true, true, false, false, false] #[true, true, true, true, true, true, true, true, true, true, true, true, false, true, true, true, true, false, false, true, true, true, true, true, true, true, false, false] rfl rfl rfl rfl (two_of HT_.out (by kernel_rfl)) (by decide) (by decide) (fun K hK => ?_) (fun K hK => ?_)
                 ·skip
                  refine Kd.R_lit_step Kd.string _ 9 ?hg (N := 19) ?hd (xs := ([(⟨#[120]⟩ : ByteArray) ++ t129, t133, (⟨#[]⟩ : ByteArray), t136] : List ByteArray)) (inner := [.string ((⟨#[120]⟩ : ByteArray) ++ t129), .string t133, .string (⟨#[]⟩ : ByteArray), .string t136]) (ok := fun _ => True) (okp := fun _ => True) ?hr ?hp (fun _ hk => hk) trivial (Below.refl _ _) (Nat.le_refl _) (by simp) ?_; (case hd => rfl); (case hg => rfl); (case hr => first | (go_simp; done) | (go_simp; rfl)); (case hp => exact (Reps.one (show Kd.M Kd.string _ _ _ ((⟨#[120]⟩ : ByteArray) ++ t129) [.string ((⟨#[120]⟩ : ByteArray) ++ t129)] from rfl) (Reps.one (show Kd.M Kd.string _ _ _ t133 [.string t133] from rfl) (Reps.one (show Kd.M Kd.string _ _ _ (⟨#[]⟩ : ByteArray) [.string (⟨#[]⟩ : ByteArray)] from rfl) (Reps.one (show Kd.M Kd.string _ _ _ t136 [.string t136] from rfl) (Reps.none _ _))))))
                  intro v138 w29 ho30 hb hg_ hnew_
                  clear hg_ hnew_
                  (first | rw [← Ny137.out] at ho30 | (simp only [Int.reduceToNat] at ho30; rw [← Ny137.out] at ho30))
                  have n0_ := Aside0.mk (Kd.R_below (by (with_reducible repeat (first | apply Kd.R_alloc | apply Kd.R_drewN | apply Kd.R_drew)); exact HO145.out) hb)
                  have n1_ := Aside0.mk (Kd.R_lower ho30 (below_size (by repeat (first | (with_reducible first | exact HB.out | apply below_alloc | apply pw_below_drewN | apply below_drew1 | refine below_set ?_ (IsS70.ge HI128.out)) | exact HB.out))))
                  have n2_ := Aside0.mk (IsS70.below (by repeat (first | (with_reducible first | exact HI128.out | apply IsS70.alloc | apply IsS70.drewN | apply IsS70.drew | apply IsS70.set_1) | exact HI128.out)) hb)
                  have n3_ := Aside0.mk (below_step (by repeat (first | (with_reducible first | exact HB.out | apply below_alloc | apply pw_below_drewN | apply below_drew1 | refine below_set ?_ (IsS70.ge HI128.out)) | exact HB.out)) hb)
                  clear HO145
                  clear HI128
                  clear HB
                  have HO145 := n0_
                  have HO139 := n1_
                  have HI128 := n2_
                  have HB := n3_
                  clear n0_ n1_ n2_ n3_
                  clear hb ho30
                  obtain ⟨Ao31, co31, eo31⟩ := Kd.R_slice HO139.out
                  subst eo31
                  obtain ⟨ado31, fo31, _⟩ := Kd.at_string (Kd.R_reads' HO139.out).2.2 0 (by decide) (by rw [Ny137.out]; simp)
                  cases fo31
                  refine hK.out _ _ trivial (fun hHeld => ?_)
                  clear hK K
                  refine norm_ (a' := ?_) ?_ ?_
                  rotate_left
                  ·show Act.put _ (some 19) _ = _
                   simp only [Act.put, List.setIfInBounds_toArray, List.set_cons_zero, List.set_cons_succ, i64_w, i32_w]
                   rfl
                  refine pure_ (i := 17) (N := some 24) (v := ?_) (a' := ?_) #[true, true, true, true, true, true, true, true, true, true, true, true, true, true, true, true, true, true, false, true, true, true, true, true, true, false, false, false] rfl rfl (any_of HT_.out (by kernel_rfl)) (fun _ _ _ h => h) (Or.inl ⟨by rfl, ?_⟩) ?_ ?_
                  rotate_left
                  ·intro w'
                   go_simp
                   with_reducible rfl
                  rotate_left
                  ·simp only [Act.put, List.setIfInBounds_toArray, List.set_cons_zero, List.set_cons_succ, i64_w, i32_w]
                   rfl
                  exact norm_ (by first | (simp only [putAll, Act.put, List.setIfInBounds_toArray, List.set_cons_zero, List.set_cons_succ]; done) | (simp only [putAll, Act.put, List.setIfInBounds_toArray, List.set_cons_zero, List.set_cons_succ]; rfl)) (hJ1_4_6_8_11_12_14_19_21 (.slice (some ado31) y137.length co31, ado31, .slice (some adz_v144) y143.length co28, adz_v144) _ ⟨(by (with_reducible repeat (first | apply Kd.R_alloc | apply Kd.R_drewN | apply Kd.R_drew)); exact HO139.out), (by (with_reducible repeat (first | apply Kd.R_alloc | apply Kd.R_drewN | apply Kd.R_drew)); exact HO145.out), ⟨_, rfl⟩, ⟨_, rfl⟩, (by repeat (first | (with_reducible first | exact HI128.out | apply IsS70.alloc | apply IsS70.drewN | apply IsS70.drew | apply IsS70.set_1) | exact HI128.out)), (by repeat (first | (with_reducible first | exact HB.out | apply below_alloc | apply pw_below_drewN | apply below_drew1 | refine below_set ?_ (IsS70.ge HI128.out)) | exact HB.out))⟩)
                 ·skip
                  (have p148 : 0 ≤ ((ji14) : Int) := of_decide_eq_true (by first | (with_reducible assumption) | assumption); have q148 : (ji14) < (y143.length : Int) := of_decide_eq_true (by first | (with_reducible assumption) | assumption); obtain ⟨ad148, e148, hx148_0⟩ := Kd.at_int (Kd.R_reads' HO145.out).2.2 (ji14) p148 q148; obtain rfl : adz_v144 = ad148 := (by injection e148))
                  refine value_ (w1 := ?_) (v := ?_) (by rfl) rfl ?_ ?_
                  rotate_left 2
                  ·go_simp
                   constructor
                   ·rfl
                   ·rfl
                  clear hx148_0
                  refine hK.out _ _ trivial (fun hHeld => ?_)
                  clear hK K
                  refine norm_ (a' := ?_) ?_ ?_
                  rotate_left
                  ·show Act.put _ (some 32) _ = _
                   simp only [Act.put, List.setIfInBounds_toArray, List.set_cons_zero, List.set_cons_succ, i64_w, i32_w]
                   rfl
                  exact norm_ (by first | (simp only [putAll, Act.put, List.setIfInBounds_toArray, List.set_cons_zero, List.set_cons_succ]; done) | (simp only [putAll, Act.put, List.setIfInBounds_toArray, List.set_cons_zero, List.set_cons_succ]; rfl)) (hJ1_4_6_8_11_14_19_21_25 (.slice (some adz_v144) y143.length co28, adz_v144) _ ⟨(by (with_reducible repeat (first | apply Kd.R_alloc | apply Kd.R_drewN | apply Kd.R_drew)); exact HO145.out), ⟨_, rfl⟩, (by repeat (first | (with_reducible first | exact HI128.out | apply IsS70.alloc | apply IsS70.drewN | apply IsS70.drew | apply IsS70.set_1) | exact HI128.out)), (by repeat (first | (with_reducible first | exact HB.out | apply below_alloc | apply pw_below_drewN | apply below_drew1 | refine below_set ?_ (IsS70.ge HI128.out)) | exact HB.out))⟩)
               ·skip
                rintro ⟨v138, adz_v138⟩ w27 ⟨h0_, h1_, h2_, h3_⟩
                have n0_ : Aside0 (Kd.R Kd.string 9 w27 w.heap.size (fun _ => True) v138 y137) := ⟨h0_⟩
                have n1_ : Aside0 (∃ c_, (v138 : Value) = .slice (some adz_v138) y137.length c_) := ⟨h1_⟩
                have n2_ : Aside0 (IsS70 w w27 g128 t126 t147) := ⟨h2_⟩
                have n3_ : Aside0 (Below w.heap.size w w27) := ⟨h3_⟩
                clear HI128
                clear HB
                clear h0_ h1_ h2_ h3_
                have HO139 := n0_
                have HA_HO139 := n1_
                have HI128 := n2_
                have HB := n3_
                clear n0_ n1_ n2_ n3_
                have hHeld := trivial
                obtain ⟨co28, eo28⟩ := HA_HO139.out
                clear HA_HO139
                subst eo28
                refine norm_ (a' := ?_) ?_ ?_
                rotate_left
                ·simp only [putAll, Act.put, List.setIfInBounds_toArray, List.set_cons_zero, List.set_cons_succ]
                 rfl
                refine two_ (i := 18) (j := 19) (Ni := some 25) (Nj := some 26) #[true, true, true, true, true, true, true, true, true, true, true, true, true, true, true, true, true, true, true, false, true, true, true, true, false, false, false, false] #[true, true, true, true, true, true, true, true, true, true, true, true, true, true, true, true, true, true, false, true, true, true, true, true, false, false, false, false] rfl rfl rfl rfl (two_of HT_.out (by kernel_rfl)) (by decide) (by decide) (fun K hK => ?_) (fun K hK => ?_)
                ·skip
                 (have p142 : 0 ≤ ((ji10) : Int) := of_decide_eq_true (by first | (with_reducible assumption) | assumption); have q142 : (ji10) < (y137.length : Int) := of_decide_eq_true (by first | (with_reducible assumption) | assumption); obtain ⟨ad142, e142, hx142_0⟩ := Kd.at_string (Kd.R_reads' HO139.out).2.2 (ji10) p142 q142; obtain rfl : adz_v138 = ad142 := (by injection e142))
                 refine value_ (w1 := ?_) (v := ?_) (by rfl) rfl ?_ ?_
                 rotate_left 2
                 ·go_simp
                  constructor
                  ·rfl
                  ·rfl
                 clear hx142_0
                 refine hK.out _ _ trivial (fun hHeld => ?_)
                 clear hK K
                 refine norm_ (a' := ?_) ?_ ?_
                 rotate_left
                 ·show Act.put _ (some 25) _ = _
                  simp only [Act.put, List.setIfInBounds_toArray, List.set_cons_zero, List.set_cons_succ, i64_w, i32_w]
                  rfl
                 refine pure_ (i := 26) (N := some 2) (v := ?_) (a' := ?_) #[true, true, true, true, true, true, true, true, true, true, true, true, true, true, true, true, true, true, true, false, true, true, true, true, false, false, true, false] rfl rfl (any_of HT_.out (by kernel_rfl)) (fun _ _ _ h => h) (Or.inl ⟨by rfl, ?_⟩) ?_ ?_
                 rotate_left
                 ·intro w'
                  go_simp
                  with_reducible rfl
                 rotate_left
                 ·simp only [Act.put, List.setIfInBounds_toArray, List.set_cons_zero, List.set_cons_succ, i64_w, i32_w]
                  rfl
                 exact norm_ (by first | (simp only [putAll, Act.put, List.setIfInBounds_toArray, List.set_cons_zero, List.set_cons_succ]; done) | (simp only [putAll, Act.put, List.setIfInBounds_toArray, List.set_cons_zero, List.set_cons_succ]; rfl)) (hJ1_4_6_8_11_12_14_18_21 (.slice (some adz_v138) y137.length co28, adz_v138) _ ⟨(by (with_reducible repeat (first | apply Kd.R_alloc | apply Kd.R_drewN | apply Kd.R_drew)); exact HO139.out), ⟨_, rfl⟩, (by repeat (first | (with_reducible first | exact HI128.out | apply IsS70.alloc | apply IsS70.drewN | apply IsS70.drew | apply IsS70.set_1) | exact HI128.out)), (by repeat (first | (with_reducible first | exact HB.out | apply below_alloc | apply pw_below_drewN | apply below_drew1 | refine below_set ?_ (IsS70.ge HI128.out)) | exact HB.out))⟩)
                ·skip
                 refine Kd.R_lit_step (Kd.int .i64) _ 3 ?hg (N := 26) ?hd (xs := ([3, 0, 63, 64] : List Int)) (inner := [.int .i64 3, .int .i64 0, .int .i64 63, .int .i64 64]) (ok := fun _ => True) (okp := fun _ => True) ?hr ?hp (fun _ hk => hk) trivial (Below.refl _ _) (Nat.le_refl _) (by simp) ?_; (case hd => rfl); (case hg => rfl); (case hr => first | (go_simp; done) | (go_simp; rfl)); (case hp => exact (Reps.one (show Kd.M (Kd.int .i64) _ _ _ 3 [.int .i64 3] from rfl) (Reps.one (show Kd.M (Kd.int .i64) _ _ _ 0 [.int .i64 0] from rfl) (Reps.one (show Kd.M (Kd.int .i64) _ _ _ 63 [.int .i64 63] from rfl) (Reps.one (show Kd.M (Kd.int .i64) _ _ _ 64 [.int .i64 64] from rfl) (Reps.none _ _))))))
                 intro v144 w29 ho30 hb hg_ hnew_
                 clear hg_ hnew_
                 (first | rw [← Ny143.out] at ho30 | (simp only [Int.reduceToNat] at ho30; rw [← Ny143.out] at ho30))
                 have n0_ := Aside0.mk (Kd.R_below (by (with_reducible repeat (first | apply Kd.R_alloc | apply Kd.R_drewN | apply Kd.R_drew)); exact HO139.out) hb)
                 have n1_ := Aside0.mk (Kd.R_lower ho30 (below_size (by repeat (first | (with_reducible first | exact HB.out | apply below_alloc | apply pw_below_drewN | apply below_drew1 | refine below_set ?_ (IsS70.ge HI128.out)) | exact HB.out))))
                 have n2_ := Aside0.mk (IsS70.below (by repeat (first | (with_reducible first | exact HI128.out | apply IsS70.alloc | apply IsS70.drewN | apply IsS70.drew | apply IsS70.set_1) | exact HI128.out)) hb)
                 have n3_ := Aside0.mk (below_step (by repeat (first | (with_reducible first | exact HB.out | apply below_alloc | apply pw_below_drewN | apply below_drew1 | refine below_set ?_ (IsS70.ge HI128.out)) | exact HB.out)) hb)
                 clear HO139
                 clear HI128
                 clear HB
                 have HO139 := n0_
                 have HO145 := n1_
                 have HI128 := n2_
                 have HB := n3_
                 clear n0_ n1_ n2_ n3_
                 clear hb ho30
                 obtain ⟨Ao31, co31, eo31⟩ := Kd.R_slice HO145.out
                 subst eo31
                 obtain ⟨ado31, fo31, _⟩ := Kd.at_int (Kd.R_reads' HO145.out).2.2 0 (by decide) (by rw [Ny143.out]; simp)
                 cases fo31
                 refine hK.out _ _ trivial (fun hHeld => ?_)
                 clear hK K
                 refine norm_ (a' := ?_) ?_ ?_
                 rotate_left
                 ·show Act.put _ (some 26) _ = _
                  simp only [Act.put, List.setIfInBounds_toArray, List.set_cons_zero, List.set_cons_succ, i64_w, i32_w]
                  rfl
                 refine pure_ (i := 24) (N := some 31) (v := ?_) (a' := ?_) #[true, true, true, true, true, true, true, true, true, true, true, true, true, true, true, true, true, true, false, true, true, true, true, true, true, false, false, false] rfl rfl (any_of HT_.out (by kernel_rfl)) (fun _ _ _ h => h) (Or.inl ⟨by rfl, ?_⟩) ?_ ?_
                 rotate_left
                 ·intro w'
                  go_simp
                  with_reducible rfl
                 rotate_left
                 ·simp only [Act.put, List.setIfInBounds_toArray, List.set_cons_zero, List.set_cons_succ, i64_w, i32_w]
                  rfl
                 exact norm_ (by first | (simp only [putAll, Act.put, List.setIfInBounds_toArray, List.set_cons_zero, List.set_cons_succ]; done) | (simp only [putAll, Act.put, List.setIfInBounds_toArray, List.set_cons_zero, List.set_cons_succ]; rfl)) (hJ1_4_6_8_11_12_14_19_21 (.slice (some adz_v138) y137.length co28, adz_v138, .slice (some ado31) y143.length co31, ado31) _ ⟨(by (with_reducible repeat (first | apply Kd.R_alloc | apply Kd.R_drewN | apply Kd.R_drew)); exact HO139.out), (by (with_reducible repeat (first | apply Kd.R_alloc | apply Kd.R_drewN | apply Kd.R_drew)); exact HO145.out), ⟨_, rfl⟩, ⟨_, rfl⟩, (by repeat (first | (with_reducible first | exact HI128.out | apply IsS70.alloc | apply IsS70.drewN | apply IsS70.drew | apply IsS70.set_1) | exact HI128.out)), (by repeat (first | (with_reducible first | exact HB.out | apply below_alloc | apply pw_below_drewN | apply below_drew1 | refine below_set ?_ (IsS70.ge HI128.out)) | exact HB.out))⟩)
              ·skip
               rintro ⟨v138, adz_v138, v144, adz_v144⟩ w29 ⟨h0_, h1_, h2_, h3_, h4_, h5_⟩
               have n0_ : Aside0 (Kd.R Kd.string 9 w29 w.heap.size (fun _ => True) v138 y137) := ⟨h0_⟩
               have n1_ : Aside0 (Kd.R (Kd.int .i64) 3 w29 w.heap.size (fun _ => True) v144 y143) := ⟨h1_⟩
               have n2_ : Aside0 (∃ c_, (v138 : Value) = .slice (some adz_v138) y137.length c_) := ⟨h2_⟩
               have n3_ : Aside0 (∃ c_, (v144 : Value) = .slice (some adz_v144) y143.length c_) := ⟨h3_⟩
               have n4_ : Aside0 (IsS70 w w29 g128 t126 t141) := ⟨h4_⟩
               have n5_ : Aside0 (Below w.heap.size w w29) := ⟨h5_⟩
               clear HI128
               clear HB
               clear h0_ h1_ h2_ h3_ h4_ h5_
               have HO139 := n0_
               have HO145 := n1_
               have HA_HO139 := n2_
               have HA_HO145 := n3_
               have HI128 := n4_
               have HB := n5_
               clear n0_ n1_ n2_ n3_ n4_ n5_
               have hHeld := trivial
               obtain ⟨co30, eo30⟩ := HA_HO139.out
               clear HA_HO139
               subst eo30
               obtain ⟨co31, eo31⟩ := HA_HO145.out
               clear HA_HO145
               subst eo31
               refine norm_ (a' := ?_) ?_ ?_
               rotate_left
               ·simp only [putAll, Act.put, List.setIfInBounds_toArray, List.set_cons_zero, List.set_cons_succ]
                rfl
               refine two_ (i := 18) (j := 21) (Ni := some 25) (Nj := some 28) #[true, true, true, true, true, true, true, true, true, true, true, true, true, true, true, true, true, true, true, true, true, false, false, false, false, false, false, false] #[true, true, true, true, true, true, true, true, true, true, true, true, true, true, true, true, true, true, false, true, true, true, false, false, false, false, false, false] rfl rfl rfl rfl (two_of HT_.out (by kernel_rfl)) (by decide) (by decide) (fun K hK => ?_) (fun K hK => ?_)
               ·skip
                (have p142 : 0 ≤ ((ji10) : Int) := of_decide_eq_true (by first | (with_reducible assumption) | assumption); have q142 : (ji10) < (y137.length : Int) := of_decide_eq_true (by first | (with_reducible assumption) | assumption); obtain ⟨ad142, e142, hx142_0⟩ := Kd.at_string (Kd.R_reads' HO139.out).2.2 (ji10) p142 q142; obtain rfl : adz_v138 = ad142 := (by injection e142))
                refine value_ (w1 := ?_) (v := ?_) (by rfl) rfl ?_ ?_
                rotate_left 2
                ·go_simp
                 constructor
                 ·rfl
                 ·rfl
                clear hx142_0
                refine hK.out _ _ trivial (fun hHeld => ?_)
                clear hK K
                refine norm_ (a' := ?_) ?_ ?_
                rotate_left
                ·show Act.put _ (some 25) _ = _
                 simp only [Act.put, List.setIfInBounds_toArray, List.set_cons_zero, List.set_cons_succ, i64_w, i32_w]
                 rfl
                exact norm_ (by first | (simp only [putAll, Act.put, List.setIfInBounds_toArray, List.set_cons_zero, List.set_cons_succ]; done) | (simp only [putAll, Act.put, List.setIfInBounds_toArray, List.set_cons_zero, List.set_cons_succ]; rfl)) (hJ1_4_6_8_11_12_14_18_19 (.slice (some adz_v138) y137.length co30, adz_v138, .slice (some adz_v144) y143.length co31, adz_v144) _ ⟨(by (with_reducible repeat (first | apply Kd.R_alloc | apply Kd.R_drewN | apply Kd.R_drew)); exact HO139.out), (by (with_reducible repeat (first | apply Kd.R_alloc | apply Kd.R_drewN | apply Kd.R_drew)); exact HO145.out), ⟨_, rfl⟩, ⟨_, rfl⟩, (by repeat (first | (with_reducible first | exact HI128.out | apply IsS70.alloc | apply IsS70.drewN | apply IsS70.drew | apply IsS70.set_1) | exact HI128.out)), (by repeat (first | (with_reducible first | exact HB.out | apply below_alloc | apply pw_below_drewN | apply below_drew1 | refine below_set ?_ (IsS70.ge HI128.out)) | exact HB.out))⟩)
               ·skip
                refine goes_ Tryd.func26 (by kernel_rfl) rfl #[.pointer (some ⟨g128, 0, none⟩), .int .i64 12] (by rfl) rfl rfl (by (try simp only [List.map_toArray, List.map_cons, List.map_nil]); first | done | rfl | (simp only [List.length_drop, List.length_take]; rfl)) ?_
                with_reducible refine (spec_l1Rd_pick.calls k g128 t126 t141 12 t146 t147 w _ ?side1 ?side2 A13.out).mono ?_
                (case side1 => repeat (first | (with_reducible first | exact HI128.out | apply IsS70.alloc | apply IsS70.drewN | apply IsS70.drew | apply IsS70.set_1) | exact HI128.out))
                (case side2 => repeat (first | (with_reducible first | exact HB.out | apply below_alloc | apply pw_below_drewN | apply below_drew1 | refine below_set ?_ (IsS70.ge HI128.out)) | exact HB.out))
                rintro e w32 ⟨rfl, hi, hb, hk⟩
                refine ⟨_, rfl, ?_⟩
                have n0_ := Aside0.mk (Kd.R_mono (Kd.R_keep (IsS70.apart (show IsS70 w _ g128 t126 t141 from by repeat (first | (with_reducible first | exact HI128.out | apply IsS70.alloc | apply IsS70.drewN | apply IsS70.drew | apply IsS70.set_1) | exact HI128.out)) (by (with_reducible repeat (first | apply Kd.R_alloc | apply Kd.R_drewN | apply Kd.R_drew)); exact HO139.out) (by decide)) hk (fun _ h => h.2)) (fun _ h => h.1))
                have n1_ := Aside0.mk (Kd.R_mono (Kd.R_keep (IsS70.apart (show IsS70 w _ g128 t126 t141 from by repeat (first | (with_reducible first | exact HI128.out | apply IsS70.alloc | apply IsS70.drewN | apply IsS70.drew | apply IsS70.set_1) | exact HI128.out)) (by (with_reducible repeat (first | apply Kd.R_alloc | apply Kd.R_drewN | apply Kd.R_drew)); exact HO145.out) (by decide)) hk (fun _ h => h.2)) (fun _ h => h.1))
                have n2_ := Aside0.mk (hb)
                have n3_ := Aside0.mk (hi)
                clear HO139
                clear HO145
                clear HB
                clear HI128
                have HO139 := n0_
                have HO145 := n1_
                have HB := n2_
                have HI128 := n3_
                clear n0_ n1_ n2_ n3_
                (try clear hb)
                (try clear hb2)
                (try clear hk)
                (try clear hi)
                refine hK.out _ _ trivial (fun hHeld => ?_)
                clear hK K
                refine norm_ (a' := ?_) ?_ ?_
                rotate_left
                ·show Act.put _ (some 28) _ = _
                 simp only [Act.put, List.setIfInBounds_toArray, List.set_cons_zero, List.set_cons_succ, i64_w, i32_w]
                 rfl
                refine pure_ (i := 22) (N := some 29) (v := ?_) (a' := ?_) #[true, true, true, true, true, true, true, true, true, true, true, true, true, true, true, true, true, true, false, true, true, true, true, false, false, false, false, false] rfl rfl (any_of HT_.out (by kernel_rfl)) (fun _ _ _ h => h) (Or.inl ⟨by rfl, ?_⟩) ?_ ?_
                rotate_left
                ·intro w'
                 go_simp
                 with_reducible rfl
                rotate_left
                ·simp only [Act.put, List.setIfInBounds_toArray, List.set_cons_zero, List.set_cons_succ, i64_w, i32_w]
                 rfl
                refine pure_ (i := 23) (N := some 30) (v := ?_) (a' := ?_) #[true, true, true, true, true, true, true, true, true, true, true, true, true, true, true, true, true, true, false, true, true, true, true, true, false, false, false, false] rfl rfl (any_of HT_.out (by kernel_rfl)) (fun _ _ _ h => h) (Or.inl ⟨by rfl, ?_⟩) ?_ ?_
                rotate_left
                ·intro w'
                 go_simp
                 with_reducible rfl
                rotate_left
                ·simp only [Act.put, List.setIfInBounds_toArray, List.set_cons_zero, List.set_cons_succ, i64_w, i32_w]
                 rfl
                refine pure_ (i := 24) (N := some 31) (v := ?_) (a' := ?_) #[true, true, true, true, true, true, true, true, true, true, true, true, true, true, true, true, true, true, false, true, true, true, true, true, true, false, false, false] rfl rfl (any_of HT_.out (by kernel_rfl)) (fun _ _ _ h => h) (Or.inl ⟨by rfl, ?_⟩) ?_ ?_
                rotate_left
                ·intro w'
                 go_simp
                 with_reducible rfl
                rotate_left
                ·simp only [Act.put, List.setIfInBounds_toArray, List.set_cons_zero, List.set_cons_succ, i64_w, i32_w]
                 rfl
                exact norm_ (by first | (simp only [putAll, Act.put, List.setIfInBounds_toArray, List.set_cons_zero, List.set_cons_succ]; done) | (simp only [putAll, Act.put, List.setIfInBounds_toArray, List.set_cons_zero, List.set_cons_succ]; rfl)) (hJ1_4_6_8_11_12_14_19_21 (.slice (some adz_v138) y137.length co30, adz_v138, .slice (some adz_v144) y143.length co31, adz_v144) _ ⟨(by (with_reducible repeat (first | apply Kd.R_alloc | apply Kd.R_drewN | apply Kd.R_drew)); exact HO139.out), (by (with_reducible repeat (first | apply Kd.R_alloc | apply Kd.R_drewN | apply Kd.R_drew)); exact HO145.out), ⟨_, rfl⟩, ⟨_, rfl⟩, (by repeat (first | (with_reducible first | exact HI128.out | apply IsS70.alloc | apply IsS70.drewN | apply IsS70.drew | apply IsS70.set_1) | exact HI128.out)), (by repeat (first | (with_reducible first | exact HB.out | apply below_alloc | apply pw_below_drewN | apply below_drew1 | refine below_set ?_ (IsS70.ge HI128.out)) | exact HB.out))⟩)
             ·skip
              rintro ⟨v138, adz_v138⟩ w26 ⟨h0_, h1_, h2_, h3_⟩
              have n0_ : Aside0 (Kd.R Kd.string 9 w26 w.heap.size (fun _ => True) v138 y137) := ⟨h0_⟩
              have n1_ : Aside0 (∃ c_, (v138 : Value) = .slice (some adz_v138) y137.length c_) := ⟨h1_⟩
              have n2_ : Aside0 (IsS70 w w26 g128 t126 t141) := ⟨h2_⟩
              have n3_ : Aside0 (Below w.heap.size w w26) := ⟨h3_⟩
              clear HI128
              clear HB
              clear h0_ h1_ h2_ h3_
              have HO139 := n0_
              have HA_HO139 := n1_
              have HI128 := n2_
              have HB := n3_
              clear n0_ n1_ n2_ n3_
              have hHeld := trivial
              obtain ⟨co27, eo27⟩ := HA_HO139.out
              clear HA_HO139
              subst eo27
              refine norm_ (a' := ?_) ?_ ?_
              rotate_left
              ·simp only [putAll, Act.put, List.setIfInBounds_toArray, List.set_cons_zero, List.set_cons_succ]
               rfl
              refine two_ (i := 19) (j := 21) (Ni := some 26) (Nj := some 28) #[true, true, true, true, true, true, true, true, true, true, true, true, true, true, true, true, true, true, true, true, true, false, false, false, false, false, false, false] #[true, true, true, true, true, true, true, true, true, true, true, true, true, true, true, true, true, true, true, false, true, true, false, false, false, false, false, false] rfl rfl rfl rfl (two_of HT_.out (by kernel_rfl)) (by decide) (by decide) (fun K hK => ?_) (fun K hK => ?_)
              ·skip
               refine Kd.R_lit_step (Kd.int .i64) _ 3 ?hg (N := 26) ?hd (xs := ([3, 0, 63, 64] : List Int)) (inner := [.int .i64 3, .int .i64 0, .int .i64 63, .int .i64 64]) (ok := fun _ => True) (okp := fun _ => True) ?hr ?hp (fun _ hk => hk) trivial (Below.refl _ _) (Nat.le_refl _) (by simp) ?_; (case hd => rfl); (case hg => rfl); (case hr => first | (go_simp; done) | (go_simp; rfl)); (case hp => exact (Reps.one (show Kd.M (Kd.int .i64) _ _ _ 3 [.int .i64 3] from rfl) (Reps.one (show Kd.M (Kd.int .i64) _ _ _ 0 [.int .i64 0] from rfl) (Reps.one (show Kd.M (Kd.int .i64) _ _ _ 63 [.int .i64 63] from rfl) (Reps.one (show Kd.M (Kd.int .i64) _ _ _ 64 [.int .i64 64] from rfl) (Reps.none _ _))))))
               intro v144 w28 ho29 hb hg_ hnew_
               clear hg_ hnew_
               (first | rw [← Ny143.out] at ho29 | (simp only [Int.reduceToNat] at ho29; rw [← Ny143.out] at ho29))
               have n0_ := Aside0.mk (Kd.R_below (by (with_reducible repeat (first | apply Kd.R_alloc | apply Kd.R_drewN | apply Kd.R_drew)); exact HO139.out) hb)
               have n1_ := Aside0.mk (Kd.R_lower ho29 (below_size (by repeat (first | (with_reducible first | exact HB.out | apply below_alloc | apply pw_below_drewN | apply below_drew1 | refine below_set ?_ (IsS70.ge HI128.out)) | exact HB.out))))
               have n2_ := Aside0.mk (IsS70.below (by repeat (first | (with_reducible first | exact HI128.out | apply IsS70.alloc | apply IsS70.drewN | apply IsS70.drew | apply IsS70.set_1) | exact HI128.out)) hb)
               have n3_ := Aside0.mk (below_step (by repeat (first | (with_reducible first | exact HB.out | apply below_alloc | apply pw_below_drewN | apply below_drew1 | refine below_set ?_ (IsS70.ge HI128.out)) | exact HB.out)) hb)
               clear HO139
               clear HI128
               clear HB
               have HO139 := n0_
               have HO145 := n1_
               have HI128 := n2_
               have HB := n3_
               clear n0_ n1_ n2_ n3_
               clear hb ho29
               obtain ⟨Ao30, co30, eo30⟩ := Kd.R_slice HO145.out
               subst eo30
               obtain ⟨ado30, fo30, _⟩ := Kd.at_int (Kd.R_reads' HO145.out).2.2 0 (by decide) (by rw [Ny143.out]; simp)
               cases fo30
               refine hK.out _ _ trivial (fun hHeld => ?_)
               clear hK K
               refine norm_ (a' := ?_) ?_ ?_
               rotate_left
               ·show Act.put _ (some 26) _ = _
                simp only [Act.put, List.setIfInBounds_toArray, List.set_cons_zero, List.set_cons_succ, i64_w, i32_w]
                rfl
               exact norm_ (by first | (simp only [putAll, Act.put, List.setIfInBounds_toArray, List.set_cons_zero, List.set_cons_succ]; done) | (simp only [putAll, Act.put, List.setIfInBounds_toArray, List.set_cons_zero, List.set_cons_succ]; rfl)) (hJ1_4_6_8_11_12_14_18_19 (.slice (some adz_v138) y137.length co27, adz_v138, .slice (some ado30) y143.length co30, ado30) _ ⟨(by (with_reducible repeat (first | apply Kd.R_alloc | apply Kd.R_drewN | apply Kd.R_drew)); exact HO139.out), (by (with_reducible repeat (first | apply Kd.R_alloc | apply Kd.R_drewN | apply Kd.R_drew)); exact HO145.out), ⟨_, rfl⟩, ⟨_, rfl⟩, (by repeat (first | (with_reducible first | exact HI128.out | apply IsS70.alloc | apply IsS70.drewN | apply IsS70.drew | apply IsS70.set_1) | exact HI128.out)), (by repeat (first | (with_reducible first | exact HB.out | apply below_alloc | apply pw_below_drewN | apply below_drew1 | refine below_set ?_ (IsS70.ge HI128.out)) | exact HB.out))⟩)
              ·skip
               refine goes_ Tryd.func26 (by kernel_rfl) rfl #[.pointer (some ⟨g128, 0, none⟩), .int .i64 12] (by rfl) rfl rfl (by (try simp only [List.map_toArray, List.map_cons, List.map_nil]); first | done | rfl | (simp only [List.length_drop, List.length_take]; rfl)) ?_
               with_reducible refine (spec_l1Rd_pick.calls k g128 t126 t141 12 t146 t147 w _ ?side1 ?side2 A13.out).mono ?_
               (case side1 => repeat (first | (with_reducible first | exact HI128.out | apply IsS70.alloc | apply IsS70.drewN | apply IsS70.drew | apply IsS70.set_1) | exact HI128.out))
               (case side2 => repeat (first | (with_reducible first | exact HB.out | apply below_alloc | apply pw_below_drewN | apply below_drew1 | refine below_set ?_ (IsS70.ge HI128.out)) | exact HB.out))
               rintro e w28 ⟨rfl, hi, hb, hk⟩
               refine ⟨_, rfl, ?_⟩
               have n0_ := Aside0.mk (Kd.R_mono (Kd.R_keep (IsS70.apart (show IsS70 w _ g128 t126 t141 from by repeat (first | (with_reducible first | exact HI128.out | apply IsS70.alloc | apply IsS70.drewN | apply IsS70.drew | apply IsS70.set_1) | exact HI128.out)) (by (with_reducible repeat (first | apply Kd.R_alloc | apply Kd.R_drewN | apply Kd.R_drew)); exact HO139.out) (by decide)) hk (fun _ h => h.2)) (fun _ h => h.1))
               have n1_ := Aside0.mk (hb)
               have n2_ := Aside0.mk (hi)
               clear HO139
               clear HB
               clear HI128
               have HO139 := n0_
               have HB := n1_
               have HI128 := n2_
               clear n0_ n1_ n2_
               (try clear hb)
               (try clear hb2)
               (try clear hk)
               (try clear hi)
               refine hK.out _ _ trivial (fun hHeld => ?_)
               clear hK K
               refine norm_ (a' := ?_) ?_ ?_
               rotate_left
               ·show Act.put _ (some 28) _ = _
                simp only [Act.put, List.setIfInBounds_toArray, List.set_cons_zero, List.set_cons_succ, i64_w, i32_w]
                rfl
               refine pure_ (i := 22) (N := some 29) (v := ?_) (a' := ?_) #[true, true, true, true, true, true, true, true, true, true, true, true, true, true, true, true, true, true, true, false, true, true, true, false, false, false, false, false] rfl rfl (any_of HT_.out (by kernel_rfl)) (fun _ _ _ h => h) (Or.inl ⟨by rfl, ?_⟩) ?_ ?_
               rotate_left
               ·intro w'
                go_simp
                with_reducible rfl
               rotate_left
               ·simp only [Act.put, List.setIfInBounds_toArray, List.set_cons_zero, List.set_cons_succ, i64_w, i32_w]
                rfl
               refine pure_ (i := 23) (N := some 30) (v := ?_) (a' := ?_) #[true, true, true, true, true, true, true, true, true, true, true, true, true, true, true, true, true, true, true, false, true, true, true, true, false, false, false, false] rfl rfl (any_of HT_.out (by kernel_rfl)) (fun _ _ _ h => h) (Or.inl ⟨by rfl, ?_⟩) ?_ ?_
               rotate_left
               ·intro w'
                go_simp
                with_reducible rfl
               rotate_left
               ·simp only [Act.put, List.setIfInBounds_toArray, List.set_cons_zero, List.set_cons_succ, i64_w, i32_w]
                rfl
               refine pure_ (i := 26) (N := some 2) (v := ?_) (a' := ?_) #[true, true, true, true, true, true, true, true, true, true, true, true, true, true, true, true, true, true, true, false, true, true, true, true, false, false, true, false] rfl rfl (any_of HT_.out (by kernel_rfl)) (fun _ _ _ h => h) (Or.inl ⟨by rfl, ?_⟩) ?_ ?_
               rotate_left
               ·intro w'
                go_simp
                with_reducible rfl
               rotate_left
               ·simp only [Act.put, List.setIfInBounds_toArray, List.set_cons_zero, List.set_cons_succ, i64_w, i32_w]
                rfl
               exact norm_ (by first | (simp only [putAll, Act.put, List.setIfInBounds_toArray, List.set_cons_zero, List.set_cons_succ]; done) | (simp only [putAll, Act.put, List.setIfInBounds_toArray, List.set_cons_zero, List.set_cons_succ]; rfl)) (hJ1_4_6_8_11_12_14_18_21 (.slice (some adz_v138) y137.length co27, adz_v138) _ ⟨(by (with_reducible repeat (first | apply Kd.R_alloc | apply Kd.R_drewN | apply Kd.R_drew)); exact HO139.out), ⟨_, rfl⟩, (by repeat (first | (with_reducible first | exact HI128.out | apply IsS70.alloc | apply IsS70.drewN | apply IsS70.drew | apply IsS70.set_1) | exact HI128.out)), (by repeat (first | (with_reducible first | exact HB.out | apply below_alloc | apply pw_below_drewN | apply below_drew1 | refine below_set ?_ (IsS70.ge HI128.out)) | exact HB.out))⟩)
            ·skip
             rintro ⟨v144, adz_v144⟩ w27 ⟨h0_, h1_, h2_, h3_⟩
             have n0_ : Aside0 (Kd.R (Kd.int .i64) 3 w27 w.heap.size (fun _ => True) v144 y143) := ⟨h0_⟩
             have n1_ : Aside0 (∃ c_, (v144 : Value) = .slice (some adz_v144) y143.length c_) := ⟨h1_⟩
             have n2_ : Aside0 (IsS70 w w27 g128 t126 t147) := ⟨h2_⟩
             have n3_ : Aside0 (Below w.heap.size w w27) := ⟨h3_⟩
             clear HI128
             clear HB
             clear h0_ h1_ h2_ h3_
             have HO145 := n0_
             have HA_HO145 := n1_
             have HI128 := n2_
             have HB := n3_
             clear n0_ n1_ n2_ n3_
             have hHeld := trivial
             obtain ⟨co28, eo28⟩ := HA_HO145.out
             clear HA_HO145
             subst eo28
             refine norm_ (a' := ?_) ?_ ?_
             rotate_left
             ·simp only [putAll, Act.put, List.setIfInBounds_toArray, List.set_cons_zero, List.set_cons_succ]
              rfl
             refine one_ (i := 12) (N := some 19) #[true, true, true, true, true, true, true, true, true, true, true, true, true, true, true, true, true, false, false, true, true, true, true, true, true, true, false, false] rfl rfl (one_of HT_.out (by kernel_rfl)) (by decide) (fun K hK => ?_)
             refine Kd.R_lit_step Kd.string _ 9 ?hg (N := 19) ?hd (xs := ([(⟨#[120]⟩ : ByteArray) ++ t129, t133, (⟨#[]⟩ : ByteArray), t136] : List ByteArray)) (inner := [.string ((⟨#[120]⟩ : ByteArray) ++ t129), .string t133, .string (⟨#[]⟩ : ByteArray), .string t136]) (ok := fun _ => True) (okp := fun _ => True) ?hr ?hp (fun _ hk => hk) trivial (Below.refl _ _) (Nat.le_refl _) (by simp) ?_; (case hd => rfl); (case hg => rfl); (case hr => first | (go_simp; done) | (go_simp; rfl)); (case hp => exact (Reps.one (show Kd.M Kd.string _ _ _ ((⟨#[120]⟩ : ByteArray) ++ t129) [.string ((⟨#[120]⟩ : ByteArray) ++ t129)] from rfl) (Reps.one (show Kd.M Kd.string _ _ _ t133 [.string t133] from rfl) (Reps.one (show Kd.M Kd.string _ _ _ (⟨#[]⟩ : ByteArray) [.string (⟨#[]⟩ : ByteArray)] from rfl) (Reps.one (show Kd.M Kd.string _ _ _ t136 [.string t136] from rfl) (Reps.none _ _))))))
             intro v138 w29 ho30 hb hg_ hnew_
             clear hg_ hnew_
             (first | rw [← Ny137.out] at ho30 | (simp only [Int.reduceToNat] at ho30; rw [← Ny137.out] at ho30))
             have n0_ := Aside0.mk (Kd.R_below (by (with_reducible repeat (first | apply Kd.R_alloc | apply Kd.R_drewN | apply Kd.R_drew)); exact HO145.out) hb)
             have n1_ := Aside0.mk (Kd.R_lower ho30 (below_size (by repeat (first | (with_reducible first | exact HB.out | apply below_alloc | apply pw_below_drewN | apply below_drew1 | refine below_set ?_ (IsS70.ge HI128.out)) | exact HB.out))))
             have n2_ := Aside0.mk (IsS70.below (by repeat (first | (with_reducible first | exact HI128.out | apply IsS70.alloc | apply IsS70.drewN | apply IsS70.drew | apply IsS70.set_1) | exact HI128.out)) hb)
             have n3_ := Aside0.mk (below_step (by repeat (first | (with_reducible first | exact HB.out | apply below_alloc | apply pw_below_drewN | apply below_drew1 | refine below_set ?_ (IsS70.ge HI128.out)) | exact HB.out)) hb)
             clear HO145
             clear HI128
             clear HB
             have HO145 := n0_
             have HO139 := n1_
             have HI128 := n2_
             have HB := n3_
             clear n0_ n1_ n2_ n3_
             clear hb ho30
             obtain ⟨Ao31, co31, eo31⟩ := Kd.R_slice HO139.out
             subst eo31
             obtain ⟨ado31, fo31, _⟩ := Kd.at_string (Kd.R_reads' HO139.out).2.2 0 (by decide) (by rw [Ny137.out]; simp)
             cases fo31
             refine hK.out _ _ trivial (fun hHeld => ?_)
             clear hK K
             refine norm_ (a' := ?_) ?_ ?_
             rotate_left
             ·show Act.put _ (some 19) _ = _
              simp only [Act.put, List.setIfInBounds_toArray, List.set_cons_zero, List.set_cons_succ, i64_w, i32_w]
              rfl
             refine pure_ (i := 17) (N := some 24) (v := ?_) (a' := ?_) #[true, true, true, true, true, true, true, true, true, true, true, true, true, true, true, true, true, true, false, true, true, true, true, true, true, true, false, false] rfl rfl (any_of HT_.out (by kernel_rfl)) (fun _ _ _ h => h) (Or.inl ⟨by rfl, ?_⟩) ?_ ?_
             rotate_left
             ·intro w'
              go_simp
              with_reducible rfl
             rotate_left
             ·simp only [Act.put, List.setIfInBounds_toArray, List.set_cons_zero, List.set_cons_succ, i64_w, i32_w]
              rfl
             exact norm_ (by first | (simp only [putAll, Act.put, List.setIfInBounds_toArray, List.set_cons_zero, List.set_cons_succ]; done) | (simp only [putAll, Act.put, List.setIfInBounds_toArray, List.set_cons_zero, List.set_cons_succ]; rfl)) (hJ1_4_6_8_11_12_14_19_21_25 (.slice (some ado31) y137.length co31, ado31, .slice (some adz_v144) y143.length co28, adz_v144) _ ⟨(by (with_reducible repeat (first | apply Kd.R_alloc | apply Kd.R_drewN | apply Kd.R_drew)); exact HO139.out), (by (with_reducible repeat (first | apply Kd.R_alloc | apply Kd.R_drewN | apply Kd.R_drew)); exact HO145.out), ⟨_, rfl⟩, ⟨_, rfl⟩, (by repeat (first | (with_reducible first | exact HI128.out | apply IsS70.alloc | apply IsS70.drewN | apply IsS70.drew | apply IsS70.set_1) | exact HI128.out)), (by repeat (first | (with_reducible first | exact HB.out | apply below_alloc | apply pw_below_drewN | apply below_drew1 | refine below_set ?_ (IsS70.ge HI128.out)) | exact HB.out))⟩)
           ·skip
            rintro ⟨v138, adz_v138, v144, adz_v144⟩ w30 ⟨h0_, h1_, h2_, h3_, h4_, h5_⟩
            have n0_ : Aside0 (Kd.R Kd.string 9 w30 w.heap.size (fun _ => True) v138 y137) := ⟨h0_⟩
            have n1_ : Aside0 (Kd.R (Kd.int .i64) 3 w30 w.heap.size (fun _ => True) v144 y143) := ⟨h1_⟩
            have n2_ : Aside0 (∃ c_, (v138 : Value) = .slice (some adz_v138) y137.length c_) := ⟨h2_⟩
            have n3_ : Aside0 (∃ c_, (v144 : Value) = .slice (some adz_v144) y143.length c_) := ⟨h3_⟩
            have n4_ : Aside0 (IsS70 w w30 g128 t126 t147) := ⟨h4_⟩
            have n5_ : Aside0 (Below w.heap.size w w30) := ⟨h5_⟩
            clear HI128
            clear HB
            clear h0_ h1_ h2_ h3_ h4_ h5_
            have HO139 := n0_
            have HO145 := n1_
            have HA_HO139 := n2_
            have HA_HO145 := n3_
            have HI128 := n4_
            have HB := n5_
            clear n0_ n1_ n2_ n3_ n4_ n5_
            have hHeld := trivial
            obtain ⟨co31, eo31⟩ := HA_HO139.out
            clear HA_HO139
            subst eo31
            obtain ⟨co32, eo32⟩ := HA_HO145.out
            clear HA_HO145
            subst eo32
            refine norm_ (a' := ?_) ?_ ?_
            rotate_left
            ·simp only [putAll, Act.put, List.setIfInBounds_toArray, List.set_cons_zero, List.set_cons_succ]
             rfl
            refine two_ (i := 18) (j := 25) (Ni := some 25) (Nj := some 32) #[true, true, true, true, true, true, true, true, true, true, true, true, true, true, true, true, true, true, true, true, true, true, true, true, true, false, false, false] #[true, true, true, true, true, true, true, true, true, true, true, true, true, true, true, true, true, true, false, true, true, true, true, true, true, true, false, false] rfl rfl rfl rfl (two_of HT_.out (by kernel_rfl)) (by decide) (by decide) (fun K hK => ?_) (fun K hK => ?_)
            ·skip
             (have p142 : 0 ≤ ((ji10) : Int) := of_decide_eq_true (by first | (with_reducible assumption) | assumption); have q142 : (ji10) < (y137.length : Int) := of_decide_eq_true (by first | (with_reducible assumption) | assumption); obtain ⟨ad142, e142, hx142_0⟩ := Kd.at_string (Kd.R_reads' HO139.out).2.2 (ji10) p142 q142; obtain rfl : adz_v138 = ad142 := (by injection e142))
             refine value_ (w1 := ?_) (v := ?_) (by rfl) rfl ?_ ?_
             rotate_left 2
             ·go_simp
              constructor
              ·rfl
              ·rfl
             clear hx142_0
             refine hK.out _ _ trivial (fun hHeld => ?_)
             clear hK K
             refine norm_ (a' := ?_) ?_ ?_
             rotate_left
             ·show Act.put _ (some 25) _ = _
              simp only [Act.put, List.setIfInBounds_toArray, List.set_cons_zero, List.set_cons_succ, i64_w, i32_w]
              rfl
             refine pure_ (i := 26) (N := some 2) (v := ?_) (a' := ?_) #[true, true, true, true, true, true, true, true, true, true, true, true, true, true, true, true, true, true, true, true, true, true, true, true, true, false, true, false] rfl rfl (any_of HT_.out (by kernel_rfl)) (fun _ _ _ h => h) (Or.inl ⟨by rfl, ?_⟩) ?_ ?_
             rotate_left
             ·intro w'
              go_simp
              with_reducible rfl
             rotate_left
             ·simp only [Act.put, List.setIfInBounds_toArray, List.set_cons_zero, List.set_cons_succ, i64_w, i32_w]
              rfl
             exact norm_ (by first | (simp only [putAll, Act.put, List.setIfInBounds_toArray, List.set_cons_zero, List.set_cons_succ]; done) | (simp only [putAll, Act.put, List.setIfInBounds_toArray, List.set_cons_zero, List.set_cons_succ]; rfl)) (hJ1_4_6_8_11_12_14_18_19_21 (.slice (some adz_v138) y137.length co31, adz_v138, .slice (some adz_v144) y143.length co32, adz_v144) _ ⟨(by (with_reducible repeat (first | apply Kd.R_alloc | apply Kd.R_drewN | apply Kd.R_drew)); exact HO139.out), (by (with_reducible repeat (first | apply Kd.R_alloc | apply Kd.R_drewN | apply Kd.R_drew)); exact HO145.out), ⟨_, rfl⟩, ⟨_, rfl⟩, (by repeat (first | (with_reducible first | exact HI128.out | apply IsS70.alloc | apply IsS70.drewN | apply IsS70.drew | apply IsS70.set_1) | exact HI128.out)), (by repeat (first | (with_reducible first | exact HB.out | apply below_alloc | apply pw_below_drewN | apply below_drew1 | refine below_set ?_ (IsS70.ge HI128.out)) | exact HB.out))⟩)
            ·skip
             (have p148 : 0 ≤ ((ji14) : Int) := of_decide_eq_true (by first | (with_reducible assumption) | assumption); have q148 : (ji14) < (y143.length : Int) := of_decide_eq_true (by first | (with_reducible assumption) | assumption); obtain ⟨ad148, e148, hx148_0⟩ := Kd.at_int (Kd.R_reads' HO145.out).2.2 (ji14) p148 q148; obtain rfl : adz_v144 = ad148 := (by injection e148))
             refine value_ (w1 := ?_) (v := ?_) (by rfl) rfl ?_ ?_
             rotate_left 2
             ·go_simp
              constructor
              ·rfl
              ·rfl
             clear hx148_0
             refine hK.out _ _ trivial (fun hHeld => ?_)
             clear hK K
             refine norm_ (a' := ?_) ?_ ?_
             rotate_left
             ·show Act.put _ (some 32) _ = _
              simp only [Act.put, List.setIfInBounds_toArray, List.set_cons_zero, List.set_cons_succ, i64_w, i32_w]
              rfl
             exact norm_ (by first | (simp only [putAll, Act.put, List.setIfInBounds_toArray, List.set_cons_zero, List.set_cons_succ]; done) | (simp only [putAll, Act.put, List.setIfInBounds_toArray, List.set_cons_zero, List.set_cons_succ]; rfl)) (hJ1_4_6_8_11_12_14_19_21_25 (.slice (some adz_v138) y137.length co31, adz_v138, .slice (some adz_v144) y143.length co32, adz_v144) _ ⟨(by (with_reducible repeat (first | apply Kd.R_alloc | apply Kd.R_drewN | apply Kd.R_drew)); exact HO139.out), (by (with_reducible repeat (first | apply Kd.R_alloc | apply Kd.R_drewN | apply Kd.R_drew)); exact HO145.out), ⟨_, rfl⟩, ⟨_, rfl⟩, (by repeat (first | (with_reducible first | exact HI128.out | apply IsS70.alloc | apply IsS70.drewN | apply IsS70.drew | apply IsS70.set_1) | exact HI128.out)), (by repeat (first | (with_reducible first | exact HB.out | apply below_alloc | apply pw_below_drewN | apply below_drew1 | refine below_set ?_ (IsS70.ge HI128.out)) | exact HB.out))⟩)
          ·skip
           rintro ⟨v138, adz_v138⟩ w27 ⟨h0_, h1_, h2_, h3_⟩
           have n0_ : Aside0 (Kd.R Kd.string 9 w27 w.heap.size (fun _ => True) v138 y137) := ⟨h0_⟩
           have n1_ : Aside0 (∃ c_, (v138 : Value) = .slice (some adz_v138) y137.length c_) := ⟨h1_⟩
           have n2_ : Aside0 (IsS70 w w27 g128 t126 t147) := ⟨h2_⟩
           have n3_ : Aside0 (Below w.heap.size w w27) := ⟨h3_⟩
           clear HI128
           clear HB
           clear h0_ h1_ h2_ h3_
           have HO139 := n0_
           have HA_HO139 := n1_
           have HI128 := n2_
           have HB := n3_
           clear n0_ n1_ n2_ n3_
           have hHeld := trivial
           obtain ⟨co28, eo28⟩ := HA_HO139.out
           clear HA_HO139
           subst eo28
           refine norm_ (a' := ?_) ?_ ?_
           rotate_left
           ·simp only [putAll, Act.put, List.setIfInBounds_toArray, List.set_cons_zero, List.set_cons_succ]
            rfl
           refine one_ (i := 19) (N := some 26) #[true, true, true, true, true, true, true, true, true, true, true, true, true, true, true, true, true, true, true, true, true, true, true, true, false, false, true, false] rfl rfl (one_of HT_.out (by kernel_rfl)) (by decide) (fun K hK => ?_)
           refine Kd.R_lit_step (Kd.int .i64) _ 3 ?hg (N := 26) ?hd (xs := ([3, 0, 63, 64] : List Int)) (inner := [.int .i64 3, .int .i64 0, .int .i64 63, .int .i64 64]) (ok := fun _ => True) (okp := fun _ => True) ?hr ?hp (fun _ hk => hk) trivial (Below.refl _ _) (Nat.le_refl _) (by simp) ?_; (case hd => rfl); (case hg => rfl); (case hr => first | (go_simp; done) | (go_simp; rfl)); (case hp => exact (Reps.one (show Kd.M (Kd.int .i64) _ _ _ 3 [.int .i64 3] from rfl) (Reps.one (show Kd.M (Kd.int .i64) _ _ _ 0 [.int .i64 0] from rfl) (Reps.one (show Kd.M (Kd.int .i64) _ _ _ 63 [.int .i64 63] from rfl) (Reps.one (show Kd.M (Kd.int .i64) _ _ _ 64 [.int .i64 64] from rfl) (Reps.none _ _))))))
           intro v144 w29 ho30 hb hg_ hnew_
           clear hg_ hnew_
           (first | rw [← Ny143.out] at ho30 | (simp only [Int.reduceToNat] at ho30; rw [← Ny143.out] at ho30))
           have n0_ := Aside0.mk (Kd.R_below (by (with_reducible repeat (first | apply Kd.R_alloc | apply Kd.R_drewN | apply Kd.R_drew)); exact HO139.out) hb)
           have n1_ := Aside0.mk (Kd.R_lower ho30 (below_size (by repeat (first | (with_reducible first | exact HB.out | apply below_alloc | apply pw_below_drewN | apply below_drew1 | refine below_set ?_ (IsS70.ge HI128.out)) | exact HB.out))))
           have n2_ := Aside0.mk (IsS70.below (by repeat (first | (with_reducible first | exact HI128.out | apply IsS70.alloc | apply IsS70.drewN | apply IsS70.drew | apply IsS70.set_1) | exact HI128.out)) hb)
           have n3_ := Aside0.mk (below_step (by repeat (first | (with_reducible first | exact HB.out | apply below_alloc | apply pw_below_drewN | apply below_drew1 | refine below_set ?_ (IsS70.ge HI128.out)) | exact HB.out)) hb)
           clear HO139
           clear HI128
           clear HB
           have HO139 := n0_
           have HO145 := n1_
           have HI128 := n2_
           have HB := n3_
           clear n0_ n1_ n2_ n3_
           clear hb ho30
           obtain ⟨Ao31, co31, eo31⟩ := Kd.R_slice HO145.out
           subst eo31
           obtain ⟨ado31, fo31, _⟩ := Kd.at_int (Kd.R_reads' HO145.out).2.2 0 (by decide) (by rw [Ny143.out]; simp)
           cases fo31
           refine hK.out _ _ trivial (fun hHeld => ?_)
           clear hK K
           refine norm_ (a' := ?_) ?_ ?_
           rotate_left
           ·show Act.put _ (some 26) _ = _
            simp only [Act.put, List.setIfInBounds_toArray, List.set_cons_zero, List.set_cons_succ, i64_w, i32_w]
            rfl
           refine pure_ (i := 24) (N := some 31) (v := ?_) (a' := ?_) #[true, true, true, true, true, true, true, true, true, true, true, true, true, true, true, true, true, true, true, true, true, true, true, true, true, false, true, false] rfl rfl (any_of HT_.out (by kernel_rfl)) (fun _ _ _ h => h) (Or.inl ⟨by rfl, ?_⟩) ?_ ?_
           rotate_left
           ·intro w'
            go_simp
            with_reducible rfl
           rotate_left
           ·simp only [Act.put, List.setIfInBounds_toArray, List.set_cons_zero, List.set_cons_succ, i64_w, i32_w]
            rfl
           exact norm_ (by first | (simp only [putAll, Act.put, List.setIfInBounds_toArray, List.set_cons_zero, List.set_cons_succ]; done) | (simp only [putAll, Act.put, List.setIfInBounds_toArray, List.set_cons_zero, List.set_cons_succ]; rfl)) (hJ1_4_6_8_11_12_14_18_19_21 (.slice (some adz_v138) y137.length co28, adz_v138, .slice (some ado31) y143.length co31, ado31) _ ⟨(by (with_reducible repeat (first | apply Kd.R_alloc | apply Kd.R_drewN | apply Kd.R_drew)); exact HO139.out), (by (with_reducible repeat (first | apply Kd.R_alloc | apply Kd.R_drewN | apply Kd.R_drew)); exact HO145.out), ⟨_, rfl⟩, ⟨_, rfl⟩, (by repeat (first | (with_reducible first | exact HI128.out | apply IsS70.alloc | apply IsS70.drewN | apply IsS70.drew | apply IsS70.set_1) | exact HI128.out)), (by repeat (first | (with_reducible first | exact HB.out | apply below_alloc | apply pw_below_drewN | apply below_drew1 | refine below_set ?_ (IsS70.ge HI128.out)) | exact HB.out))⟩)
         ·skip
          rintro ⟨v138, adz_v138, v144, adz_v144⟩ w29 ⟨h0_, h1_, h2_, h3_, h4_, h5_⟩
          have n0_ : Aside0 (Kd.R Kd.string 9 w29 w.heap.size (fun _ => True) v138 y137) := ⟨h0_⟩
          have n1_ : Aside0 (Kd.R (Kd.int .i64) 3 w29 w.heap.size (fun _ => True) v144 y143) := ⟨h1_⟩
          have n2_ : Aside0 (∃ c_, (v138 : Value) = .slice (some adz_v138) y137.length c_) := ⟨h2_⟩
          have n3_ : Aside0 (∃ c_, (v144 : Value) = .slice (some adz_v144) y143.length c_) := ⟨h3_⟩
          have n4_ : Aside0 (IsS70 w w29 g128 t126 t141) := ⟨h4_⟩
          have n5_ : Aside0 (Below w.heap.size w w29) := ⟨h5_⟩
          clear HI128
          clear HB
          clear h0_ h1_ h2_ h3_ h4_ h5_
          have HO139 := n0_
          have HO145 := n1_
          have HA_HO139 := n2_
          have HA_HO145 := n3_
          have HI128 := n4_
          have HB := n5_
          clear n0_ n1_ n2_ n3_ n4_ n5_
          have hHeld := trivial
          obtain ⟨co30, eo30⟩ := HA_HO139.out
          clear HA_HO139
          subst eo30
          obtain ⟨co31, eo31⟩ := HA_HO145.out
          clear HA_HO145
          subst eo31
          refine norm_ (a' := ?_) ?_ ?_
          rotate_left
          ·simp only [putAll, Act.put, List.setIfInBounds_toArray, List.set_cons_zero, List.set_cons_succ]
           rfl
          refine one_ (i := 21) (N := some 28) #[true, true, true, true, true, true, true, true, true, true, true, true, true, true, true, true, true, true, true, true, true, true, false, false, false, false, false, false] rfl rfl (one_of HT_.out (by kernel_rfl)) (by decide) (fun K hK => ?_)
          refine goes_ Tryd.func26 (by kernel_rfl) rfl #[.pointer (some ⟨g128, 0, none⟩), .int .i64 12] (by rfl) rfl rfl (by (try simp only [List.map_toArray, List.map_cons, List.map_nil]); first | done | rfl | (simp only [List.length_drop, List.length_take]; rfl)) ?_
          with_reducible refine (spec_l1Rd_pick.calls k g128 t126 t141 12 t146 t147 w _ ?side1 ?side2 A13.out).mono ?_
          (case side1 => repeat (first | (with_reducible first | exact HI128.out | apply IsS70.alloc | apply IsS70.drewN | apply IsS70.drew | apply IsS70.set_1) | exact HI128.out))
          (case side2 => repeat (first | (with_reducible first | exact HB.out | apply below_alloc | apply pw_below_drewN | apply below_drew1 | refine below_set ?_ (IsS70.ge HI128.out)) | exact HB.out))
          rintro e w32 ⟨rfl, hi, hb, hk⟩
          refine ⟨_, rfl, ?_⟩
          have n0_ := Aside0.mk (Kd.R_mono (Kd.R_keep (IsS70.apart (show IsS70 w _ g128 t126 t141 from by repeat (first | (with_reducible first | exact HI128.out | apply IsS70.alloc | apply IsS70.drewN | apply IsS70.drew | apply IsS70.set_1) | exact HI128.out)) (by (with_reducible repeat (first | apply Kd.R_alloc | apply Kd.R_drewN | apply Kd.R_drew)); exact HO139.out) (by decide)) hk (fun _ h => h.2)) (fun _ h => h.1))
          have n1_ := Aside0.mk (Kd.R_mono (Kd.R_keep (IsS70.apart (show IsS70 w _ g128 t126 t141 from by repeat (first | (with_reducible first | exact HI128.out | apply IsS70.alloc | apply IsS70.drewN | apply IsS70.drew | apply IsS70.set_1) | exact HI128.out)) (by (with_reducible repeat (first | apply Kd.R_alloc | apply Kd.R_drewN | apply Kd.R_drew)); exact HO145.out) (by decide)) hk (fun _ h => h.2)) (fun _ h => h.1))
          have n2_ := Aside0.mk (hb)
          have n3_ := Aside0.mk (hi)
          clear HO139
          clear HO145
          clear HB
          clear HI128
          have HO139 := n0_
          have HO145 := n1_
          have HB := n2_
          have HI128 := n3_
          clear n0_ n1_ n2_ n3_
          (try clear hb)
          (try clear hb2)
          (try clear hk)
          (try clear hi)
          refine hK.out _ _ trivial (fun hHeld => ?_)
          clear hK K
          refine norm_ (a' := ?_) ?_ ?_
          rotate_left
          ·show Act.put _ (some 28) _ = _
           simp only [Act.put, List.setIfInBounds_toArray, List.set_cons_zero, List.set_cons_succ, i64_w, i32_w]
           rfl
          refine pure_ (i := 22) (N := some 29) (v := ?_) (a' := ?_) #[true, true, true, true, true, true, true, true, true, true, true, true, true, true, true, true, true, true, true, true, true, true, true, false, false, false, false, false] rfl rfl (any_of HT_.out (by kernel_rfl)) (fun _ _ _ h => h) (Or.inl ⟨by rfl, ?_⟩) ?_ ?_
          rotate_left
          ·intro w'
           go_simp
           with_reducible rfl
          rotate_left
          ·simp only [Act.put, List.setIfInBounds_toArray, List.set_cons_zero, List.set_cons_succ, i64_w, i32_w]
           rfl
          refine pure_ (i := 23) (N := some 30) (v := ?_) (a' := ?_) #[true, true, true, true, true, true, true, true, true, true, true, true, true, true, true, true, true, true, true, true, true, true, true, true, false, false, false, false] rfl rfl (any_of HT_.out (by kernel_rfl)) (fun _ _ _ h => h) (Or.inl ⟨by rfl, ?_⟩) ?_ ?_
          rotate_left
          ·intro w'
           go_simp
           with_reducible rfl
          rotate_left
          ·simp only [Act.put, List.setIfInBounds_toArray, List.set_cons_zero, List.set_cons_succ, i64_w, i32_w]
           rfl
          refine pure_ (i := 24) (N := some 31) (v := ?_) (a' := ?_) #[true, true, true, true, true, true, true, true, true, true, true, true, true, true, true, true, true, true, true, true, true, true, true, true, true, false, false, false] rfl rfl (any_of HT_.out (by kernel_rfl)) (fun _ _ _ h => h) (Or.inl ⟨by rfl, ?_⟩) ?_ ?_
          rotate_left
          ·intro w'
           go_simp
           with_reducible rfl
          rotate_left
          ·simp only [Act.put, List.setIfInBounds_toArray, List.set_cons_zero, List.set_cons_succ, i64_w, i32_w]
           rfl
          refine pure_ (i := 26) (N := some 2) (v := ?_) (a' := ?_) #[true, true, true, true, true, true, true, true, true, true, true, true, true, true, true, true, true, true, true, true, true, true, true, true, true, false, true, false] rfl rfl (any_of HT_.out (by kernel_rfl)) (fun _ _ _ h => h) (Or.inl ⟨by rfl, ?_⟩) ?_ ?_
          rotate_left
          ·intro w'
           go_simp
           with_reducible rfl
          rotate_left
          ·simp only [Act.put, List.setIfInBounds_toArray, List.set_cons_zero, List.set_cons_succ, i64_w, i32_w]
           rfl
          exact norm_ (by first | (simp only [putAll, Act.put, List.setIfInBounds_toArray, List.set_cons_zero, List.set_cons_succ]; done) | (simp only [putAll, Act.put, List.setIfInBounds_toArray, List.set_cons_zero, List.set_cons_succ]; rfl)) (hJ1_4_6_8_11_12_14_18_19_21 (.slice (some adz_v138) y137.length co30, adz_v138, .slice (some adz_v144) y143.length co31, adz_v144) _ ⟨(by (with_reducible repeat (first | apply Kd.R_alloc | apply Kd.R_drewN | apply Kd.R_drew)); exact HO139.out), (by (with_reducible repeat (first | apply Kd.R_alloc | apply Kd.R_drewN | apply Kd.R_drew)); exact HO145.out), ⟨_, rfl⟩, ⟨_, rfl⟩, (by repeat (first | (with_reducible first | exact HI128.out | apply IsS70.alloc | apply IsS70.drewN | apply IsS70.drew | apply IsS70.set_1) | exact HI128.out)), (by repeat (first | (with_reducible first | exact HB.out | apply below_alloc | apply pw_below_drewN | apply below_drew1 | refine below_set ?_ (IsS70.ge HI128.out)) | exact HB.out))⟩)
        ·skip
         rintro ⟨v138, adz_v138, v144, adz_v144⟩ w30 ⟨h0_, h1_, h2_, h3_, h4_, h5_⟩
         have n0_ : Aside0 (Kd.R Kd.string 9 w30 w.heap.size (fun _ => True) v138 y137) := ⟨h0_⟩
         have n1_ : Aside0 (Kd.R (Kd.int .i64) 3 w30 w.heap.size (fun _ => True) v144 y143) := ⟨h1_⟩
         have n2_ : Aside0 (∃ c_, (v138 : Value) = .slice (some adz_v138) y137.length c_) := ⟨h2_⟩
         have n3_ : Aside0 (∃ c_, (v144 : Value) = .slice (some adz_v144) y143.length c_) := ⟨h3_⟩
         have n4_ : Aside0 (IsS70 w w30 g128 t126 t147) := ⟨h4_⟩
         have n5_ : Aside0 (Below w.heap.size w w30) := ⟨h5_⟩
         clear HI128
         clear HB
         clear h0_ h1_ h2_ h3_ h4_ h5_
         have HO139 := n0_
         have HO145 := n1_
         have HA_HO139 := n2_
         have HA_HO145 := n3_
         have HI128 := n4_
         have HB := n5_
         clear n0_ n1_ n2_ n3_ n4_ n5_
         have hHeld := trivial
         obtain ⟨co31, eo31⟩ := HA_HO139.out
         clear HA_HO139
         subst eo31
         obtain ⟨co32, eo32⟩ := HA_HO145.out
         clear HA_HO145
         subst eo32
         refine norm_ (a' := ?_) ?_ ?_
         rotate_left
         ·simp only [putAll, Act.put, List.setIfInBounds_toArray, List.set_cons_zero, List.set_cons_succ]
          rfl
         refine one_ (i := 18) (N := some 25) #[true, true, true, true, true, true, true, true, true, true, true, true, true, true, true, true, true, true, true, true, true, true, true, true, true, true, false, false] rfl rfl (one_of HT_.out (by kernel_rfl)) (by decide) (fun K hK => ?_)
         (have p142 : 0 ≤ ((ji10) : Int) := of_decide_eq_true (by first | (with_reducible assumption) | assumption); have q142 : (ji10) < (y137.length : Int) := of_decide_eq_true (by first | (with_reducible assumption) | assumption); obtain ⟨ad142, e142, hx142_0⟩ := Kd.at_string (Kd.R_reads' HO139.out).2.2 (ji10) p142 q142; obtain rfl : adz_v138 = ad142 := (by injection e142))
         refine value_ (w1 := ?_) (v := ?_) (by rfl) rfl ?_ ?_
         rotate_left 2
         ·go_simp
          constructor
          ·rfl
          ·rfl
         clear hx142_0
         refine hK.out _ _ trivial (fun hHeld => ?_)
         clear hK K
         refine norm_ (a' := ?_) ?_ ?_
         rotate_left
         ·show Act.put _ (some 25) _ = _
          simp only [Act.put, List.setIfInBounds_toArray, List.set_cons_zero, List.set_cons_succ, i64_w, i32_w]
          rfl
         refine pure_ (i := 26) (N := some 2) (v := ?_) (a' := ?_) #[true, true, true, true, true, true, true, true, true, true, true, true, true, true, true, true, true, true, true, true, true, true, true, true, true, true, true, false] rfl rfl (any_of HT_.out (by kernel_rfl)) (fun _ _ _ h => h) (Or.inl ⟨by rfl, ?_⟩) ?_ ?_
         rotate_left
         ·intro w'
          go_simp
          with_reducible rfl
         rotate_left
         ·simp only [Act.put, List.setIfInBounds_toArray, List.set_cons_zero, List.set_cons_succ, i64_w, i32_w]
          rfl
         exact norm_ (by first | (simp only [putAll, Act.put, List.setIfInBounds_toArray, List.set_cons_zero, List.set_cons_succ]; done) | (simp only [putAll, Act.put, List.setIfInBounds_toArray, List.set_cons_zero, List.set_cons_succ]; rfl)) (hJ1_4_6_8_11_12_14_18_19_21_25 (.slice (some adz_v138) y137.length co31, adz_v138, .slice (some adz_v144) y143.length co32, adz_v144) _ ⟨(by (with_reducible repeat (first | apply Kd.R_alloc | apply Kd.R_drewN | apply Kd.R_drew)); exact HO139.out), (by (with_reducible repeat (first | apply Kd.R_alloc | apply Kd.R_drewN | apply Kd.R_drew)); exact HO145.out), ⟨_, rfl⟩, ⟨_, rfl⟩, (by repeat (first | (with_reducible first | exact HI128.out | apply IsS70.alloc | apply IsS70.drewN | apply IsS70.drew | apply IsS70.set_1) | exact HI128.out)), (by repeat (first | (with_reducible first | exact HB.out | apply below_alloc | apply pw_below_drewN | apply below_drew1 | refine below_set ?_ (IsS70.ge HI128.out)) | exact HB.out))⟩)
       ·skip
        rintro ⟨v138, adz_v138, v144, adz_v144⟩ w30 ⟨h0_, h1_, h2_, h3_, h4_, h5_⟩
        have n0_ : Aside0 (Kd.R Kd.string 9 w30 w.heap.size (fun _ => True) v138 y137) := ⟨h0_⟩
        have n1_ : Aside0 (Kd.R (Kd.int .i64) 3 w30 w.heap.size (fun _ => True) v144 y143) := ⟨h1_⟩
        have n2_ : Aside0 (∃ c_, (v138 : Value) = .slice (some adz_v138) y137.length c_) := ⟨h2_⟩
        have n3_ : Aside0 (∃ c_, (v144 : Value) = .slice (some adz_v144) y143.length c_) := ⟨h3_⟩
        have n4_ : Aside0 (IsS70 w w30 g128 t126 t147) := ⟨h4_⟩
        have n5_ : Aside0 (Below w.heap.size w w30) := ⟨h5_⟩
        clear HI128
        clear HB
        clear h0_ h1_ h2_ h3_ h4_ h5_
        have HO139 := n0_
        have HO145 := n1_
        have HA_HO139 := n2_
        have HA_HO145 := n3_
        have HI128 := n4_
        have HB := n5_
        clear n0_ n1_ n2_ n3_ n4_ n5_
        have hHeld := trivial
        obtain ⟨co31, eo31⟩ := HA_HO139.out
        clear HA_HO139
        subst eo31
        obtain ⟨co32, eo32⟩ := HA_HO145.out
        clear HA_HO145
        subst eo32
        refine norm_ (a' := ?_) ?_ ?_
        rotate_left
        ·simp only [putAll, Act.put, List.setIfInBounds_toArray, List.set_cons_zero, List.set_cons_succ]
         rfl
        refine one_ (i := 25) (N := some 32) #[true, true, true, true, true, true, true, true, true, true, true, true, true, true, true, true, true, true, true, true, true, true, true, true, true, true, true, false] rfl rfl (one_of HT_.out (by kernel_rfl)) (by decide) (fun K hK => ?_)
        (have p148 : 0 ≤ ((ji14) : Int) := of_decide_eq_true (by first | (with_reducible assumption) | assumption); have q148 : (ji14) < (y143.length : Int) := of_decide_eq_true (by first | (with_reducible assumption) | assumption); obtain ⟨ad148, e148, hx148_0⟩ := Kd.at_int (Kd.R_reads' HO145.out).2.2 (ji14) p148 q148; obtain rfl : adz_v144 = ad148 := (by injection e148))
        refine value_ (w1 := ?_) (v := ?_) (by rfl) rfl ?_ ?_
        rotate_left 2
        ·go_simp
         constructor
         ·rfl
         ·rfl
        clear hx148_0
        refine hK.out _ _ trivial (fun hHeld => ?_)
        clear hK K
        refine norm_ (a' := ?_) ?_ ?_
        rotate_left
        ·show Act.put _ (some 32) _ = _
         simp only [Act.put, List.setIfInBounds_toArray, List.set_cons_zero, List.set_cons_succ, i64_w, i32_w]
         rfl
        exact norm_ (by first | (simp only [putAll, Act.put, List.setIfInBounds_toArray, List.set_cons_zero, List.set_cons_succ]; done) | (simp only [putAll, Act.put, List.setIfInBounds_toArray, List.set_cons_zero, List.set_cons_succ]; rfl)) (hJ1_4_6_8_11_12_14_18_19_21_25 (.slice (some adz_v138) y137.length co31, adz_v138, .slice (some adz_v144) y143.length co32, adz_v144) _ ⟨(by (with_reducible repeat (first | apply Kd.R_alloc | apply Kd.R_drewN | apply Kd.R_drew)); exact HO139.out), (by (with_reducible repeat (first | apply Kd.R_alloc | apply Kd.R_drewN | apply Kd.R_drew)); exact HO145.out), ⟨_, rfl⟩, ⟨_, rfl⟩, (by repeat (first | (with_reducible first | exact HI128.out | apply IsS70.alloc | apply IsS70.drewN | apply IsS70.drew | apply IsS70.set_1) | exact HI128.out)), (by repeat (first | (with_reducible first | exact HB.out | apply below_alloc | apply pw_below_drewN | apply below_drew1 | refine below_set ?_ (IsS70.ge HI128.out)) | exact HB.out))⟩)
      rintro ⟨v138, adz_v138, v144, adz_v144⟩ w30 ⟨h0_, h1_, h2_, h3_, h4_, h5_⟩
      have n0_ : Aside0 (Kd.R Kd.string 9 w30 w.heap.size (fun _ => True) v138 y137) := ⟨h0_⟩
      have n1_ : Aside0 (Kd.R (Kd.int .i64) 3 w30 w.heap.size (fun _ => True) v144 y143) := ⟨h1_⟩
      have n2_ : Aside0 (∃ c_, (v138 : Value) = .slice (some adz_v138) y137.length c_) := ⟨h2_⟩
      have n3_ : Aside0 (∃ c_, (v144 : Value) = .slice (some adz_v144) y143.length c_) := ⟨h3_⟩
      have n4_ : Aside0 (IsS70 w w30 g128 t126 t147) := ⟨h4_⟩
      have n5_ : Aside0 (Below w.heap.size w w30) := ⟨h5_⟩
      clear HI128
      clear HB
      clear h0_ h1_ h2_ h3_ h4_ h5_
      have HO139 := n0_
      have HO145 := n1_
      have HA_HO139 := n2_
      have HA_HO145 := n3_
      have HI128 := n4_
      have HB := n5_
      clear n0_ n1_ n2_ n3_ n4_ n5_
      have hHeld := trivial
      obtain ⟨co31, eo31⟩ := HA_HO139.out
      clear HA_HO139
      subst eo31
      obtain ⟨co32, eo32⟩ := HA_HO145.out
      clear HA_HO145
      subst eo32
      refine norm_ (a' := ?_) ?_ ?_
      rotate_left
      ·simp only [putAll, Act.put, List.setIfInBounds_toArray, List.set_cons_zero, List.set_cons_succ]
       rfl
      refine pure_ (i := 27) (N := some 3) (v := ?_) (a' := ?_) #[true, true, true, true, true, true, true, true, true, true, true, true, true, true, true, true, true, true, true, true, true, true, true, true, true, true, true, true] rfl rfl (any_of HT_.out (by kernel_rfl)) (fun _ _ _ h => h) (Or.inl ⟨by rfl, ?_⟩) ?_ ?_
      rotate_left
      ·intro w'
       go_simp
       with_reducible rfl
      rotate_left
      ·simp only [Act.put, List.setIfInBounds_toArray, List.set_cons_zero, List.set_cons_succ, i64_w, i32_w]
       rfl
      refine done_ (done_of HT_.out (by kernel_rfl)) ?_
      try go_wp2
      go_ret2
      exact ⟨by first | rfl | (simp [errW_none, errW_some] <;> rfl) | (simp only [← hji10, ← hji14]; first | rfl | (simp [errW_none, errW_some] <;> rfl)) | (simp [*, errW_none, errW_some] <;> rfl), by repeat (first | (with_reducible first | exact HB.out | apply below_alloc | apply pw_below_drewN | apply below_drew1 | refine below_set ?_ (IsS70.ge HI128.out)) | exact HB.out)⟩
     ·rw [if_neg c16] at H
      exact absurd H (by simp)
    ·rw [if_neg c15] at H
     exact absurd H (by simp)
   ·rw [if_neg c12] at H
    exact absurd H (by simp)
  ·rw [if_neg c11] at H
   exact absurd H (by simp)
 ·rw [if_neg c4] at H
  exact absurd H (by simp)

end Go.Proofs.YtondhdiipaijiaaDoor.PFnSegBack
