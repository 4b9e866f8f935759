/- The program's table of sums: the call of sumTable hands back sixteen numbers and leaves what there was alone. No conditions. -/
import Derived.Test.YtgioeghaopoabaaProg
import Derived.Below
import Derived.Deep.Draws
import Derived.Deep.AppendLies
import Derived.Maps.AppendAt
import Derived.OwnWalk
import Derived.Laws.BytesArg
import Derived.Laws.MakeOwn
import Derived.Laws.OwnMore
import Derived.Deep.OwnRows
import Derived.Tactics
import Derived.Lib.ConvBytes
import Derived.Laws.Slices
import Derived.WalkKit
import Derived.KernelRfl
import Derived.RowKit3
import Derived.Deep.LoopGhost
import Derived.Deep.QuietTactic
import Derived.BigQuiet
import Derived.WideLaws
import Derived.Deep.DeepCutAuto
import Derived.Deep.CutBlock
import Derived.Deep.RegionHeld3
import Derived.Laws.Rows
import Derived.Lib.AppendStr
import Derived.ArgAppend
import Derived.Laws.IdiomCopy
import Derived.OrdersHeld
import Derived.Laws.BitsLemmas
import Derived.RowKit
import Derived.Test.YtgioeghaopoabaaWWords
import Derived.Test.YtgioeghaopoabaaWLast
import Derived.Test.YtgioeghaopoabaaWTab
import Derived.Test.YtgioeghaopoabaaWFour
import Derived.Test.YtgioeghaopoabaaWQPut
import Derived.Test.YtgioeghaopoabaaWApart
import Derived.Test.YtgioeghaopoabaaWArr
import Derived.Test.YtgioeghaopoabaaWZeros
import Derived.Test.YtgioeghaopoabaaWFoot
import Derived.Test.YtgioeghaopoabaaWKept
import Derived.Test.YtgioeghaopoabaaWShare
import Derived.Test.YtgioeghaopoabaaWN
import Derived.Test.YtgioeghaopoabaaWFootNe
import Derived.Test.YtgioeghaopoabaaWAt
import Derived.Test.YtgioeghaopoabaaWEqStruct
import Derived.Test.YtgioeghaopoabaaWRepsOne
import Derived.Test.YtgioeghaopoabaaWInv
import Derived.Test.YtgioeghaopoabaaWInvWords
import Derived.Test.YtgioeghaopoabaaWGuard
import Derived.Test.YtgioeghaopoabaaWNEv
import Derived.Test.YtgioeghaopoabaaWMore
import Derived.Laws.ResultCell
namespace Go.Proofs.Ytgioeghaopoabaa.HCrc
open Go Go.RowKit Go.Proofs.YtgioeghaopoabaaW.PrintWords Go.Proofs.YtgioeghaopoabaaW.PrintLast Go.Proofs.YtgioeghaopoabaaW.PrintMore
set_option linter.unusedVariables false
set_option linter.unusedSimpArgs false
/-- The sum behind one more bit. -/
def sh (a : Int) : Int := if bits .and .u16 a 32768 = 0 then IntKind.u16.wrap (a * 2) else bits .xor .u16 (IntKind.u16.wrap (a * 2)) 4129
theorem shift_any (a : Int) (w : World) : Calls Try.prog 58 #[.int .u16 a] w fun e w' => e = .returned (.int .u16 (sh a)) ∧ Drawn0 w w' := by
  by_cases c : bits .and .u16 a 32768 = 0
  · have hs : sh a = IntKind.u16.wrap (a * 2) := if_pos c
    have HS := Aside0.mk hs
    have c0 : (bits .and .u16 a 32768 == 0) = true := beq_iff_eq.mpr c
    have c1 : (bits .and .u16 a 32768 != 0) = false := bne_eq_false_iff_eq.mpr c
    clear c hs
    go_enter Try.func58, Try.ntmps58
    go_wp2
    go_ret
    exact ⟨by rw [HS.out]; rfl, by repeat (first | exact Drawn0.refl _ | apply Drawn0.step)⟩
  · have hs : sh a = bits .xor .u16 (IntKind.u16.wrap (a * 2)) 4129 := if_neg c
    have HS := Aside0.mk hs
    have c0 : (bits .and .u16 a 32768 == 0) = false := beq_eq_false_iff_ne.mpr c
    have c1 : (bits .and .u16 a 32768 != 0) = true := bne_iff_ne.mpr c
    clear c hs
    go_enter Try.func58, Try.ntmps58
    go_wp2
    go_ret
    exact ⟨by rw [HS.out]; rfl, by repeat (first | exact Drawn0.refl _ | apply Drawn0.step)⟩
/-- Behind so many bits. -/
def shs : Nat → Int → Int
  | 0, a => a
  | k + 1, a => sh (shs k a)
def tabE (i : Nat) : Int := shs 4 ((i : Int) * 4096)
def tabL (i : Nat) : List Int := (List.range 16).map fun j => if j < i then tabE j else 0
def tabC (i : Nat) : Array Value := ((tabL i).map (Value.int .u16)).toArray
theorem tab0 : tabC 0 = #[.int .u16 0, .int .u16 0, .int .u16 0, .int .u16 0, .int .u16 0, .int .u16 0, .int .u16 0, .int .u16 0, .int .u16 0, .int .u16 0, .int .u16 0, .int .u16 0, .int .u16 0, .int .u16 0, .int .u16 0, .int .u16 0] := by
  have h : tabL 0 = [0, 0, 0, 0, 0, 0, 0, 0, 0, 0, 0, 0, 0, 0, 0, 0] := by decide +kernel
  rw [tabC, h]
  rfl
theorem tab16 : tabC 16 = #[.int .u16 0, .int .u16 4129, .int .u16 8258, .int .u16 12387, .int .u16 16516, .int .u16 20645, .int .u16 24774, .int .u16 28903, .int .u16 33032, .int .u16 37161, .int .u16 41290, .int .u16 45419, .int .u16 49548, .int .u16 53677, .int .u16 57806, .int .u16 61935] := by
  have h : tabL 16 = [0, 4129, 8258, 12387, 16516, 20645, 24774, 28903, 33032, 37161, 41290, 45419, 49548, 53677, 57806, 61935] := by decide +kernel
  rw [tabC, h]
  rfl
theorem tabL_set : ∀ i : Fin 16, (tabL i.1).set i.1 (tabE i.1) = tabL (i.1 + 1) := by decide +kernel
theorem tabL_length (i : Nat) : (tabL i).length = 16 := by simp [tabL]
theorem tab_set {i : Nat} (h : i < 16) : (tabC i).setIfInBounds i (.int .u16 (shs 4 ((i : Int) * 4096))) = tabC (i + 1) := by
  have h1 := tabL_set ⟨i, h⟩
  rw [tabC, tabC, ← h1, List.setIfInBounds_toArray, List.map_set]
  rfl
theorem tab_get {i : Nat} (j : Nat) (h : j < 16) : ∃ v : Int, (tabC i)[j]? = some (.int .u16 v) := by
  refine ⟨(tabL i)[j]'(by rw [tabL_length]; exact h), ?_⟩
  rw [tabC, List.getElem?_toArray, List.getElem?_map, List.getElem?_eq_getElem (by rw [tabL_length]; exact h)]
  rfl
theorem set_new (w : World) (A : Obj) (c : Array Value) (t m i : Nat) (v : Value) : (((w.alloc A).alloc (.cells c t)).drewN m).setCell ⟨w.heap.size + 1, i, none⟩ v = ((w.alloc A).alloc (.cells (c.setIfInBounds i v) t)).drewN m := by
  have h := World.setCell_alloc_at (w := w.alloc A) c t (w.heap.size + 1) i v (by simp)
  rw [← h]
  rfl
theorem tab_block {W : World} {g : Nat} (h : W.heap[g]? = some (.cells #[.int .u16 0, .int .u16 0, .int .u16 0, .int .u16 0, .int .u16 0, .int .u16 0, .int .u16 0, .int .u16 0, .int .u16 0, .int .u16 0, .int .u16 0, .int .u16 0, .int .u16 0, .int .u16 0, .int .u16 0, .int .u16 0] 76 (0, 0))) : ((((((((((((((((W.setCell ⟨g, 0, none⟩ (.int .u16 0)).setCell ⟨g, 1, none⟩ (.int .u16 4129)).setCell ⟨g, 2, none⟩ (.int .u16 8258)).setCell ⟨g, 3, none⟩ (.int .u16 12387)).setCell ⟨g, 4, none⟩ (.int .u16 16516)).setCell ⟨g, 5, none⟩ (.int .u16 20645)).setCell ⟨g, 6, none⟩ (.int .u16 24774)).setCell ⟨g, 7, none⟩ (.int .u16 28903)).setCell ⟨g, 8, none⟩ (.int .u16 33032)).setCell ⟨g, 9, none⟩ (.int .u16 37161)).setCell ⟨g, 10, none⟩ (.int .u16 41290)).setCell ⟨g, 11, none⟩ (.int .u16 45419)).setCell ⟨g, 12, none⟩ (.int .u16 49548)).setCell ⟨g, 13, none⟩ (.int .u16 53677)).setCell ⟨g, 14, none⟩ (.int .u16 57806)).setCell ⟨g, 15, none⟩ (.int .u16 61935)).heap[g]? = some (.cells #[.int .u16 0, .int .u16 4129, .int .u16 8258, .int .u16 12387, .int .u16 16516, .int .u16 20645, .int .u16 24774, .int .u16 28903, .int .u16 33032, .int .u16 37161, .int .u16 41290, .int .u16 45419, .int .u16 49548, .int .u16 53677, .int .u16 57806, .int .u16 61935] 76 (0, 0)) := by
  have h1 := blk_set (blk_set (blk_set (blk_set (blk_set (blk_set (blk_set (blk_set (blk_set (blk_set (blk_set (blk_set (blk_set (blk_set (blk_set (blk_set h 0 (.int .u16 0)) 1 (.int .u16 4129)) 2 (.int .u16 8258)) 3 (.int .u16 12387)) 4 (.int .u16 16516)) 5 (.int .u16 20645)) 6 (.int .u16 24774)) 7 (.int .u16 28903)) 8 (.int .u16 33032)) 9 (.int .u16 37161)) 10 (.int .u16 41290)) 11 (.int .u16 45419)) 12 (.int .u16 49548)) 13 (.int .u16 53677)) 14 (.int .u16 57806)) 15 (.int .u16 61935)
  simpa using h1
theorem tab_below {w W : World} {g : Nat} (h : Below w.heap.size w W) (hg : w.heap.size ≤ g) : Below w.heap.size w ((((((((((((((((W.setCell ⟨g, 0, none⟩ (.int .u16 0)).setCell ⟨g, 1, none⟩ (.int .u16 4129)).setCell ⟨g, 2, none⟩ (.int .u16 8258)).setCell ⟨g, 3, none⟩ (.int .u16 12387)).setCell ⟨g, 4, none⟩ (.int .u16 16516)).setCell ⟨g, 5, none⟩ (.int .u16 20645)).setCell ⟨g, 6, none⟩ (.int .u16 24774)).setCell ⟨g, 7, none⟩ (.int .u16 28903)).setCell ⟨g, 8, none⟩ (.int .u16 33032)).setCell ⟨g, 9, none⟩ (.int .u16 37161)).setCell ⟨g, 10, none⟩ (.int .u16 41290)).setCell ⟨g, 11, none⟩ (.int .u16 45419)).setCell ⟨g, 12, none⟩ (.int .u16 49548)).setCell ⟨g, 13, none⟩ (.int .u16 53677)).setCell ⟨g, 14, none⟩ (.int .u16 57806)).setCell ⟨g, 15, none⟩ (.int .u16 61935)) := below_set (below_set (below_set (below_set (below_set (below_set (below_set (below_set (below_set (below_set (below_set (below_set (below_set (below_set (below_set (below_set h hg) hg) hg) hg) hg) hg) hg) hg) hg) hg) hg) hg) hg) hg) hg) hg
set_option maxHeartbeats 400000 in
theorem sumTable_any (w : World) : Calls Try.prog 50 #[] w fun e w' => e = .returned (.agg #[.int .u16 0, .int .u16 4129, .int .u16 8258, .int .u16 12387, .int .u16 16516, .int .u16 20645, .int .u16 24774, .int .u16 28903, .int .u16 33032, .int .u16 37161, .int .u16 41290, .int .u16 45419, .int .u16 49548, .int .u16 53677, .int .u16 57806, .int .u16 61935]) ∧ Below w.heap.size w w' := by
  go_enter Try.func50, Try.ntmps50
  go_wp2
  go_loopw [4] (fun v4 wr => ∃ (i n : Nat), i ≤ 16 ∧ v4 = .int .i64 i ∧ wr = ((w.alloc (.cells (tabC 0) 76)).alloc (.cells (tabC i) 76)).drewN n) (fun v4 _ => 16 - (intOf v4).toNat)
  case atStart => exact ⟨0, 0, by decide, rfl, by rw [tab0]; rfl⟩
  case round =>
    obtain ⟨i, n, hi, rfl, rfl⟩ := hrel
    by_cases hlt : i < 16
    · have hset := tab_set hlt
      obtain ⟨c0, hget⟩ := tab_get (i := i) i hlt
      have hb : decide ((i : Int) < 16) = true := decide_eq_true (by omega)
      go_wp2
      go_loopw [3, 10] (fun v3 v10 wr => ∃ (k m : Nat), k ≤ 4 ∧ v10 = .int .i64 k ∧ v3 = .int .u16 (shs k ((i : Int) * 4096)) ∧ wr = ((w.alloc (.cells (tabC 0) 76)).alloc (.cells (tabC i) 76)).drewN m) (fun _ v10 _ => 4 - (intOf v10).toNat)
      case atStart => exact ⟨0, n, by decide, rfl, rfl, rfl⟩
      case round =>
        obtain ⟨k, m, hk, rfl, rfl, rfl⟩ := hrel
        by_cases hlt2 : k < 4
        · go_wp2_with (go_at_call 58; refine (shift_any _ _).mono ?_; rintro e w' ⟨rfl, ⟨nd, rfl⟩⟩)
          go_roundw
          case rel => exact ⟨k + 1, m + nd, by omega, by go_num, rfl, by simp⟩
          case measure => simp [intOf]; omega
        · obtain rfl : k = 4 := by omega
          go_wp2
          go_roundw
          case rel => exact ⟨i + 1, m, by omega, by go_num, by rw [← hset]; exact set_new _ _ _ _ _ _ _⟩
          case measure => simp [intOf]; omega
    · obtain rfl : i = 16 := by omega
      rw [tab16, tab0]
      go_wp2
      have hW0 : (((w.alloc (.cells #[.int .u16 0, .int .u16 0, .int .u16 0, .int .u16 0, .int .u16 0, .int .u16 0, .int .u16 0, .int .u16 0, .int .u16 0, .int .u16 0, .int .u16 0, .int .u16 0, .int .u16 0, .int .u16 0, .int .u16 0, .int .u16 0] 76)).alloc (.cells #[.int .u16 0, .int .u16 4129, .int .u16 8258, .int .u16 12387, .int .u16 16516, .int .u16 20645, .int .u16 24774, .int .u16 28903, .int .u16 33032, .int .u16 37161, .int .u16 41290, .int .u16 45419, .int .u16 49548, .int .u16 53677, .int .u16 57806, .int .u16 61935] 76)).drewN n).heap[w.heap.size]? = some (.cells #[.int .u16 0, .int .u16 0, .int .u16 0, .int .u16 0, .int .u16 0, .int .u16 0, .int .u16 0, .int .u16 0, .int .u16 0, .int .u16 0, .int .u16 0, .int .u16 0, .int .u16 0, .int .u16 0, .int .u16 0, .int .u16 0] 76 (0, 0)) := heap_alloc2_old _ _ _
      have hW1 : Below w.heap.size w (((w.alloc (.cells #[.int .u16 0, .int .u16 0, .int .u16 0, .int .u16 0, .int .u16 0, .int .u16 0, .int .u16 0, .int .u16 0, .int .u16 0, .int .u16 0, .int .u16 0, .int .u16 0, .int .u16 0, .int .u16 0, .int .u16 0, .int .u16 0] 76)).alloc (.cells #[.int .u16 0, .int .u16 4129, .int .u16 8258, .int .u16 12387, .int .u16 16516, .int .u16 20645, .int .u16 24774, .int .u16 28903, .int .u16 33032, .int .u16 37161, .int .u16 41290, .int .u16 45419, .int .u16 49548, .int .u16 53677, .int .u16 57806, .int .u16 61935] 76)).drewN n) := pw_below_drewN (below_alloc (below_alloc (Below.refl _ _) _) _) _
      generalize (((w.alloc (.cells #[.int .u16 0, .int .u16 0, .int .u16 0, .int .u16 0, .int .u16 0, .int .u16 0, .int .u16 0, .int .u16 0, .int .u16 0, .int .u16 0, .int .u16 0, .int .u16 0, .int .u16 0, .int .u16 0, .int .u16 0, .int .u16 0] 76)).alloc (.cells #[.int .u16 0, .int .u16 4129, .int .u16 8258, .int .u16 12387, .int .u16 16516, .int .u16 20645, .int .u16 24774, .int .u16 28903, .int .u16 33032, .int .u16 37161, .int .u16 41290, .int .u16 45419, .int .u16 49548, .int .u16 53677, .int .u16 57806, .int .u16 61935] 76)).drewN n) = W0 at hW0 hW1 ⊢
      refine bodyPost_ret (v := .agg #[.int .u16 0, .int .u16 4129, .int .u16 8258, .int .u16 12387, .int .u16 16516, .int .u16 20645, .int .u16 24774, .int .u16 28903, .int .u16 33032, .int .u16 37161, .int .u16 41290, .int .u16 45419, .int .u16 49548, .int .u16 53677, .int .u16 57806, .int .u16 61935]) (results_cell_row (fn := Try.f50) rfl _ _ w.heap.size 76 #[.int .u16 0, .int .u16 4129, .int .u16 8258, .int .u16 12387, .int .u16 16516, .int .u16 20645, .int .u16 24774, .int .u16 28903, .int .u16 33032, .int .u16 37161, .int .u16 41290, .int .u16 45419, .int .u16 49548, .int .u16 53677, .int .u16 57806, .int .u16 61935] (0, 0) _ rfl ?_ Try.underlying76 rfl (by kernel_rfl)) rfl ⟨rfl, ?_⟩
      · exact tab_block hW0
      · exact tab_below hW1 (Nat.le_refl _)

theorem idx_fin : ∀ (a b : Fin 16), 0 ≤ bits .xor .u8 (a.1 : Int) (b.1 : Int) ∧ bits .xor .u8 (a.1 : Int) (b.1 : Int) < 16 := by decide +kernel
/-- Half a byte more, by the table. -/
def halfI (s b : Int) : Int := bits .xor .u16 (IntKind.u16.wrap (s * 16)) (tabE (bits .xor .u8 (s / 4096) b).toNat)
theorem idx_at {s b : Int} (h0 : 0 ≤ s) (h1 : s < 65536) (hb0 : 0 ≤ b) (hb1 : b < 16) : 0 ≤ bits .xor .u8 (s / 4096) b ∧ bits .xor .u8 (s / 4096) b < 16 := by
  have h := idx_fin ⟨(s / 4096).toNat, by omega⟩ ⟨b.toNat, by omega⟩
  have e1 : (((s / 4096).toNat : Nat) : Int) = s / 4096 := by omega
  have e2 : ((b.toNat : Nat) : Int) = b := by omega
  simp only [e1, e2] at h
  exact h
theorem tab_cell {w : World} {g : Nat} (h : w.heap[g]? = some (.cells (#[.int .u16 0, .int .u16 4129, .int .u16 8258, .int .u16 12387, .int .u16 16516, .int .u16 20645, .int .u16 24774, .int .u16 28903, .int .u16 33032, .int .u16 37161, .int .u16 41290, .int .u16 45419, .int .u16 49548, .int .u16 53677, .int .u16 57806, .int .u16 61935] : Array Value) 76 (0, 0))) (i : Nat) (hi : i < 16) : w.cell? ⟨g, i, none⟩ = some (.int .u16 (tabE i)) := by
  rw [blk_cell h, ← tab16, tabC, List.getElem?_toArray, List.getElem?_map, tabL, List.getElem?_map, List.getElem?_range hi]
  simp [hi]
set_option maxHeartbeats 400000 in
theorem half_any (s b : Int) (g : Nat) (w : World) (h0 : 0 ≤ s) (h1 : s < 65536) (hb0 : 0 ≤ b) (hb1 : b < 16) (hg : w.heap[g]? = some (.cells (#[.int .u16 0, .int .u16 4129, .int .u16 8258, .int .u16 12387, .int .u16 16516, .int .u16 20645, .int .u16 24774, .int .u16 28903, .int .u16 33032, .int .u16 37161, .int .u16 41290, .int .u16 45419, .int .u16 49548, .int .u16 53677, .int .u16 57806, .int .u16 61935] : Array Value) 76 (0, 0))) :
    Calls Try.prog 51 #[.int .u16 s, .int .u8 b, .pointer (some ⟨g, 0, none⟩)] w fun e w' => e = .returned (.int .u16 (halfI s b)) ∧ w' = w := by
  obtain ⟨i0, i1⟩ := idx_at h0 h1 hb0 hb1
  obtain ⟨i, hi⟩ : ∃ i : Nat, bits .xor .u8 (s / 4096) b = (i : Int) := ⟨(bits .xor .u8 (s / 4096) b).toNat, by omega⟩
  have hi16 : i < 16 := by omega
  have hc := tab_cell hg i hi16
  have HI : halfI s b = bits .xor .u16 (IntKind.u16.wrap (s * 16)) (tabE i) := by rw [halfI, hi, Int.toNat_natCast]
  have HH := Aside0.mk HI
  clear HI hg i0 i1
  go_enter Try.func51, Try.ntmps51
  go_wp2
  go_ret
  exact ⟨by rw [HH.out]; rfl, rfl⟩
theorem wrap_u16_rng (x : Int) : 0 ≤ IntKind.u16.wrap x ∧ IntKind.u16.wrap x < 65536 := by
  have h : IntKind.u16.wrap x = x % 65536 := by simp [IntKind.wrap, IntKind.bits, IntKind.signed]
  omega
theorem half_rng (s b : Int) : 0 ≤ halfI s b ∧ halfI s b < 65536 := wrap_u16_rng _
/-- One byte more, by the table. -/
def byteI (s v : Int) : Int := halfI (halfI s (v / 16)) (v % 16)
/-- The sum behind n bytes of a text. -/
def foldT (t : ByteArray) : Nat → Int
  | 0 => 65535
  | n + 1 => byteI (foldT t n) (bt t n)
theorem foldT_rng (t : ByteArray) (n : Nat) : 0 ≤ foldT t n ∧ foldT t n < 65536 := by
  cases n with
  | zero => exact ⟨(by decide : (0 : Int) ≤ 65535), (by decide : (65535 : Int) < 65536)⟩
  | succ n => exact half_rng _ _
set_option maxHeartbeats 1000000 in
theorem over_any (t : ByteArray) (w : World) (hs : t.size ≤ 9223372036854775807) :
    Calls Try.prog 31 #[.int .u16 65535, .string t] w fun e w' => e = .returned (.int .u16 (foldT t t.size)) ∧ Below w.heap.size w w' := by
  go_enter Try.func31, Try.ntmps31
  go_wp2_with (go_at_call 50; refine (sumTable_any _).mono ?_; rintro e w1 ⟨rfl, hb1⟩)
  have hT : (w1.alloc (.cells (#[.int .u16 0, .int .u16 4129, .int .u16 8258, .int .u16 12387, .int .u16 16516, .int .u16 20645, .int .u16 24774, .int .u16 28903, .int .u16 33032, .int .u16 37161, .int .u16 41290, .int .u16 45419, .int .u16 49548, .int .u16 53677, .int .u16 57806, .int .u16 61935] : Array Value) 76)).heap[w1.heap.size]? = some (.cells (#[.int .u16 0, .int .u16 4129, .int .u16 8258, .int .u16 12387, .int .u16 16516, .int .u16 20645, .int .u16 24774, .int .u16 28903, .int .u16 33032, .int .u16 37161, .int .u16 41290, .int .u16 45419, .int .u16 49548, .int .u16 53677, .int .u16 57806, .int .u16 61935] : Array Value) 76 (0, 0)) := heap_alloc_new _ _
  have hB : Below w.heap.size w (w1.alloc (.cells (#[.int .u16 0, .int .u16 4129, .int .u16 8258, .int .u16 12387, .int .u16 16516, .int .u16 20645, .int .u16 24774, .int .u16 28903, .int .u16 33032, .int .u16 37161, .int .u16 41290, .int .u16 45419, .int .u16 49548, .int .u16 53677, .int .u16 57806, .int .u16 61935] : Array Value) 76)) := hb1.alloc hb1.size _
  generalize (w1.alloc (.cells (#[.int .u16 0, .int .u16 4129, .int .u16 8258, .int .u16 12387, .int .u16 16516, .int .u16 20645, .int .u16 24774, .int .u16 28903, .int .u16 33032, .int .u16 37161, .int .u16 41290, .int .u16 45419, .int .u16 49548, .int .u16 53677, .int .u16 57806, .int .u16 61935] : Array Value) 76)) = W0 at hT hB ⊢
  go_loopw [0, 6] (fun v0 v6 wr => ∃ (k : Nat), k ≤ t.size ∧ v6 = .int .i64 k ∧ v0 = .int .u16 (foldT t k) ∧ wr.heap[w1.heap.size]? = some (.cells (#[.int .u16 0, .int .u16 4129, .int .u16 8258, .int .u16 12387, .int .u16 16516, .int .u16 20645, .int .u16 24774, .int .u16 28903, .int .u16 33032, .int .u16 37161, .int .u16 41290, .int .u16 45419, .int .u16 49548, .int .u16 53677, .int .u16 57806, .int .u16 61935] : Array Value) 76 (0, 0)) ∧ Below w.heap.size w wr) (fun _ v6 _ => t.size - (intOf v6).toNat)
  case atStart => exact ⟨0, Nat.zero_le _, rfl, rfl, hT, hB⟩
  case round =>
    clear hT hB
    obtain ⟨k, hk, rfl, rfl, hT0, hB⟩ := hrel
    have hT := Aside0.mk hT0
    clear hT0
    by_cases hlt : k < t.size
    · have hr := foldT_rng t k
      have hv := bt_range t (k : Int)
      have hx : ∀ h : k < t.size, ((t[k]'h).toNat : Int) = bt t (k : Int) := bt_at t (k : Int)

      have hh := half_rng (foldT t k) (bt t (k : Int) / 16)
      go_wp2
      go_quiet ((go_at_call 51; go_loud (refine Calls.quiet_of_same (half_any _ _ _ _ (by omega) (by omega) (by omega) (by omega) hT.out))))
      go_wp2
      go_roundw
      case rel => exact ⟨k + 1, by omega, rfl, rfl, hT.out, pw_below_drewN hB _⟩
      case measure => simp [intOf]; omega
    · obtain rfl : k = t.size := by omega
      go_wp2
      go_ret
      exact ⟨rfl, hB⟩
set_option maxHeartbeats 400000 in
theorem crc16_any (t : ByteArray) (w : World) (hs : t.size ≤ 9223372036854775807) :
    Calls Try.prog 11 #[.string t] w fun e w' => e = .returned (.int .i64 (foldT t t.size)) ∧ Below w.heap.size w w' := by
  obtain ⟨r, hr⟩ : ∃ r, r = foldT t t.size := ⟨_, rfl⟩
  have h0 : 0 ≤ r := by rw [hr]; exact (foldT_rng t t.size).1
  have h1 : r ≤ 65535 := by have := (foldT_rng t t.size).2; omega
  have HR := Aside0.mk hr
  clear hr
  go_enter Try.func11, Try.ntmps11
  go_wp2_with (go_at_call 31; refine (over_any _ _ hs).mono ?_; rintro e w1 ⟨rfl, hb1⟩; rw [← HR.out])
  go_ret
  exact ⟨by rw [← HR.out]; rfl, hb1⟩
end Go.Proofs.Ytgioeghaopoabaa.HCrc
