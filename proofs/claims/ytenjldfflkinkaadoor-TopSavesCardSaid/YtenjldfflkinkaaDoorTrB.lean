/- The texts Fx0, Fx1, FGSavA, FGSavB, FGSavC, FGSavD, FGSavE, FGSavF, FGSavG, FGSavH, FGSavI, FGSavJ, FGSavK, FGSavL, FGSavM, FGSavN, FGSavO, FGSavP, FGSavQ, FGSavR, in one: what the law does not need is left out. -/
import Derived.Test.YtenjldfflkinkaaDoorTrA
import Derived.Test.YtenjldfflkinkaaDoorProg
import Derived.RangeFuncRecord
import Derived.ChangeKeysEq
import Derived.Stop.BytesEq
import Derived.Deep.MidRow
import Derived.Laws.CopyOwn
import Derived.Great.BuildSlice
import Derived.RangeFuncNested
import Derived.RangeFuncBound
import Derived.RangeFuncCalls
import Derived.RangeFuncLeaves
import Derived.RangeFuncBox
import Derived.Shelf.Abstract
import Derived.OwnWalkIn
import Derived.TacticsInMore
import Derived.LoopNIn
import Derived.LoopIn
import Derived.OrdersIn
import Derived.Sort.CutIn
import Derived.Deep.WholeRow
set_option linter.unusedVariables false
set_option linter.unusedSimpArgs false
namespace Go.Proofs.YtenjldfflkinkaaDoor.F
open Go.RowKit Go.Proofs.YtenjldfflkinkaaDoorW.PrintWords Go.Proofs.YtenjldfflkinkaaDoorW.PrintLast Go.Proofs.YtenjldfflkinkaaDoorW.PrintMore
attribute [local go_sem] max2_int min2_int max_two min_two max_three min_three max_four min_four   -- for this text's walks alone
set_option linter.unusedVariables false
set_option linter.unusedSimpArgs false



theorem info5 : (Tryd.prog.info? 5).map (fun i => (i.zero, i.size, i.bytes)) = some (some (.int .u8 0), 1, 1) := by kernel_rfl
theorem info21 : (Tryd.prog.info? 21).map (fun i => (i.zero, i.size, i.bytes)) = some (some (.int .i32 0), 1, 4) := by kernel_rfl
-- the values' own types
/-! #### struct type 68 -/
end Go.Proofs.YtenjldfflkinkaaDoor.F

namespace Go.Proofs.YtenjldfflkinkaaDoor.F
open Go.RowKit Go.Proofs.YtenjldfflkinkaaDoorW.PrintWords Go.Proofs.YtenjldfflkinkaaDoorW.PrintLast Go.Proofs.YtenjldfflkinkaaDoorW.PrintMore
attribute [local go_sem] max2_int min2_int max_two min_two max_three min_three max_four min_four   -- for this text's walks alone
set_option linter.unusedVariables false
set_option linter.unusedSimpArgs false

-- NOT PRINTED: function 4 (disk_New)

-- NOT PRINTED: function 15 (disk_Disk_Sectors)

-- NOT PRINTED: function 33 (slots_Slots_begin)

/-! ### sums_four: function 83 -/
def sums_four.f (a0 : Int) : Option (Int × Int × Int × Int) := some ((a0) % 256, (a0 / 256) % 256, (a0 / 65536) % 256, (a0 / 16777216) % 256)
set_option maxHeartbeats 8000000 in
set_option maxRecDepth 100000 in
theorem sums_four.calls (a0 : Int) (r1 : Int) (r2 : Int) (r3 : Int) (r4 : Int) (w : World) (h : sums_four.f a0 = some (r1, r2, r3, r4)) :
    Calls Tryd.prog 83 #[.int .u32 a0] w fun e w' => e = .returned (.agg #[.int .u8 r1, .int .u8 r2, .int .u8 r3, .int .u8 r4]) ∧ Below w.heap.size w w' := by
  have hu140 := Tryd.underlying140
  have HB := Aside0.mk (Below.refl w.heap.size w)
  have H : (some ((a0) % 256, (a0 / 256) % 256, (a0 / 65536) % 256, (a0 / 16777216) % 256)) = some (r1, r2, r3, r4) := h
  clear h
  simp only [Option.some.injEq, Prod.mk.injEq] at H
  obtain ⟨rfl, rfl, rfl, rfl⟩ := H
  go_enter Tryd.func83, Tryd.ntmps83
  go_wp2_with (first | ((with_reducible refine gate_dst (N := 2) rfl ?_); refine box_event ?hg (N := 2) ?hd (cs := #[.int .u8 0, .int .u8 0, .int .u8 0, .int .u8 0]) (t := 140) ?hr ?_; (case hd => rfl); (case hg => rfl); (case hr => first | (go_simp; done) | (go_simp; rfl)); intro gb101 hg w2 hbox hb; have n0_ := Aside0.mk (below_step (by repeat (first | (with_reducible first | exact HB.out | apply below_alloc | apply pw_below_drewN | apply below_drew1) | exact HB.out)) hb); have n1_ := Aside0.mk (hbox); have n2_ := Aside0.mk ((by rw [hg]; exact (below_size (by repeat (first | (with_reducible first | exact HB.out | apply below_alloc | apply pw_below_drewN | apply below_drew1) | exact HB.out))) : w.heap.size ≤ gb101)); have n3_ := Aside0.mk ((by rw [hg]; exact (below_size (by repeat (first | (with_reducible first | exact HB.out | apply below_alloc | apply pw_below_drewN | apply below_drew1) | exact HB.out))) : w.heap.size ≤ gb101)); clear HB; have HB := n0_; have BK101 := n1_; have GW101 := n2_; have GE101 := n3_; clear n0_ n1_ n2_ n3_; clear hb hbox hg; have hcz3_0 : w2.cell? ⟨gb101, 0, none⟩ = some (.int .u8 0) := (blk_cell BK101.out 0).trans rfl; have hcz3_1 : w2.cell? ⟨gb101, 1, none⟩ = some (.int .u8 0) := (blk_cell BK101.out 1).trans rfl; have hcz3_2 : w2.cell? ⟨gb101, 2, none⟩ = some (.int .u8 0) := (blk_cell BK101.out 2).trans rfl; have hcz3_3 : w2.cell? ⟨gb101, 3, none⟩ = some (.int .u8 0) := (blk_cell BK101.out 3).trans rfl; have hfz3_0 := blk_frozen BK101.out 0; have hfz3_1 := blk_frozen BK101.out 1; have hfz3_2 := blk_frozen BK101.out 2; have hfz3_3 := blk_frozen BK101.out 3))
  refine bodyPost_ret (results_cell_row rfl _ _ gb101 140 #[.int .u8 ((a0) % 256), .int .u8 ((a0 / 256) % 256), .int .u8 ((a0 / 65536) % 256), .int .u8 ((a0 / 16777216) % 256)] (0, 0) _ rfl (by (with_reducible repeat (first | refine blk_drewN ?_ _ | refine blk_drew ?_ | refine blk_alloc ?_ _)); refine blk_put (cs := #[.int .u8 ((a0) % 256), .int .u8 ((a0 / 256) % 256), .int .u8 ((a0 / 65536) % 256), .int .u8 0]) ?_ 3 _ rfl; (with_reducible repeat (first | refine blk_drewN ?_ _ | refine blk_drew ?_ | refine blk_alloc ?_ _)); refine blk_put (cs := #[.int .u8 ((a0) % 256), .int .u8 ((a0 / 256) % 256), .int .u8 0, .int .u8 0]) ?_ 2 _ rfl; (with_reducible repeat (first | refine blk_drewN ?_ _ | refine blk_drew ?_ | refine blk_alloc ?_ _)); refine blk_put (cs := #[.int .u8 ((a0) % 256), .int .u8 0, .int .u8 0, .int .u8 0]) ?_ 1 _ rfl; (with_reducible repeat (first | refine blk_drewN ?_ _ | refine blk_drew ?_ | refine blk_alloc ?_ _)); refine blk_put (cs := #[.int .u8 0, .int .u8 0, .int .u8 0, .int .u8 0]) ?_ 0 _ rfl; (with_reducible repeat (first | refine blk_drewN ?_ _ | refine blk_drew ?_ | refine blk_alloc ?_ _)); exact BK101.out) Tryd.underlying140 rfl (by kernel_rfl)) rfl ?_
  exact ⟨by first | rfl | (simp [errW_none, errW_some] <;> rfl) | (simp [*, errW_none, errW_some] <;> rfl), by repeat (first | (with_reducible first | exact HB.out | apply below_alloc | apply pw_below_drewN | apply below_drew1 | refine below_set ?_ GE101.out) | exact HB.out)⟩

-- NOT PRINTED: function 90 (sums_More)

-- NOT PRINTED: function 84 (sums_Crc)

-- NOT PRINTED: function 64 (sums_Seal)

/-! ### slots_four: function 68 -/
def slots_four.f (a0 : Int) : Option (List Int) := some (([(a0 / 16777216) % 256, (a0 / 65536) % 256, (a0 / 256) % 256, (a0) % 256] : List Int))
set_option maxHeartbeats 8000000 in
set_option maxRecDepth 100000 in
theorem slots_four.calls (a0 : Int) (r : List Int) (w : World) (h : slots_four.f a0 = some r) :
    Calls Tryd.prog 68 #[.int .i64 a0] w fun e w' => ∃ v0_ : Value, e = .returned (v0_) ∧ Kd.R (Kd.int .u8) 5 w' w.heap.size (fun _ => True) v0_ r ∧ Below w.heap.size w w' := by
  have HB := Aside0.mk (Below.refl w.heap.size w)
  have H : (some (([(a0 / 16777216) % 256, (a0 / 65536) % 256, (a0 / 256) % 256, (a0) % 256] : List Int))) = some r := h
  clear h
  obtain ⟨y102, hy102⟩ : ∃ y_ : List Int, y_ = (([(a0 / 16777216) % 256, (a0 / 65536) % 256, (a0 / 256) % 256, (a0) % 256] : List Int)) := ⟨_, rfl⟩
  replace H : (some y102) = some r := by first | (rw [hy102]; with_reducible exact H) | (have H2_ := (Option.bind_some _ _).symm.trans H; rw [hy102]; with_reducible exact H2_) | (have H2_ := (Option.bind_some _ _).symm.trans H; with_reducible exact H2_) | with_reducible exact H | (rw [hy102]; exact H) | exact H
  have Ny102 := Aside0.mk hy102
  clear hy102
  obtain rfl := Option.some.inj H
  go_enter Tryd.func68, Tryd.ntmps68
  go_wp2_with (first | ((with_reducible refine gate_dst (N := 14) rfl ?_); refine Kd.R_lit (Kd.int .u8) _ 5 ?hg (N := 14) ?hd (xs := ([(a0 / 16777216) % 256, (a0 / 65536) % 256, (a0 / 256) % 256, (a0) % 256] : List Int)) (inner := [.int .u8 ((a0 / 16777216) % 256), .int .u8 ((a0 / 65536) % 256), .int .u8 ((a0 / 256) % 256), .int .u8 ((a0) % 256)]) (ok := fun _ => True) (okp := fun _ => True) ?hr ?hp (fun _ hk => hk) trivial (Below.refl _ _) (Nat.le_refl _) (by simp) ?_; (case hd => rfl); (case hg => rfl); (case hr => first | (go_simp; done) | (go_simp; rfl)); (case hp => exact (Reps.one (show Kd.M (Kd.int .u8) _ _ _ ((a0 / 16777216) % 256) [.int .u8 ((a0 / 16777216) % 256)] from rfl) (Reps.one (show Kd.M (Kd.int .u8) _ _ _ ((a0 / 65536) % 256) [.int .u8 ((a0 / 65536) % 256)] from rfl) (Reps.one (show Kd.M (Kd.int .u8) _ _ _ ((a0 / 256) % 256) [.int .u8 ((a0 / 256) % 256)] from rfl) (Reps.one (show Kd.M (Kd.int .u8) _ _ _ ((a0) % 256) [.int .u8 ((a0) % 256)] from rfl) (Reps.none _ _)))))); intro v103 w2 ho3 hb hg_ hnew_; clear hg_ hnew_; (first | rw [← Ny102.out] at ho3 | (simp only [Int.reduceToNat] at ho3; rw [← Ny102.out] at ho3)); have n0_ := Aside0.mk (Kd.R_lower ho3 (below_size (by repeat (first | (with_reducible first | exact HB.out | apply below_alloc | apply pw_below_drewN | apply below_drew1) | exact HB.out)))); have n1_ := Aside0.mk (below_step (by repeat (first | (with_reducible first | exact HB.out | apply below_alloc | apply pw_below_drewN | apply below_drew1) | exact HB.out)) hb); clear HB; have HO104 := n0_; have HB := n1_; clear n0_ n1_; clear hb ho3))
  go_ret
  exact ⟨_, by first | rfl | (simp [errW_none, errW_some] <;> rfl) | (simp [*, errW_none, errW_some] <;> rfl), by (with_reducible repeat (first | apply Kd.R_alloc | apply Kd.R_drewN | apply Kd.R_drew)); exact HO104.out, by repeat (first | (with_reducible first | exact HB.out | apply below_alloc | apply pw_below_drewN | apply below_drew1) | exact HB.out)⟩

-- NOT PRINTED: function 38 (slots_headed)

-- NOT PRINTED: function 39 (disk_Disk_all)

-- NOT PRINTED: function 65 (disk_Disk_wrong)

-- NOT PRINTED: function 66 (disk_Disk_down)

-- NOT PRINTED: function 48 (disk_Disk_Read)

/-! ### slots_number: function 49 -/
def slots_number.f (l0 : List Int) : Option (Int) := if 0 < (l0.length : Int) then (if 1 < (l0.length : Int) then (if 2 < (l0.length : Int) then (if 3 < (l0.length : Int) then (some (Go.bits .or .i64 (Go.bits .or .i64 (Go.bits .or .i64 (wrap64 ((wrap64 (rd l0 0)) * 16777216)) (wrap64 ((wrap64 (rd l0 1)) * 65536))) (wrap64 ((wrap64 (rd l0 2)) * 256))) (wrap64 (rd l0 3)))) else (none)) else (none)) else (none)) else (none)
set_option maxHeartbeats 8000000 in
set_option maxRecDepth 100000 in
theorem slots_number.calls (A0 : Option Addr) (c0 : Nat) (l0 : List Int) (r : Int) (w : World) (hr0 : Kd.C (Kd.int .u8) w A0 l0.length l0) (hc0 : l0.length ≤ c0) (h : slots_number.f l0 = some r) :
    Calls Tryd.prog 49 #[.slice A0 l0.length c0] w fun e w' => e = .returned (.int .i64 r) ∧ Drawn0 w w' := by
  have HR0 := Aside0.mk hr0
  have HC0 := Aside0.mk hc0
  clear hr0 hc0
  have H : (if 0 < (l0.length : Int) then (if 1 < (l0.length : Int) then (if 2 < (l0.length : Int) then (if 3 < (l0.length : Int) then (some (Go.bits .or .i64 (Go.bits .or .i64 (Go.bits .or .i64 (wrap64 ((wrap64 (rd l0 0)) * 16777216)) (wrap64 ((wrap64 (rd l0 1)) * 65536))) (wrap64 ((wrap64 (rd l0 2)) * 256))) (wrap64 (rd l0 3)))) else (none)) else (none)) else (none)) else (none)) = some r := h
  clear h
  by_cases c2 : 0 < (l0.length : Int)
  · rw [if_pos c2] at H
    have c2b0 : decide (0 < (l0.length : Int)) = true := decide_eq_true c2
    have c2b1 : decide (0 < l0.length) = true := decide_eq_true (by omega)
    clear c2
    by_cases c3 : 1 < (l0.length : Int)
    · rw [if_pos c3] at H
      have c3b0 : decide (1 < (l0.length : Int)) = true := decide_eq_true c3
      have c3b1 : decide (1 < l0.length) = true := decide_eq_true (by omega)
      clear c3
      by_cases c4 : 2 < (l0.length : Int)
      · rw [if_pos c4] at H
        have c4b0 : decide (2 < (l0.length : Int)) = true := decide_eq_true c4
        have c4b1 : decide (2 < l0.length) = true := decide_eq_true (by omega)
        clear c4
        by_cases c5 : 3 < (l0.length : Int)
        · rw [if_pos c5] at H
          have c5b0 : decide (3 < (l0.length : Int)) = true := decide_eq_true c5
          have c5b1 : decide (3 < l0.length) = true := decide_eq_true (by omega)
          clear c5
          obtain rfl := Option.some.inj H
          have p123 : 0 ≤ (0 : Int) := (by omega)
          have q123 : 0 < (l0.length : Int) := of_decide_eq_true (by first | (with_reducible assumption) | assumption)
          obtain ⟨ad123, e123, hx123_0⟩ := Kd.at_int HR0.out 0 p123 q123
          cases e123
          have qi123 : (0 < l0.length) = True := eq_true (by omega)
          (try rw [show ((0 : Int)).toNat = 0 from rfl] at hx123_0)
          (try rw [Addr.add_zero'] at hx123_0)
          replace p123 := eq_true p123
          replace q123 := eq_true q123
          have p124 : 0 ≤ (1 : Int) := (by omega)
          have q124 : 1 < (l0.length : Int) := of_decide_eq_true (by first | (with_reducible assumption) | assumption)
          obtain ⟨ad124, e124, hx124_0⟩ := Kd.at_int HR0.out 1 p124 q124
          obtain rfl : ad123 = ad124 := (by injection e124)
          (try simp only [show (1 : Int).toNat = 1 from rfl, Nat.reduceMul, Nat.reduceEqDiff, Go.Addr.add, ↓reduceIte] at hx124_0)
          have qi124 : (1 < l0.length) = True := eq_true (by omega)
          (try rw [show ((1 : Int)).toNat = 1 from rfl] at hx124_0)
          replace p124 := eq_true p124
          replace q124 := eq_true q124
          have p125 : 0 ≤ (2 : Int) := (by omega)
          have q125 : 2 < (l0.length : Int) := of_decide_eq_true (by first | (with_reducible assumption) | assumption)
          obtain ⟨ad125, e125, hx125_0⟩ := Kd.at_int HR0.out 2 p125 q125
          obtain rfl : ad123 = ad125 := (by injection e125)
          (try simp only [show (2 : Int).toNat = 2 from rfl, Nat.reduceMul, Nat.reduceEqDiff, Go.Addr.add, ↓reduceIte] at hx125_0)
          have qi125 : (2 < l0.length) = True := eq_true (by omega)
          (try rw [show ((2 : Int)).toNat = 2 from rfl] at hx125_0)
          replace p125 := eq_true p125
          replace q125 := eq_true q125
          have p126 : 0 ≤ (3 : Int) := (by omega)
          have q126 : 3 < (l0.length : Int) := of_decide_eq_true (by first | (with_reducible assumption) | assumption)
          obtain ⟨ad126, e126, hx126_0⟩ := Kd.at_int HR0.out 3 p126 q126
          obtain rfl : ad123 = ad126 := (by injection e126)
          (try simp only [show (3 : Int).toNat = 3 from rfl, Nat.reduceMul, Nat.reduceEqDiff, Go.Addr.add, ↓reduceIte] at hx126_0)
          have qi126 : (3 < l0.length) = True := eq_true (by omega)
          (try rw [show ((3 : Int)).toNat = 3 from rfl] at hx126_0)
          replace p126 := eq_true p126
          replace q126 := eq_true q126
          go_enter Tryd.func49, Tryd.ntmps49
          go_wp2
          repeat (go_quiet (fail); try go_wp2)
          go_ret
          exact ⟨by first | rfl | (simp; done) | (simp [*]; done), by repeat (first | exact Drawn0.refl _ | apply Drawn0.step)⟩
        · rw [if_neg c5] at H
          exact absurd H (by simp)
      · rw [if_neg c4] at H
        exact absurd H (by simp)
    · rw [if_neg c3] at H
      exact absurd H (by simp)
  · rw [if_neg c2] at H
    exact absurd H (by simp)

/-! ### chunk_Count: function 50 -/
def chunk_Count.f (a0 : Int) : Option (Int) := if a0 < 1 then (some 0) else (some (wrap64 ((wrap64 (Int.tdiv (wrap64 (a0 - 1)) 54)) + 1)))
set_option maxHeartbeats 8000000 in
set_option maxRecDepth 100000 in
theorem chunk_Count.calls (a0 : Int) (r : Int) (w : World) (h : chunk_Count.f a0 = some r) :
    Calls Tryd.prog 50 #[.int .i64 a0] w fun e w' => e = .returned (.int .i64 r) ∧ Drawn0 w w' := by
  have H : (if a0 < 1 then (some 0) else (some (wrap64 ((wrap64 (Int.tdiv (wrap64 (a0 - 1)) 54)) + 1)))) = some r := h
  clear h
  by_cases c2 : a0 < 1
  · rw [if_pos c2] at H
    have c2b0 : decide (a0 < 1) = true := decide_eq_true c2
    clear c2
    obtain rfl := Option.some.inj H
    go_enter Tryd.func50, Tryd.ntmps50
    go_wp2
    go_ret
    exact ⟨by first | rfl | (simp; done) | (simp [*]; done), by repeat (first | exact Drawn0.refl _ | apply Drawn0.step)⟩
  · rw [if_neg c2] at H
    have c2b0 : decide (a0 < 1) = false := decide_eq_false c2
    clear c2
    obtain rfl := Option.some.inj H
    go_enter Tryd.func50, Tryd.ntmps50
    go_wp2
    go_ret
    exact ⟨by first | rfl | (simp; done) | (simp [*]; done), by repeat (first | exact Drawn0.refl _ | apply Drawn0.step)⟩

-- NOT PRINTED: function 63 (chunk_headed)

-- NOT PRINTED: function 86 (sums_Open)

-- NOT PRINTED: function 74 (chunk_open)

-- NOT PRINTED: function 51 (chunk_Join)

-- NOT PRINTED: function 16 (slots_Slots_read)

-- NOT PRINTED: function 5 (slots_Open)

-- NOT PRINTED: function 55 (slices_Clone_rune_rune)

-- NOT PRINTED: function 20 (edit_Inverse)

-- NOT PRINTED: function 87 (slices_IndexFunc_rune_rune)

-- NOT PRINTED: function 75 (slices_ContainsFunc_rune_rune)

-- NOT PRINTED: function 56 (edit_scalars)

-- NOT PRINTED: function 54 (edit_spliced_rune)

-- NOT PRINTED: function 18 (edit_done)

-- NOT PRINTED: function 78 (api_Change)

/-! ### slices_Equal_rune_rune: function 89 -/
def slices_Equal_rune_rune.l0 : Nat → List Int → List Int → Int → Int → Option (Bool)
  | 0, _, _, _, _ => none
  | k + 1, x0, x1, x12, x13 => if x13 < x12 then (if 0 ≤ x13 then (if x13 < (x0.length : Int) then (if x13 < (x1.length : Int) then (if (rd x0 x13) = (rd x1 x13) then (slices_Equal_rune_rune.l0 k x0 x1 x12 (wrap64 (x13 + 1))) else (some false)) else (none)) else (none)) else (none)) else (some true)
def slices_Equal_rune_rune.f (k : Nat) (l0 : List Int) (l1 : List Int) : Option (Bool) := if (l0.length : Int) = (l1.length : Int) then (slices_Equal_rune_rune.l0 k l0 l1 (l0.length : Int) 0) else (some false)
theorem slices_Equal_rune_rune.mono_l : ∀ k, (∀ y0 y1 y2 y3, LeO (slices_Equal_rune_rune.l0 k y0 y1 y2 y3) (slices_Equal_rune_rune.l0 (k + 1) y0 y1 y2 y3))
  | 0 => fun _ _ _ _ r h => by simp [slices_Equal_rune_rune.l0] at h
  | k + 1 => by
    have ih0 := slices_Equal_rune_rune.mono_l k
    · intro y0 y1 y2 y3
      unfold slices_Equal_rune_rune.l0
      repeat' first
      | (with_reducible exact ih0 _ _ _ _)
      | (with_reducible exact LeO.refl _)
      | (with_reducible exact LeO.none _)
      | (with_reducible refine LeO.ite ?_ ?_)
      | (with_reducible refine LeO.bind ?_ (fun _ => ?_))
      | exact ih0 _ _ _ _
      | exact LeO.none _
      | refine LeO.ite ?_ ?_
      | refine LeO.bind ?_ (fun _ => ?_)
theorem slices_Equal_rune_rune.mono : ∀ a0 a1 k, LeO (slices_Equal_rune_rune.f k a0 a1) (slices_Equal_rune_rune.f (k + 1) a0 a1) := by
  intro a0 a1 k
  have ih0 := slices_Equal_rune_rune.mono_l k
  unfold slices_Equal_rune_rune.f
  repeat' first
      | (with_reducible exact ih0 _ _ _ _)
      | (with_reducible exact LeO.refl _)
      | (with_reducible exact LeO.none _)
      | (with_reducible refine LeO.ite ?_ ?_)
      | (with_reducible refine LeO.bind ?_ (fun _ => ?_))
      | exact ih0 _ _ _ _
      | exact LeO.none _
      | refine LeO.ite ?_ ?_
      | refine LeO.bind ?_ (fun _ => ?_)
set_option maxHeartbeats 8000000 in
set_option maxRecDepth 100000 in
theorem slices_Equal_rune_rune.calls (k : Nat) (A0 : Option Addr) (c0 : Nat) (l0 : List Int) (A1 : Option Addr) (c1 : Nat) (l1 : List Int) (r : Bool) (w : World) (hr0 : Kd.C (Kd.int .i32) w A0 l0.length l0) (hc0 : l0.length ≤ c0) (hr1 : Kd.C (Kd.int .i32) w A1 l1.length l1) (hc1 : l1.length ≤ c1) (h : slices_Equal_rune_rune.f k l0 l1 = some r) :
    Calls Tryd.prog 89 #[.slice A0 l0.length c0, .slice A1 l1.length c1] w fun e w' => e = .returned (.bool r) ∧ Drawn0 w w' := by
  have HR0 := Aside0.mk hr0
  have HC0 := Aside0.mk hc0
  clear hr0 hc0
  have HR1 := Aside0.mk hr1
  have HC1 := Aside0.mk hc1
  clear hr1 hc1
  have H : (if (l0.length : Int) = (l1.length : Int) then (slices_Equal_rune_rune.l0 k l0 l1 (l0.length : Int) 0) else (some false)) = some r := h
  clear h
  by_cases c3 : (l0.length : Int) = (l1.length : Int)
  · rw [if_pos c3] at H
    have c3b0 : ((l0.length : Int) == (l1.length : Int)) = true := beq_iff_eq.mpr c3
    have c3b1 : ((l0.length : Int) != (l1.length : Int)) = false := bne_eq_false_iff_eq.mpr c3
    have c3b2 : (l0.length == l1.length) = true := by first | simpa using c3 | (simp at c3 ⊢; omega)
    clear c3
    have H' := Aside0.mk H
    clear H
    go_enter Tryd.func89, Tryd.ntmps89
    go_wp2
    repeat (go_quiet (fail); try go_wp2)
    go_loopg [13] k (fun kq v13 w' => ∃ (x13_1 : Int), v13 = .int .i64 x13_1 ∧ Aside0 (slices_Equal_rune_rune.l0 kq l0 l1 (l0.length : Int) x13_1 = some r) ∧ Aside0 (kq ≤ k) ∧ Drawn0 w w')
    case atStart => exact ⟨(0), (by first | rfl | (simp; done) | (simp [*]; done)), H', ⟨Nat.le_refl _⟩, by repeat (first | exact Drawn0.refl _ | apply Drawn0.step)⟩
    case round =>
      clear H'
      try clear c1
      try clear p2
      try clear c3
      try clear c3b0
      try clear c3b1
      try clear c3b2
      obtain ⟨x13_1, rfl, HA, HK1, ⟨m1, rfl⟩⟩ := hrel
      cases gk with
      | zero => exact absurd HA.out (by simp [slices_Equal_rune_rune.l0])
      | succ k1 =>
        have H := HA.out
        clear HA
        simp only [slices_Equal_rune_rune.l0] at H
        by_cases c4 : x13_1 < (l0.length : Int)
        · rw [if_pos c4] at H
          have c4b0 : decide (x13_1 < (l0.length : Int)) = true := decide_eq_true c4
          clear c4
          by_cases c5 : 0 ≤ x13_1
          · rw [if_pos c5] at H
            have c5b0 : decide (0 ≤ x13_1) = true := decide_eq_true c5
            clear c5
            by_cases c6 : x13_1 < (l0.length : Int)
            · rw [if_pos c6] at H
              have c6b0 : decide (x13_1 < (l0.length : Int)) = true := decide_eq_true c6
              clear c6
              by_cases c7 : x13_1 < (l1.length : Int)
              · rw [if_pos c7] at H
                have c7b0 : decide (x13_1 < (l1.length : Int)) = true := decide_eq_true c7
                clear c7
                by_cases c8 : (rd l0 x13_1) = (rd l1 x13_1)
                · rw [if_pos c8] at H
                  have c8b0 : ((rd l0 x13_1) == (rd l1 x13_1)) = true := beq_iff_eq.mpr c8
                  have c8b1 : ((rd l0 x13_1) != (rd l1 x13_1)) = false := bne_eq_false_iff_eq.mpr c8
                  clear c8
                  have H' := Aside0.mk H
                  clear H
                  have p133 : 0 ≤ (x13_1 : Int) := of_decide_eq_true (by first | (with_reducible assumption) | assumption)
                  have q133 : x13_1 < (l0.length : Int) := of_decide_eq_true (by first | (with_reducible assumption) | assumption)
                  obtain ⟨ad133, e133, hx133_0⟩ := Kd.at_int HR0.out x13_1 p133 q133
                  cases e133
                  replace p133 := eq_true p133
                  replace q133 := eq_true q133
                  have p134 : 0 ≤ (x13_1 : Int) := of_decide_eq_true (by first | (with_reducible assumption) | assumption)
                  have q134 : x13_1 < (l1.length : Int) := of_decide_eq_true (by first | (with_reducible assumption) | assumption)
                  obtain ⟨ad134, e134, hx134_0⟩ := Kd.at_int HR1.out x13_1 p134 q134
                  cases e134
                  replace p134 := eq_true p134
                  replace q134 := eq_true q134
                  go_wp2
                  repeat (go_quiet (fail); try go_wp2)
                  go_roundg k1
                  case measure => have := HK1.out; omega
                  case rel => exact ⟨(wrap64 (x13_1 + 1)), (by first | rfl | (simp; done) | (simp [*]; done)), H', ⟨by have := HK1.out; omega⟩, by repeat (first | exact Drawn0.refl _ | apply Drawn0.step)⟩
                · rw [if_neg c8] at H
                  have c8b0 : ((rd l0 x13_1) == (rd l1 x13_1)) = false := beq_eq_false_iff_ne.mpr c8
                  have c8b1 : ((rd l0 x13_1) != (rd l1 x13_1)) = true := bne_iff_ne.mpr c8
                  obtain rfl := Option.some.inj H
                  have p133 : 0 ≤ (x13_1 : Int) := of_decide_eq_true (by first | (with_reducible assumption) | assumption)
                  have q133 : x13_1 < (l0.length : Int) := of_decide_eq_true (by first | (with_reducible assumption) | assumption)
                  obtain ⟨ad133, e133, hx133_0⟩ := Kd.at_int HR0.out x13_1 p133 q133
                  cases e133
                  replace p133 := eq_true p133
                  replace q133 := eq_true q133
                  have p134 : 0 ≤ (x13_1 : Int) := of_decide_eq_true (by first | (with_reducible assumption) | assumption)
                  have q134 : x13_1 < (l1.length : Int) := of_decide_eq_true (by first | (with_reducible assumption) | assumption)
                  obtain ⟨ad134, e134, hx134_0⟩ := Kd.at_int HR1.out x13_1 p134 q134
                  cases e134
                  replace p134 := eq_true p134
                  replace q134 := eq_true q134
                  go_wp2
                  repeat (go_quiet (fail); try go_wp2)
                  go_ret
                  exact ⟨by first | rfl | (simp; done) | (simp [*]; done), by repeat (first | exact Drawn0.refl _ | apply Drawn0.step)⟩
              · rw [if_neg c7] at H
                exact absurd H (by simp)
            · rw [if_neg c6] at H
              exact absurd H (by simp)
          · rw [if_neg c5] at H
            exact absurd H (by simp)
        · rw [if_neg c4] at H
          have c4b0 : decide (x13_1 < (l0.length : Int)) = false := decide_eq_false c4
          clear c4
          obtain rfl := Option.some.inj H
          go_wp2
          repeat (go_quiet (fail); try go_wp2)
          go_ret
          exact ⟨by first | rfl | (simp; done) | (simp [*]; done), by repeat (first | exact Drawn0.refl _ | apply Drawn0.step)⟩
  · rw [if_neg c3] at H
    have c3b0 : ((l0.length : Int) == (l1.length : Int)) = false := beq_eq_false_iff_ne.mpr c3
    have c3b1 : ((l0.length : Int) != (l1.length : Int)) = true := bne_iff_ne.mpr c3
    have c3b2 : (l0.length == l1.length) = false := by first | simpa using c3 | (simp at c3 ⊢; omega)
    obtain rfl := Option.some.inj H
    go_enter Tryd.func89, Tryd.ntmps89
    go_wp2
    repeat (go_quiet (fail); try go_wp2)
    go_ret
    exact ⟨by first | rfl | (simp; done) | (simp [*]; done), by repeat (first | exact Drawn0.refl _ | apply Drawn0.step)⟩

end Go.Proofs.YtenjldfflkinkaaDoor.F

namespace Go.Proofs.YtenjldfflkinkaaDoor.Sav
set_option linter.unusedVariables false
set_option linter.unusedSimpArgs false
open Go.RowKit Go.Proofs.YtenjldfflkinkaaDoor.F Go.Proofs.YtenjldfflkinkaaDoorW.PrintWords Go.Proofs.YtenjldfflkinkaaDoorW.PrintLast Go.Proofs.YtenjldfflkinkaaDoorW.PrintMore
/-- the table of sums.halves -/
def tab : List Int := [0, 498536548, 997073096, 651767980, 1994146192, 1802195444, 1303535960, 1342533948, 3988292384, 4027552580, 3604390888, 3412177804, 2607071920, 2262029012, 2685067896, 3183342108]
/-- the table stands where it was laid -/
def Hv (W : World) : Prop := ∀ j : Nat, j < 16 → W.cell? ⟨0, j, none⟩ = some (.int .u32 (tab.getD j 0))
theorem Hv.below {W W' : World} (h : Hv W) (hb : Below W.heap.size W W') : Hv W' := fun j hj => (hb.cell (World.block_lt_of_cell? W _ (h j hj))).trans (h j hj)
/-- bytes -/
def By (l : List Int) : Prop := ∀ x ∈ l, 0 ≤ x ∧ x < 256
def half (x : Int) : Int := bits BinOp.xor IntKind.u32 (x / 16) (tab.getD (bits BinOp.and IntKind.u32 x 15).toNat 0)
def step (x c : Int) : Int := half (half (bits BinOp.xor IntKind.u32 x (c % 4294967296)))
def moreF (s : Int) (l : List Int) : Int := bits BinOp.xor IntKind.u32 IntKind.u32.max (l.foldl step (bits BinOp.xor IntKind.u32 IntKind.u32.max s))
theorem u32_wrap (n : Int) (h0 : 0 ≤ n) (h1 : n < 2 ^ 32) : IntKind.u32.wrap n = n := by rw [IntKind.wrap_u32]; omega
theorem xor_u32 (x y : Int) : 0 ≤ bits .xor .u32 x y ∧ bits .xor .u32 x y < 4294967296 := by
  simp only [bits]
  rw [IntKind.wrap_u32]
  omega
theorem and15 {x : Int} (h0 : 0 ≤ x) (h1 : x < 4294967296) : 0 ≤ bits .and .u32 x 15 ∧ bits .and .u32 x 15 < 16 := by
  have := bits_mask .u32 32 (by decide) u32_wrap 4 (by decide) x h0 (by omega)
  have e : (2 : Int) ^ 4 - 1 = 15 := by decide
  rw [e] at this
  rw [this]
  omega
theorem byte_read {w : World} {A : Option Addr} {n : Nat} {zs : List Int} (h : Kd.C (Kd.int .u8) w A n zs) (hn : zs.length = n) (k : Nat) (hk : k < n) : ∃ ad, A = some ad ∧ w.cell? (ad.add k) = some (.int .u8 (zs.getD k 0)) := by
  subst hn
  obtain ⟨ad, c, e, _, hK, hc0⟩ := Kd.C_get h (0 : Int) (k : Int) (by omega) (by omega)
  obtain rfl : c = [.int .u8 (zs.getD k 0)] := hK
  have h1 : w.cell? (ad.add (k * 1 + 0)) = some (.int .u8 (zs.getD k 0)) := hc0 0 _ rfl
  exact ⟨ad, e, by simpa using h1⟩
theorem fold_take {l : List Int} {i : Nat} (h : i < l.length) (x0 : Int) : (l.take (i + 1)).foldl step x0 = step ((l.take i).foldl step x0) (l.getD i 0) := by
  rw [List.take_add_one, List.foldl_append, List.getElem?_eq_getElem h]
  simp [List.getD_eq_getElem?_getD, List.getElem?_eq_getElem h]
set_option maxRecDepth 100000 in
set_option maxHeartbeats 4000000 in
theorem More_calls {w : World} {A : Option Addr} {n c : Nat} {l : List Int} {s : Int} (H : Hv w) (hC : Kd.C (Kd.int .u8) w A n l) (hn : l.length = n) (hnb : n ≤ 1000000) :
    Calls Tryd.prog 90 #[.int .u32 s, .slice A n c] w fun e w' => e = .returned (.int .u32 (moreF s l)) ∧ w = w' := by
  have HC := Aside0.mk hC
  have HT := Aside0.mk H
  have HN := Aside0.mk hn
  clear hC H hn
  go_enter Tryd.func90, Tryd.ntmps90
  go_wp2
  obtain ⟨x0, hx0⟩ : ∃ x0, bits BinOp.xor IntKind.u32 IntKind.u32.max s = x0 := ⟨_, rfl⟩
  have hb0 := xor_u32 IntKind.u32.max s
  rw [hx0] at hb0 ⊢
  have HX0 := Aside0.mk hx0
  clear hx0
  go_loopw [0, 11] (fun v0 v11 wr => ∃ (i : Nat) (x : Int), v0 = .int .u32 x ∧ v11 = .int .i64 (i : Int) ∧ i ≤ n ∧ Aside0 (x = (l.take i).foldl step x0) ∧ (0 ≤ x ∧ x < 4294967296) ∧ w = wr) (fun _ v11 _ => n - (intOf v11).toNat)
  case atStart => exact ⟨0, x0, rfl, rfl, Nat.zero_le _, ⟨by rw [List.take_zero]; rfl⟩, hb0, rfl⟩
  case round =>
    obtain ⟨i, x, rfl, rfl, hi, HX, hxb, rfl⟩ := hrel
    by_cases hlt : i < n
    · have hlt' : (i : Int) < (n : Int) := by omega
      obtain ⟨ad, rfl, hcx⟩ := byte_read HC.out HN.out i hlt
      obtain ⟨v, hv⟩ : ∃ v, l.getD i 0 = v := ⟨_, rfl⟩
      rw [hv] at hcx
      have HV := Aside0.mk hv
      clear hv
      obtain ⟨y, hy⟩ : ∃ y, bits BinOp.xor IntKind.u32 x (v % 4294967296) = y := ⟨_, rfl⟩
      have hyb := xor_u32 x (v % 4294967296)
      rw [hy] at hyb
      obtain ⟨m, hm⟩ : ∃ m : Nat, bits BinOp.and IntKind.u32 y 15 = (m : Int) := ⟨(bits BinOp.and IntKind.u32 y 15).toNat, by have := and15 hyb.1 hyb.2; omega⟩
      have hm16 : m < 16 := by have := and15 hyb.1 hyb.2; omega
      have t1 := HT.out m hm16
      obtain ⟨u1, hu1⟩ : ∃ u1, tab.getD m 0 = u1 := ⟨_, rfl⟩
      rw [hu1] at t1
      obtain ⟨z, hz⟩ : ∃ z, bits BinOp.xor IntKind.u32 (y / 16) u1 = z := ⟨_, rfl⟩
      have hzb := xor_u32 (y / 16) u1
      rw [hz] at hzb
      obtain ⟨m2, hm2⟩ : ∃ m : Nat, bits BinOp.and IntKind.u32 z 15 = (m : Int) := ⟨(bits BinOp.and IntKind.u32 z 15).toNat, by have := and15 hzb.1 hzb.2; omega⟩
      have hm216 : m2 < 16 := by have := and15 hzb.1 hzb.2; omega
      have t2 := HT.out m2 hm216
      obtain ⟨u2, hu2⟩ : ∃ u2, tab.getD m2 0 = u2 := ⟨_, rfl⟩
      rw [hu2] at t2
      have hst : step x v = bits BinOp.xor IntKind.u32 (z / 16) u2 := by
        unfold step half
        rw [hy, hm, Int.toNat_natCast, hu1, hz, hm2, Int.toNat_natCast, hu2]
      have HST := Aside0.mk hst
      have hm3 : (m : Int) < 16 := by omega
      have hm4 : (m2 : Int) < 16 := by omega
      clear hst hu1 hu2
      go_wp2
      go_roundw
      case measure => simp [intOf]; omega
      case rel => exact ⟨i + 1, _, rfl, by go_num, by omega, ⟨by rw [fold_take (by rw [HN.out]; exact hlt), HV.out, ← HX.out, HST.out]⟩, xor_u32 _ _, trivial⟩
    · obtain rfl : i = n := by omega
      go_wp2
      go_ret
      have h1 := HX.out
      rw [List.take_of_length_le (by rw [HN.out]; omega)] at h1
      exact ⟨by rw [h1, ← HX0.out]; rfl, rfl⟩
theorem Crc_calls {w : World} {A : Option Addr} {n c : Nat} {l : List Int} (H : Hv w) (hC : Kd.C (Kd.int .u8) w A n l) (hn : l.length = n) (hnb : n ≤ 1000000) :
    Calls Tryd.prog 84 #[.slice A n c] w fun e w' => e = .returned (.int .u32 (moreF 0 l)) ∧ w = w' := by
  have CM := Aside0.mk (More_calls (c := c) (s := 0) H hC hn hnb)
  clear H hC hn
  go_enter Tryd.func84, Tryd.ntmps84
  go_wp2_with (go_at_call 90; (with_reducible refine CM.out.mono ?_); rintro e w1 ⟨rfl, rfl⟩)
  go_ret
  exact ⟨rfl, rfl⟩
end Go.Proofs.YtenjldfflkinkaaDoor.Sav

namespace Go.Proofs.YtenjldfflkinkaaDoor.Sav
set_option linter.unusedVariables false
set_option linter.unusedSimpArgs false
open Go.RowKit Go.Proofs.YtenjldfflkinkaaDoor.F Go.Proofs.YtenjldfflkinkaaDoorW.PrintWords Go.Proofs.YtenjldfflkinkaaDoorW.PrintLast Go.Proofs.YtenjldfflkinkaaDoorW.PrintMore
/-- a slice of bytes -/
structure Sb (W : World) (A : Option Addr) (n c : Nat) (l : List Int) : Prop where
  hC : Kd.C (Kd.int .u8) W A n l
  hn : l.length = n
  hc : n ≤ c
  hm : c ≤ 9223372036854775807
theorem Sb.below {W W' : World} {A : Option Addr} {n c : Nat} {l : List Int} (h : Sb W A n c l) (hb : Below W.heap.size W W') : Sb W' A n c l := ⟨Kd.C_below h.hC hb, h.hn, h.hc, h.hm⟩
/-- bytes of one's own -/
def GivesOb (l : List Int) (w : World) (e : Ending) (w' : World) : Prop := ∃ v : Value, e = .returned v ∧ Kd.R (Kd.int .u8) 5 w' w.heap.size (fun _ => True) v l ∧ Below w.heap.size w w'
/-- the four bytes of a sum -/
def four4 (s : Int) : List Int := [s % 256, s / 256 % 256, s / 65536 % 256, s / 16777216 % 256]
def crc4 (l : List Int) : List Int := four4 (moreF 0 l)
theorem new_cell {W : World} {cs : Array Value} {t j : Nat} : (W.alloc (.cells cs t)).cell? ⟨W.heap.size, j, none⟩ = cs[j]? := by
  simp only [World.cell?]
  rw [World.alloc_heap_new]
  rfl
theorem add_plain {g j : Nat} : (⟨g, 0, none⟩ : Addr).add j = ⟨g, j, none⟩ := by
  unfold Addr.add
  by_cases h : j = 0
  · subst h; rfl
  · rw [if_neg h]; simp
theorem C_lit {W : World} {g : Nat} {zs : List Int} (hz : zs.length ≤ 1000) (h : ∀ j, j < zs.length → W.cell? ⟨g, j, none⟩ = some (.int .u8 (zs.getD j 0))) : Kd.C (Kd.int .u8) W (some ⟨g, 0, none⟩) zs.length zs :=
  Kd.C_of_reads (d := (0 : Int)) (h1 := fun _ => rfl) ⟨rfl, by omega, fun _ => ⟨_, rfl, fun j hj => by rw [add_plain]; exact h j hj⟩⟩
theorem R_cap {w : World} {e base : Nat} {A : Option Addr} {n c : Nat} {xs : List Int} {ok : Nat → Prop} (h : Kd.R (Kd.int .u8) e w base ok (.slice A n c) xs) : c ≤ 9223372036854775807 := by
  obtain ⟨inner, ho⟩ := Kd.R_own h
  rcases ho.2 with ⟨h1, _⟩ | ⟨g, cap, cur, h1, _, _, _, h2, _⟩
  · injection h1 with _ _ h3
    omega
  · injection h1 with _ _ h3
    subst h3
    simpa [maxLen] using h2
theorem own_sb {w1 : World} {base : Nat} {v : Value} {l : List Int} (h : Kd.R (Kd.int .u8) 5 w1 base (fun _ => True) v l) : ∃ A c, v = .slice A l.length c ∧ Sb w1 A l.length c l := by
  obtain ⟨A, c, rfl⟩ := Kd.R_slice h
  exact ⟨A, c, rfl, (Kd.R_reads' h).2.2, rfl, (Kd.R_reads' h).2.1, R_cap h⟩
set_option maxRecDepth 100000 in
set_option maxHeartbeats 4000000 in
theorem Seal_calls {w : World} {A : Option Addr} {n c : Nat} {l : List Int} (H : Hv w) (h : Sb w A n c l) (hb : n ≤ 100000) :
    Calls Tryd.prog 64 #[.slice A n c] w (GivesOb (l ++ crc4 l) w) := by
  obtain ⟨i0, hin, hz0, hz1, hz2⟩ := info_parts info5
  obtain ⟨k, hk1⟩ : ∃ k : Nat, (n : Int) + 4 = (k : Int) := ⟨n + 4, by omega⟩
  have hk2 : k ≤ 2000000 := by omega
  obtain ⟨cur, hcur⟩ : ∃ cur, madeCells (Value.int .u8 0).cells (k * 1) = cur := ⟨_, rfl⟩
  have hcs : cur.size = k * 1 := by rw [← hcur, size_madeCells]
  have hmk : ∀ W : World, (Instr.makeSlice 40 (.int .i64 0) (.int .i64 (k : Int))).run Tryd.prog W = .ok (.slice (some ⟨W.heap.size, 0, none⟩) 0 k) (W.alloc (.cells cur 5)) := fun W => by
    have hr := run_make (P := Tryd.prog) W 40 5 i0 (.int .u8 0) Tryd.underlying40 hin hz0 .i64 .i64 0 (k : Int) (by omega) (by omega) (by rw [hz2]; omega) (by omega)
    rw [hz1, Int.toNat_natCast, hcur] at hr
    exact hr
  have HROW := Aside0.mk (fun W : World => (World.ownsRow_made W cur k (Nat.le_refl _) (by simp [maxLen]; omega) hcs : (W.alloc (.cells cur 5)).ownsRow W.heap.size 5 1 (.slice (some ⟨W.heap.size, 0, none⟩) 0 k) 0 []))
  have CC := Aside0.mk (Crc_calls (c := c) H h.hC h.hn (by omega))
  have SL := Aside0.mk h
  obtain ⟨s, hs⟩ : ∃ s, moreF 0 l = s := ⟨_, rfl⟩
  rw [hs] at CC
  have HSUM := Aside0.mk hs
  have C4 := Aside0.mk (fun W => sums_four.calls s _ _ _ _ W rfl)
  clear hin hz0 hz1 hz2 hcur hcs H h hs
  go_enter Tryd.func64, Tryd.ntmps64
  go_upto_region 3 with (first
    | (go_at_call 84; (with_reducible refine CC.out.mono ?_); rintro e w1 ⟨rfl, rfl⟩)
    | (go_at_call 83; (with_reducible refine (C4.out _).mono ?_); rintro e w2 ⟨rfl, hb2⟩; have B2 := Aside0.mk hb2; clear hb2))
  have q0 := fun (j : Nat) => new_cell (j := j) (W := w2) (cs := #[Value.int .u8 (s % 256), .int .u8 (s / 256 % 256), .int .u8 (s / 65536 % 256), .int .u8 (s / 16777216 % 256)]) (t := 140)
  obtain ⟨W3, hW3⟩ : ∃ W3, w2.alloc (.cells #[Value.int .u8 (s % 256), .int .u8 (s / 256 % 256), .int .u8 (s / 65536 % 256), .int .u8 (s / 16777216 % 256)] 140) = W3 := ⟨_, rfl⟩
  have hsz : w2.heap.size + 1 = W3.heap.size := by rw [← hW3, World.size_alloc]
  have hb3 : Below w2.heap.size w2 W3 := by rw [← hW3]; exact (Below.refl _ _).alloc (Nat.le_refl _) _
  rw [hW3] at q0 ⊢
  rw [hsz]
  have HQ : Aside0 (Kd.C (Kd.int .u8) W3 (some ⟨w2.heap.size, 0, none⟩) 4 (four4 s)) := ⟨C_lit (zs := four4 s) (by simp [four4]) (fun j hj => by
    rw [q0]
    match j, hj with
    | 0, _ => rfl
    | 1, _ => rfl
    | 2, _ => rfl
    | 3, _ => rfl)⟩
  have HROW3 := HROW.out W3
  have B3 := Aside0.mk (below_step B2.out hb3)
  have hg3 : w2.heap.size < W3.heap.size := by omega
  clear hW3 hsz hb3 q0
  generalize w2.heap.size = q3 at HQ hg3 ⊢
  have hb4 : Below W3.heap.size W3 (W3.alloc (.cells cur 5)) := (Below.refl _ _).alloc (Nat.le_refl _) _
  have hO0 : Kd.R (Kd.int .u8) 5 (W3.alloc (.cells cur 5)) W3.heap.size (fun _ => True) (.slice (some ⟨W3.heap.size, 0, none⟩) 0 k) [] := Kd.R_of_own (enc := Value.int .u8) (xs := []) HROW3 (fun _ _ => trivial)
  have HO := Aside0.mk (Kd.R_drew hO0)
  have HB := Aside0.mk (below_drew1 hb4)
  clear hb4 hO0 HROW3
  generalize hg : W3.heap.size = g at HO HB hg3 ⊢
  have HG := Aside0.mk hg
  refine start_ (n := 6) (S := fun w' => True) (ds := []) #[false, false, false, false, false, false] (by kernel_rfl) rfl rfl trivial (fun hHeld => ?_)
  generalize (W3.alloc (.cells cur 5)).drew = D at HO HB hHeld ⊢
  refine pure_ (i := 0) (N := some 12) (v := ?_) (a' := ?_) #[true, false, false, false, false, false] rfl rfl (by kernel_rfl) (fun _ _ _ h => h) (Or.inl ⟨by rfl, ?_⟩) ?_ ?_
  rotate_left
  · intro w'
    go_simp
    with_reducible rfl
  rotate_left
  · simp only [Act.put, List.setIfInBounds_toArray, List.set_cons_zero, List.set_cons_succ, i64_w, i32_w]
    rfl
  refine pure_ (i := 1) (N := some 13) (v := ?_) (a' := ?_) #[true, true, false, false, false, false] rfl rfl (by kernel_rfl) (fun _ _ _ h => h) (Or.inl ⟨by rfl, ?_⟩) ?_ ?_
  rotate_left
  · intro w'
    go_simp
    with_reducible rfl
  rotate_left
  · simp only [Act.put, List.setIfInBounds_toArray, List.set_cons_zero, List.set_cons_succ, i64_w, i32_w]
    rfl
  refine pure_ (i := 3) (N := some 15) (v := ?_) (a' := ?_) #[true, true, false, true, false, false] rfl rfl (by kernel_rfl) (fun _ _ _ h => h) (Or.inl ⟨by rfl, ?_⟩) ?_ ?_
  rotate_left
  · intro w'
    go_simp
    with_reducible rfl
  rotate_left
  · simp only [Act.put, List.setIfInBounds_toArray, List.set_cons_zero, List.set_cons_succ, i64_w, i32_w]
    rfl
  refine one_ (i := 2) (N := some 14) #[true, true, true, true, false, false] rfl rfl (by kernel_rfl) (by decide) (fun K hK => ?_)
  refine Kd.R_append_rows_step (Kd.int .u8) (w0 := W3) g (by rfl) (.tmp 12) (.tmp 13) 40 5 (.int .u8 0) 1 rfl Tryd.underlying40 info5 rfl (by decide) (by omega) (.slice (some ⟨g, 0, none⟩) 0 k) ([]) l _ _ _ (fun _ => True) (fun _ => False) rfl rfl HO.out (Kd.C_below SL.out.hC (below_step B3.out (by rw [HG.out]; exact HB.out))) (fun _ _ h => h) (fun _ h => h.elim) (fun _ _ => trivial) HB.out (by rw [← HG.out]; exact HB.out.size) (by have := SL.out.hn; simp; omega) ?_
  intro v6 w6 ho6 hb6 hg6 hn6
  have HO6 := Aside0.mk ho6
  have HB6 := Aside0.mk hb6
  clear hg6 hn6 ho6 hb6
  refine hK.out _ _ trivial (fun hHeld => ?_)
  clear hK K
  refine norm_ (a' := ?_) ?_ ?_
  rotate_left
  · show Act.put _ (some 14) _ = _
    simp only [Act.put, List.setIfInBounds_toArray, List.set_cons_zero, List.set_cons_succ, i64_w, i32_w]
    rfl
  refine one_ (i := 4) (N := some 16) #[true, true, true, true, true, false] rfl rfl (by kernel_rfl) (by decide) (fun K hK => ?_)
  refine Kd.R_append_rows_step (Kd.int .u8) (w0 := W3) g (by rfl) (.tmp 14) (.tmp 15) 40 5 (.int .u8 0) 1 rfl Tryd.underlying40 info5 rfl (by decide) (by omega) v6 ([] ++ l) (four4 s) _ _ _ (fun _ => True) (fun _ => False) rfl rfl HO6.out (Kd.C_below HQ.out (by rw [HG.out]; exact HB6.out)) (fun _ _ h => h) (fun _ h => h.elim) (fun _ _ => trivial) HB6.out (by rw [← HG.out]; exact HB6.out.size) (by have := SL.out.hn; simp [four4]; omega) ?_
  intro v7 w7 ho7 hb7 hg7 hn7
  have HO7 := Aside0.mk ho7
  have HB7 := Aside0.mk hb7
  clear hg7 hn7 ho7 hb7
  refine hK.out _ _ trivial (fun hHeld => ?_)
  clear hK K
  refine norm_ (a' := ?_) ?_ ?_
  rotate_left
  · show Act.put _ (some 16) _ = _
    simp only [Act.put, List.setIfInBounds_toArray, List.set_cons_zero, List.set_cons_succ, i64_w, i32_w]
    rfl
  refine pure_ (i := 5) (N := some 2) (v := ?_) (a' := ?_) #[true, true, true, true, true, true] rfl rfl (by kernel_rfl) (fun _ _ _ h => h) (Or.inl ⟨by rfl, ?_⟩) ?_ ?_
  rotate_left
  · intro w'
    go_simp
    with_reducible rfl
  rotate_left
  · simp only [Act.put, List.setIfInBounds_toArray, List.set_cons_zero, List.set_cons_succ, i64_w, i32_w]
    rfl
  refine done_ (by kernel_rfl) ?_
  try go_wp2
  have hbf := below_step B3.out (show Below W3.heap.size W3 w7 by rw [HG.out]; exact HB7.out)
  have hlo := Kd.R_lower HO7.out (show w.heap.size ≤ g by have h1 := B3.out.size; have h2 := HG.out; omega)
  go_ret
  have e : l ++ crc4 l = [] ++ l ++ four4 s := by unfold crc4; rw [HSUM.out]; rfl
  exact ⟨v7, rfl, by rw [e]; exact hlo, hbf⟩
end Go.Proofs.YtenjldfflkinkaaDoor.Sav

namespace Go.Proofs.YtenjldfflkinkaaDoor.Sav
set_option linter.unusedVariables false
set_option linter.unusedSimpArgs false
open Go.RowKit Go.Proofs.YtenjldfflkinkaaDoor.F Go.Proofs.YtenjldfflkinkaaDoorW.PrintWords Go.Proofs.YtenjldfflkinkaaDoorW.PrintLast Go.Proofs.YtenjldfflkinkaaDoorW.PrintMore
/-- a number's four bytes, the highest first -/
def big4 (n : Int) : List Int := [n / 16777216 % 256, n / 65536 % 256, n / 256 % 256, n % 256]
/-- a head's first 56 bytes -/
def headA (k epoch size : Int) : List Int := (((big4 epoch ++ [99, 108, 112, 104]) ++ [k % 256]) ++ big4 size) ++ List.replicate 43 0
def headB (k epoch size : Int) : List Int := (headA k epoch size ++ crc4 (headA k epoch size)) ++ big4 epoch
theorem headA_len (k epoch size : Int) : (headA k epoch size).length = 56 := by simp [headA, big4]
theorem headB_len (k epoch size : Int) : (headB k epoch size).length = 64 := by simp [headB, headA_len, crc4, four4, big4]
theorem four_R (a : Int) (w : World) : Calls Tryd.prog 68 #[.int .i64 a] w fun e w' => ∃ v0_ : Value, e = .returned (v0_) ∧ Kd.R (Kd.int .u8) 5 w' w.heap.size (fun _ => True) v0_ (big4 a) ∧ Below w.heap.size w w' := slots_four.calls a _ w rfl
theorem underS : Tryd.prog.underlying 9 = some .string := by kernel_rfl
/-- the string that a head bears -/
def clph : ByteArray := ⟨#[99, 108, 112, 104]⟩
theorem R_str {w1 : World} {base : Nat} {v : Value} {xs : List Int} (h : w1.ownsRow base 5 1 v (xs.length + clph.size) (encs (Value.int .u8) xs ++ Go.Lib.strCells clph)) : Kd.R (Kd.int .u8) 5 w1 base (fun _ => True) v (xs ++ [99, 108, 112, 104]) := by
  refine Kd.R_of_own (enc := Value.int .u8) ?_ (fun _ _ => trivial)
  have e1 : (xs ++ [99, 108, 112, 104]).length = xs.length + clph.size := by simp; rfl
  have e2 : encs (Value.int .u8) (xs ++ [99, 108, 112, 104]) = encs (Value.int .u8) xs ++ Go.Lib.strCells clph := by
    simp [encs]
    rfl
  rw [e1, e2]
  exact h
theorem str_step {ops : Array Oper} {rest : List Oper} {o : Oper} {a : Act} {Q : Exit → Act → World → Prop} {W : World} {base : Nat} {v : Value} {xs : List Int} (hg : o.guard = none) (s : Operand)
    (hop : o.op = .call { callee := .builtin .append, args := #[s, .const (.string clph)], argTypes := #[40, 9] }) (hs : a.eval s = v) (HO : Kd.R (Kd.int .u8) 5 W base (fun _ => True) v xs) (hb : base ≤ W.heap.size) (hl : xs.length ≤ 1000)
    (h : ∀ v' w', Kd.R (Kd.int .u8) 5 w' base (fun _ => True) v' (xs ++ [99, 108, 112, 104]) → W.grownBy w' v.ownBlock → wpList Tryd.prog ops Q rest (a.put o.dst v') w') : wpList Tryd.prog ops Q (o :: rest) a W := by
  obtain ⟨i0, hin, hz0, hz1, hz2⟩ := info_parts info5
  have hc : clph.size = 4 := by decide
  have ho : W.ownsRow base 5 1 v xs.length (encs (Value.int .u8) xs) := Kd.own_of_R (enc := Value.int .u8) (h1 := fun _ => rfl) HO
  refine Go.Lib.wpList_append_own_string W hg s (.const (.string clph)) 40 9 hop base 5 i0 Tryd.underlying40 underS hin hz0 hz1 hz2 v xs.length (encs (Value.int .u8) xs) hs ho clph rfl (by simp only [maxLen]; omega) (by omega) hb ?_
  intro v' w' h1 h2 _
  exact h v' w' (R_str h1) h2
theorem app_step {ops : Array Oper} {rest : List Oper} {o : Oper} {a : Act} {Q : Exit → Act → World → Prop} {w0 W : World} {base : Nat} {v : Value} {xs ys : List Int} {A : Option Addr} {m c : Nat} (hg : o.guard = none) (s x : Operand)
    (hop : o.op = .call { callee := .builtin .append, args := #[s, x], argTypes := #[40, 40] }) (hs : a.eval s = v) (hx : a.eval x = .slice A m c) (HO : Kd.R (Kd.int .u8) 5 W base (fun _ => True) v xs) (HR : Kd.C (Kd.int .u8) W A m ys) (hB : Below base w0 W) (hb : base ≤ W.heap.size) (hl : xs.length + m ≤ 100000)
    (h : ∀ v' w', Kd.R (Kd.int .u8) 5 w' base (fun _ => True) v' (xs ++ ys) → Below base w0 w' → W.grownBy w' v.ownBlock → wpList Tryd.prog ops Q rest (a.put o.dst v') w') : wpList Tryd.prog ops Q (o :: rest) a W :=
  Kd.R_append_rows (Kd.int .u8) (w0 := w0) base hg s x 40 5 (.int .u8 0) 1 hop Tryd.underlying40 info5 rfl (by decide) (by omega) v xs ys A m c (fun _ => True) (fun _ => False) hs hx HO HR (fun _ _ h => h) (fun _ h => h.elim) (fun _ _ => trivial) hB hb (by omega) (fun v1 w1 h1 h2 h3 _ => h v1 w1 h1 h2 h3)
set_option maxRecDepth 100000 in
set_option maxHeartbeats 4000000 in
theorem headed_calls {w : World} {k epoch size : Int} (H : Hv w) : Calls Tryd.prog 38 #[.int .i64 k, .int .i64 epoch, .int .i64 size] w (GivesOb (headB k epoch size) w) := by
  have HH := Aside0.mk H
  clear H
  obtain ⟨i0, hin, hz0, hz1, hz2⟩ := info_parts info5
  go_enter Tryd.func38, Tryd.ntmps38
  go_upto_region 2 with (first
    | (go_at_call 68; (with_reducible refine (four_R _ _).mono ?_); rintro e w1 ⟨v1, rfl, ho, hb⟩; have HO1 := Aside0.mk ho; have HB1 := Aside0.mk hb; have OW1 : Aside0 (w1.ownsRow w.heap.size 5 1 v1 (big4 epoch).length (encs (Value.int .u8) (big4 epoch))) := ⟨Kd.own_of_R (enc := Value.int .u8) HO1.out⟩; clear ho hb)
    | ((with_reducible refine gate_dst (N := 10) rfl ?_); refine str_step rfl (.tmp 9) rfl rfl HO1.out HB1.out.size (by simp [big4]) ?_; intro v2 w2 ho hg; have HB2 := Aside0.mk (HB1.out.grown hg HB1.out.size (Kd.R_base HO1.out)); have HO2 := Aside0.mk ho; clear ho hg))
  clear HO1 HB1 hin hz0 hz1 hz2
  have hK1 : Kd.C (Kd.int .u8) (w2.alloc (.cells #[.int .u8 (k % 256)] 5)) (some ⟨w2.heap.size, 0, none⟩) 1 [k % 256] := C_lit (zs := [k % 256]) (by simp) (fun j hj => by
    rw [new_cell]
    match j, hj with
    | 0, _ => rfl)
  have hBk : Below w.heap.size w (w2.alloc (.cells #[.int .u8 (k % 256)] 5)) := HB2.out.alloc HB2.out.size _
  have hOk : Kd.R (Kd.int .u8) 5 (w2.alloc (.cells #[.int .u8 (k % 256)] 5)) w.heap.size (fun _ => True) v2 (big4 epoch ++ [99, 108, 112, 104]) := Kd.R_below HO2.out ((Below.refl _ _).alloc (Nat.le_refl _) _)
  have HK1 := Aside0.mk hK1
  have HBK := Aside0.mk hBk
  have HOK := Aside0.mk hOk
  clear hK1 hBk hOk HO2 HB2
  go_upto_region 3 with (first
    | (go_at_call 68; (with_reducible refine (four_R _ _).mono ?_); rintro e w4 ⟨v4, rfl, ho, hb⟩; obtain ⟨A4, c4, rfl⟩ := Kd.R_slice ho; have HC4 := Aside0.mk (Kd.R_reads' ho).2.2; have HO4 := Aside0.mk (Kd.R_below HO3.out hb); have HB4 := Aside0.mk (below_step HB3.out hb); clear ho hb)
    | ((with_reducible refine gate_dst (N := 15) rfl ?_); at_builtin; refine app_step rfl (.tmp 11) (.tmp 14) rfl rfl rfl HOK.out HK1.out HBK.out HBK.out.size (by simp [big4]) ?_; intro v3 w3 ho hb hg; have HO3 := Aside0.mk ho; have HB3 := Aside0.mk hb; clear ho hb hg)
    | ((with_reducible refine gate_dst (N := 18) rfl ?_); at_builtin; refine app_step rfl (.tmp 15) (.tmp 17) rfl rfl rfl HO4.out HC4.out HB4.out HB4.out.size (by simp [big4]) ?_; intro v5 w5 ho hb hg; have HO5 := Aside0.mk ho; have HB5 := Aside0.mk hb; clear ho hb hg))
  clear HO3 HB3 HO4 HB4 HC4 HK1 HBK HOK
  go_upto_region 4 with (first
    | ((with_reducible refine gate_dst (N := 20) rfl ?_); at_builtin; refine Kd.R_append_zeros (Kd.int .u8) (w0 := w) w.heap.size rfl (.tmp 19) (.const (.int .i64 43)) 40 3 5 (.int .u8 0) 1 rfl Tryd.underlying40 Tryd.underlying3 info5 rfl (by decide) (by omega) v5 _ (0 : Int) 43 (fun _ => True) rfl rfl rfl (fun _ _ => trivial) HO5.out (by omega) HB5.out HB5.out.size (by simp [big4]) ?_; intro v6 w6 ho hb hg _; have HO6 := Aside0.mk ho; have HB6 := Aside0.mk hb; clear ho hb hg)
    | (go_at_call 64; obtain ⟨A6, c6, rfl, hs6⟩ := own_sb HO6.out; (with_reducible refine (Seal_calls (HH.out.below HB6.out) hs6 (by simp [big4])).mono ?_); rintro e w7 ⟨v7, rfl, ho, hb⟩; have HO7 := Aside0.mk (Kd.R_lower ho HB6.out.size); have HB7 := Aside0.mk (below_step HB6.out hb); clear ho hb hs6))
  have HO8 : Aside0 (Kd.R (Kd.int .u8) 5 w7 w.heap.size (fun _ => True) v7 (headA k epoch size ++ crc4 (headA k epoch size))) := HO7
  clear HO7 HO6 HB6 HO5 HB5
  have hlen : (headA k epoch size ++ crc4 (headA k epoch size)).length + 4 ≤ 100000 := by rw [List.length_append, headA_len]; simp [crc4, four4]
  go_wp2_with (first
    | (go_at_call 68; (with_reducible refine (four_R _ _).mono ?_); rintro e w8 ⟨v8, rfl, ho, hb⟩; obtain ⟨A8, c8, rfl⟩ := Kd.R_slice ho; have HC8 := Aside0.mk (Kd.R_reads' ho).2.2; have HO9 := Aside0.mk (Kd.R_below HO8.out hb); have HB8 := Aside0.mk (below_step HB7.out hb); clear ho hb)
    | ((with_reducible refine gate_dst (N := 25) rfl ?_); at_builtin; refine app_step rfl (.tmp 22) (.tmp 24) rfl rfl rfl HO9.out HC8.out HB8.out HB8.out.size hlen ?_; intro v10 w10 ho hb hg; have HO10 := Aside0.mk ho; have HB10 := Aside0.mk hb; clear ho hb hg))
  go_ret
  exact ⟨v10, rfl, HO10.out, HB10.out⟩
end Go.Proofs.YtenjldfflkinkaaDoor.Sav

namespace Go.Proofs.YtenjldfflkinkaaDoor.Sav
set_option linter.unusedVariables false
set_option linter.unusedSimpArgs false
open Go.RowKit Go.Proofs.YtenjldfflkinkaaDoor.F Go.Proofs.YtenjldfflkinkaaDoorW.PrintWords Go.Proofs.YtenjldfflkinkaaDoorW.PrintLast Go.Proofs.YtenjldfflkinkaaDoorW.PrintMore
theorem run_to {A : Option Addr} {n c x : Nat} (h : x ≤ n) (hc : n ≤ c) (W : World) : (Instr.slice 40 (.slice A n c) none (some (.int .i64 (x : Int))) none).run Tryd.prog W = .ok (.slice A x c) W := by
  obtain ⟨i0, hi, hz0, hz1, hz2⟩ := info_parts info5
  have := cut_to 40 5 .i64 Tryd.underlying40 hi A n c (x : Int) (by omega) (by omega) hc W
  rw [this, Int.toNat_natCast]
/-- where the rest of a slice lies -/
def restA (A : Option Addr) (c y : Nat) : Option Addr := if c = y then A else A.map (·.add y)
theorem run_from {A : Option Addr} {n c y : Nat} (h : y ≤ n) (W : World) : (Instr.slice 40 (.slice A n c) (some (.int .i64 (y : Int))) none none).run Tryd.prog W = .ok (.slice (restA A c y) (n - y) (c - y)) W := by
  obtain ⟨i0, hi, hz0, hz1, hz2⟩ := info_parts info5
  have := cut_from 40 5 .i64 Tryd.underlying40 hi 1 hz1 A n c (y : Int) (by omega) (by omega) W
  rw [this, Int.toNat_natCast, Nat.mul_one, restA]
theorem run_mid {A : Option Addr} {n c x y : Nat} (h : x ≤ y) (hy : y ≤ n) (hc : n ≤ c) (W : World) : (Instr.slice 40 (.slice A n c) (some (.int .i64 (x : Int))) (some (.int .i64 (y : Int))) none).run Tryd.prog W = .ok (.slice (restA A c x) (y - x) (c - x)) W := by
  obtain ⟨i0, hi, hz0, hz1, hz2⟩ := info_parts info5
  have := cut_mid 40 5 .i64 .i64 Tryd.underlying40 hi 1 hz1 A n c (x : Int) (y : Int) (by omega) (by omega) (by omega) hc W
  rw [this, Int.toNat_natCast, Int.toNat_natCast, Nat.mul_one, restA]
theorem C_take {w : World} {A : Option Addr} {l : List Int} (h : Kd.C (Kd.int .u8) w A l.length l) {x : Nat} (hx : x ≤ l.length) : Kd.C (Kd.int .u8) w A x (l.take x) := by
  have h1 := ReadsOf.take_ (Kd.reads_of_C (d := (0 : Int)) h) x hx
  exact Kd.C_of_reads (d := (0 : Int)) (h1 := fun _ => rfl) h1
theorem C_drop {w : World} {A : Option Addr} {l : List Int} {c : Nat} (h : Kd.C (Kd.int .u8) w A l.length l) (hc : l.length ≤ c) {y : Nat} (hy : y ≤ l.length) : Kd.C (Kd.int .u8) w (restA A c y) (l.length - y) (l.drop y) := by
  have h1 := ReadsOf.drop_ (c := c) (Kd.reads_of_C (d := (0 : Int)) h) y hy hc
  exact Kd.C_of_reads (d := (0 : Int)) (h1 := fun _ => rfl) h1
theorem set_blk {W : World} {q t i : Nat} {cur : Array Value} {u : Value} (h : W.heap[q]? = some (.cells cur t (0, 0))) : (W.setCell ⟨q, i, none⟩ u).heap[q]? = some (.cells (cur.setIfInBounds i u) t (0, 0)) := by
  have hl := (Array.getElem?_eq_some_iff.1 h).1
  simp [World.setCell, Array.getElem?_modify, h]
/-- a chunk's six bytes ahead -/
def six (k tag : Int) : List Int := [k / 256 % 256, k % 256, tag / 16777216 % 256, tag / 65536 % 256, tag / 256 % 256, tag % 256]
set_option maxRecDepth 100000 in
set_option maxHeartbeats 4000000 in
theorem six_calls {w : World} {k tag : Int} : Calls Tryd.prog 63 #[.int .i64 k, .int .i64 tag] w fun e w' => e = .returned (.agg #[.int .u8 (k / 256 % 256), .int .u8 (k % 256), .int .u8 (tag / 16777216 % 256), .int .u8 (tag / 65536 % 256), .int .u8 (tag / 256 % 256), .int .u8 (tag % 256)]) ∧ Below w.heap.size w w' := by
  go_enter Tryd.func63, Tryd.ntmps63
  go_upto_region 1 with (fail)
  obtain ⟨D, hD⟩ : ∃ D, w.alloc (Obj.cells #[Value.int .u8 0, .int .u8 0, .int .u8 0, .int .u8 0, .int .u8 0, .int .u8 0] 122) = D := ⟨_, rfl⟩
  have hb : Below w.heap.size w D := by rw [← hD]; exact (Below.refl _ _).alloc (Nat.le_refl _) _
  have hk : D.heap[w.heap.size]? = some (.cells #[Value.int .u8 0, .int .u8 0, .int .u8 0, .int .u8 0, .int .u8 0, .int .u8 0] 122 (0, 0)) := by rw [← hD]; exact World.alloc_heap_new w _
  rw [hD]
  have p0 := blk_cell hk 0
  have p1 := blk_cell hk 1
  have p2 := blk_cell hk 2
  have p3 := blk_cell hk 3
  have p4 := blk_cell hk 4
  have p5 := blk_cell hk 5
  have f0 := blk_frozen hk 0
  have f1 := blk_frozen hk 1
  have f2 := blk_frozen hk 2
  have f3 := blk_frozen hk 3
  have f4 := blk_frozen hk 4
  have f5 := blk_frozen hk 5
  clear hD
  go_wp2
  have hk1 := blk_put (cs := #[.int .u8 0, .int .u8 0, .int .u8 0, .int .u8 0, .int .u8 0, .int .u8 0]) hk 0 (.int .u8 (k / 256 % 256)) rfl
  have hk2 := blk_put (cs := #[.int .u8 (k / 256 % 256), .int .u8 0, .int .u8 0, .int .u8 0, .int .u8 0, .int .u8 0]) hk1 1 (.int .u8 (k % 256)) rfl
  have hk3 := blk_put (cs := #[.int .u8 (k / 256 % 256), .int .u8 (k % 256), .int .u8 0, .int .u8 0, .int .u8 0, .int .u8 0]) hk2 2 (.int .u8 (tag / 16777216 % 256)) rfl
  have hk4 := blk_put (cs := #[.int .u8 (k / 256 % 256), .int .u8 (k % 256), .int .u8 (tag / 16777216 % 256), .int .u8 0, .int .u8 0, .int .u8 0]) hk3 3 (.int .u8 (tag / 65536 % 256)) rfl
  have hk5 := blk_put (cs := #[.int .u8 (k / 256 % 256), .int .u8 (k % 256), .int .u8 (tag / 16777216 % 256), .int .u8 (tag / 65536 % 256), .int .u8 0, .int .u8 0]) hk4 4 (.int .u8 (tag / 256 % 256)) rfl
  have hk6 := blk_put (cs := #[.int .u8 (k / 256 % 256), .int .u8 (k % 256), .int .u8 (tag / 16777216 % 256), .int .u8 (tag / 65536 % 256), .int .u8 (tag / 256 % 256), .int .u8 0]) hk5 5 (.int .u8 (tag % 256)) rfl
  have hbf := (((((hb.setCell (p := ⟨w.heap.size, 0, none⟩) (Nat.le_refl _) (.int .u8 (k / 256 % 256))).setCell (p := ⟨w.heap.size, 1, none⟩) (Nat.le_refl _) (.int .u8 (k % 256))).setCell (p := ⟨w.heap.size, 2, none⟩) (Nat.le_refl _) (.int .u8 (tag / 16777216 % 256))).setCell (p := ⟨w.heap.size, 3, none⟩) (Nat.le_refl _) (.int .u8 (tag / 65536 % 256))).setCell (p := ⟨w.heap.size, 4, none⟩) (Nat.le_refl _) (.int .u8 (tag / 256 % 256))).setCell (p := ⟨w.heap.size, 5, none⟩) (Nat.le_refl _) (.int .u8 (tag % 256))
  refine bodyPost_ret (results_cell_row rfl _ _ w.heap.size 122 #[.int .u8 (k / 256 % 256), .int .u8 (k % 256), .int .u8 (tag / 16777216 % 256), .int .u8 (tag / 65536 % 256), .int .u8 (tag / 256 % 256), .int .u8 (tag % 256)] (0, 0) _ rfl hk6 Tryd.underlying122 rfl (by kernel_rfl)) rfl ?_
  exact ⟨rfl, hbf⟩
end Go.Proofs.YtenjldfflkinkaaDoor.Sav

namespace Go.Proofs.YtenjldfflkinkaaDoor.Sav
set_option linter.unusedVariables false
set_option linter.unusedSimpArgs false
open Go.RowKit Go.Proofs.YtenjldfflkinkaaDoor.F Go.Proofs.YtenjldfflkinkaaDoorW.PrintWords Go.Proofs.YtenjldfflkinkaaDoorW.PrintLast Go.Proofs.YtenjldfflkinkaaDoorW.PrintMore
theorem part_by (xs : List Int) (i : Nat) (h : i < xs.length) (W : World) : (part 5 (encs (Value.int .u8) xs).toArray (i * 1)).run Tryd.prog W = .ok (.int .u8 (xs.getD i 0)) W := by
  simp [part, isAgg, run_underlying Tryd.underlying5, encs, List.getD, List.getElem?_eq_getElem h]
theorem items_by (d : Nat) (xs ys : List Int) (W : World) : ∀ (is : List Nat), (∀ i ∈ is, i < xs.length ∧ i < ys.length) →
    (Op.eqItems (d + 1) 5 1 (encs (Value.int .u8) xs).toArray (encs (Value.int .u8) ys).toArray is).run Tryd.prog W = .ok (is.all fun i => decide (xs.getD i 0 = ys.getD i 0)) W
  | [], _ => by simp [Op.eqItems]
  | i :: is, h => by
    have h1 := h i (by simp)
    have ih := items_by d xs ys W is (fun j hj => h j (by simp [hj]))
    simp only [Op.eqItems, Sem.run_bind, part_by xs i h1.1, part_by ys i h1.2, Result.andThen_ok]
    rw [run_equalIn_int W d 5 .u8 .u8 _ _ Tryd.underlying5, Result.andThen_ok, List.all_cons]
    by_cases e : xs.getD i 0 = ys.getD i 0
    · have e1 : (xs.getD i 0 == ys.getD i 0) = true := by simpa using e
      rw [e1, if_neg (by simp), ih, decide_eq_true e, Bool.true_and]
    · have e1 : (xs.getD i 0 == ys.getD i 0) = false := by simpa using e
      rw [e1, if_pos (by simp), Sem.run_pure, decide_eq_false e, Bool.false_and]
theorem cells_by : Tryd.prog.cellsOf 5 = 1 := by kernel_rfl
theorem all_getD : ∀ (n : Nat) (xs ys : List Int), xs.length = n → ys.length = n → ((List.range n).all fun i => decide (xs.getD i 0 = ys.getD i 0)) = decide (xs = ys) := by
  intro n xs ys hx hy
  rw [Bool.eq_iff_iff, List.all_eq_true, decide_eq_true_iff]
  constructor
  · intro h
    apply List.ext_getElem (hx.trans hy.symm)
    intro i h1 h2
    have := of_decide_eq_true (h i (List.mem_range.2 (by omega)))
    simpa [List.getD, List.getElem?_eq_getElem h1, List.getElem?_eq_getElem h2] using this
  · rintro rfl i _
    exact decide_eq_true rfl
/-- two arrays of bytes, compared -/
theorem run_eq_by (d : Nat) {t n : Nat} (xs ys : List Int) (hu : Tryd.prog.underlying t = some (.array n 5)) (hx : xs.length = n) (hy : ys.length = n) (W : World) :
    (Op.equalIn (d + 2) t (.agg (encs (Value.int .u8) xs).toArray) (.agg (encs (Value.int .u8) ys).toArray)).run Tryd.prog W = .ok (decide (xs = ys)) W := by
  obtain ⟨i0, hi, hz0, hz1, hz2⟩ := info_parts info5
  rw [run_equalIn_array W (d + 1) _ _ hu hi, cells_by, items_by d xs ys W _ (fun i h => by have := List.mem_range.1 h; omega), all_getD n xs ys hx hy]
theorem run_neq_by {t n : Nat} (xs ys : List Int) (hu : Tryd.prog.underlying t = some (.array n 5)) (hx : xs.length = n) (hy : ys.length = n) (W : World) :
    (binOp .neq t (.agg (encs (Value.int .u8) xs).toArray) (.agg (encs (Value.int .u8) ys).toArray)).run Tryd.prog W = .ok (.bool (!decide (xs = ys))) W := by
  have h3 : (Op.equal t (.agg (encs (Value.int .u8) xs).toArray) (.agg (encs (Value.int .u8) ys).toArray)).run Tryd.prog W = .ok (decide (xs = ys)) W := run_eq_by 9998 xs ys hu hx hy W
  simp only [binOp, Sem.run_bind, h3, Result.andThen_ok, Sem.run_pure]
end Go.Proofs.YtenjldfflkinkaaDoor.Sav

namespace Go.Proofs.YtenjldfflkinkaaDoor.Sav
set_option linter.unusedVariables false
set_option linter.unusedSimpArgs false
open Go.RowKit Go.Proofs.YtenjldfflkinkaaDoor.F Go.Proofs.YtenjldfflkinkaaDoorW.PrintWords Go.Proofs.YtenjldfflkinkaaDoorW.PrintLast Go.Proofs.YtenjldfflkinkaaDoorW.PrintMore
def GivesOpen (l : List Int) (m : Nat) (w : World) (e : Ending) (w' : World) : Prop :=
  ∃ (v : Value) (q : Int), e = .returned (.tuple #[v, .int .i64 q]) ∧ Below w.heap.size w w' ∧ ((l.drop m = crc4 (l.take m) ∧ q = 0 ∧ Kd.R (Kd.int .u8) 5 w' w.heap.size (fun _ => True) v (l.take m)) ∨ (l.drop m ≠ crc4 (l.take m) ∧ q = 21 ∧ v = .slice none 0 0))
set_option maxRecDepth 100000 in
set_option maxHeartbeats 4000000 in
theorem Open_calls {w : World} {A : Option Addr} {n c m : Nat} {l : List Int} (H : Hv w) (h : Sb w A n c l) (hm : n = m + 4) (hb : n ≤ 100000) :
    Calls Tryd.prog 86 #[.slice A n c] w (GivesOpen l m w) := by
  have HH := Aside0.mk H
  have SL := Aside0.mk h
  have hw64 : wrap64 ((n : Int) - 4) = (m : Int) := by unfold wrap64; omega
  have hmn : ¬ ((m : Int) < 0) := by omega
  obtain ⟨ad, rfl, c0⟩ := byte_read h.hC h.hn m (by omega)
  obtain ⟨_, e1, c1⟩ := byte_read h.hC h.hn (m + 1) (by omega)
  obtain rfl := Option.some.inj e1
  obtain ⟨_, e2, c2⟩ := byte_read h.hC h.hn (m + 2) (by omega)
  obtain rfl := Option.some.inj e2
  obtain ⟨_, e3, c3⟩ := byte_read h.hC h.hn (m + 3) (by omega)
  obtain rfl := Option.some.inj e3
  rw [add_field ad m 1 (by omega)] at c1
  rw [add_field ad m 2 (by omega)] at c2
  rw [add_field ad m 3 (by omega)] at c3
  obtain ⟨b0, h0⟩ : ∃ b, l.getD m 0 = b := ⟨_, rfl⟩
  obtain ⟨b1, h1⟩ : ∃ b, l.getD (m + 1) 0 = b := ⟨_, rfl⟩
  obtain ⟨b2, h2⟩ : ∃ b, l.getD (m + 2) 0 = b := ⟨_, rfl⟩
  obtain ⟨b3, h3⟩ : ∃ b, l.getD (m + 3) 0 = b := ⟨_, rfl⟩
  rw [h0] at c0
  rw [h1] at c1
  rw [h2] at c2
  rw [h3] at c3
  have HDR := Aside0.mk (show l.drop m = [b0, b1, b2, b3] by
    have hn := h.hn
    apply List.ext_getElem (by simp; omega)
    intro i h4 h5
    simp only [List.getElem_drop]
    have hi : i < 4 := by simpa using h5
    rcases (by omega : i = 0 ∨ i = 1 ∨ i = 2 ∨ i = 3) with rfl | rfl | rfl | rfl
    · rw [← h0]; simp [List.getD, List.getElem?_eq_getElem (show m < l.length by omega)]
    · rw [← h1]; simp [List.getD, List.getElem?_eq_getElem (show m + 1 < l.length by omega)]
    · rw [← h2]; simp [List.getD, List.getElem?_eq_getElem (show m + 2 < l.length by omega)]
    · rw [← h3]; simp [List.getD, List.getElem?_eq_getElem (show m + 3 < l.length by omega)])
  have hcn := h.hc
  have hs1 := fun W => run_from (A := some ad) (n := n) (c := c) (y := m) (by omega) W
  have hr : restA (some ad) c m = some (ad.add m) := by unfold restA; rw [if_neg (by omega)]; rfl
  rw [hr, show n - m = 4 by omega] at hs1
  have harr : ∀ W, (Instr.arrayAt 140 (.slice (some (ad.add m)) 4 (c - m))).run Tryd.prog W = .ok (.pointer (some (ad.add m))) W := fun W => by
    simp [Instr.arrayAt, run_underlying Tryd.underlying140]
  have hs2 := fun W => run_to (A := some ad) (show m ≤ n by omega) hcn W
  have HTK := Aside0.mk (show Kd.C (Kd.int .u8) w (some ad) m (l.take m) from C_take (by have := h.hC; rw [← h.hn] at this; exact this) (by have := h.hn; omega))
  have hml : (l.take m).length = m := by have := h.hn; simp; omega
  have CC := Aside0.mk (fun W (hb : Below w.heap.size w W) => Crc_calls (c := c) (HH.out.below hb) (Kd.C_below HTK.out hb) hml (by omega))
  obtain ⟨s, hs⟩ : ∃ s, moreF 0 (l.take m) = s := ⟨_, rfl⟩
  rw [hs] at CC
  have HS := Aside0.mk hs
  have C4 := Aside0.mk (fun W => sums_four.calls s _ _ _ _ W rfl)
  obtain ⟨bq, hbq⟩ : ∃ bq, (!decide ([b0, b1, b2, b3] = four4 s)) = bq := ⟨_, rfl⟩
  have hneq : ∀ W, (binOp .neq 140 (.agg #[.int .u8 b0, .int .u8 b1, .int .u8 b2, .int .u8 b3]) (.agg #[.int .u8 (s % 256), .int .u8 (s / 256 % 256), .int .u8 (s / 65536 % 256), .int .u8 (s / 16777216 % 256)])).run Tryd.prog W = .ok (.bool bq) W := fun W => by
    have := run_neq_by (t := 140) (n := 4) [b0, b1, b2, b3] (four4 s) Tryd.underlying140 rfl rfl W
    rw [hbq] at this
    exact this
  have HBQ := Aside0.mk hbq
  clear hbq
  have hnm : (n : Int) - 4 = (m : Int) := by omega
  have HM := Aside0.mk hm
  clear H h hs e1 e2 e3 h0 h1 h2 h3 hr hcn hm
  go_enter Tryd.func86, Tryd.ntmps86
  go_upto_region 4 with (fail)
  have hb0 : Below w.heap.size w w.drew := below_drew1 (Below.refl _ _)
  have HB := Aside0.mk hb0
  have HC4 := Aside0.mk (fun W' (hb : Below w.heap.size w W') => (show W'.cell? (ad.add m) = some (.int .u8 b0) ∧ W'.cell? ⟨(ad.add m).block, (ad.add m).off + 1, none⟩ = some (.int .u8 b1) ∧ W'.cell? ⟨(ad.add m).block, (ad.add m).off + 2, none⟩ = some (.int .u8 b2) ∧ W'.cell? ⟨(ad.add m).block, (ad.add m).off + 3, none⟩ = some (.int .u8 b3) from
    ⟨(hb.cell (World.block_lt_of_cell? w _ c0)).trans c0, (hb.cell (World.block_lt_of_cell? w _ c1)).trans c1, (hb.cell (World.block_lt_of_cell? w _ c2)).trans c2, (hb.cell (World.block_lt_of_cell? w _ c3)).trans c3⟩))
  clear hb0
  refine start_ (n := 11) (S := fun w' => Below w.heap.size w w') (ds := []) #[false, false, false, false, false, false, false, false, false, false, false] (by kernel_rfl) rfl rfl HB.out (fun hHeld => ?_)
  generalize w.drew = D at HB hHeld ⊢
  refine pure_ (i := 0) (N := some 10) (v := ?_) (a' := ?_) #[true, false, false, false, false, false, false, false, false, false, false] rfl rfl (by kernel_rfl) (fun _ _ _ h => h) (Or.inl ⟨by rfl, ?_⟩) ?_ ?_
  rotate_left
  · intro w'
    go_simp
    with_reducible rfl
  rotate_left
  · simp only [Act.put, List.setIfInBounds_toArray, List.set_cons_zero, List.set_cons_succ, i64_w, i32_w]
    rfl
  refine pure_ (i := 1) (N := some 11) (v := ?_) (a' := ?_) #[true, true, false, false, false, false, false, false, false, false, false] rfl rfl (by kernel_rfl) (fun _ _ _ h => h) (Or.inl ⟨by rfl, ?_⟩) ?_ ?_
  rotate_left
  · intro w'
    go_simp
    with_reducible rfl
  rotate_left
  · simp only [Act.put, List.setIfInBounds_toArray, List.set_cons_zero, List.set_cons_succ, i64_w, i32_w]
    rfl
  refine pure_ (i := 2) (N := some 12) (v := ?_) (a' := ?_) #[true, true, true, false, false, false, false, false, false, false, false] rfl rfl (by kernel_rfl) (fun _ _ _ h => h) (Or.inl ⟨by rfl, ?_⟩) ?_ ?_
  rotate_left
  · intro w'
    go_simp
    with_reducible rfl
  rotate_left
  · simp only [Act.put, List.setIfInBounds_toArray, List.set_cons_zero, List.set_cons_succ, i64_w, i32_w]
    rfl
  refine pure_ (i := 3) (N := some 13) (v := ?_) (a' := ?_) #[true, true, true, true, false, false, false, false, false, false, false] rfl rfl (by kernel_rfl) (fun _ _ _ h => h) (Or.inl ⟨by rfl, ?_⟩) ?_ ?_
  rotate_left
  · intro w'
    go_simp
    with_reducible rfl
  rotate_left
  · simp only [Act.put, List.setIfInBounds_toArray, List.set_cons_zero, List.set_cons_succ, i64_w, i32_w]
    rfl
  refine pure_ (i := 5) (N := some 15) (v := ?_) (a' := ?_) #[true, true, true, true, false, true, false, false, false, false, false] rfl rfl (by kernel_rfl) (fun _ _ _ h => h) (Or.inl ⟨by rfl, ?_⟩) ?_ ?_
  rotate_left
  · intro w'
    go_simp
    with_reducible rfl
  rotate_left
  · simp only [Act.put, List.setIfInBounds_toArray, List.set_cons_zero, List.set_cons_succ, i64_w, i32_w]
    rfl
  refine pure_ (i := 6) (N := some 16) (v := ?_) (a' := ?_) #[true, true, true, true, false, true, true, false, false, false, false] rfl rfl (by kernel_rfl) (fun _ _ _ h => h) (Or.inl ⟨by rfl, ?_⟩) ?_ ?_
  rotate_left
  · intro w'
    go_simp
    with_reducible rfl
  rotate_left
  · simp only [Act.put, List.setIfInBounds_toArray, List.set_cons_zero, List.set_cons_succ, i64_w, i32_w]
    rfl
  refine pure_ (i := 7) (N := some 17) (v := ?_) (a' := ?_) #[true, true, true, true, false, true, true, true, false, false, false] rfl rfl (by kernel_rfl) (fun _ _ _ h => h) (Or.inl ⟨by rfl, ?_⟩) ?_ ?_
  rotate_left
  · intro w'
    go_simp
    with_reducible rfl
  rotate_left
  · simp only [Act.put, List.setIfInBounds_toArray, List.set_cons_zero, List.set_cons_succ, i64_w, i32_w]
    rfl
  refine take_ (i := 4) (N := some 14) (v := ?_) (a' := ?_) #[true, true, true, true, true, true, true, true, false, false, false] rfl rfl (by kernel_rfl) (fun _ _ _ h => h) (Or.inl ⟨by rfl, ?_⟩) hHeld ?_ ?_
  rotate_left
  · rintro w' hs
    obtain ⟨s0, s1, s2, s3⟩ := HC4.out w' hs
    go_simp
    with_reducible rfl
  rotate_left
  · simp only [Act.put, List.setIfInBounds_toArray, List.set_cons_zero, List.set_cons_succ, i64_w, i32_w]
    rfl
  refine one_ (i := 8) (N := some 18) #[true, true, true, true, true, true, true, true, true, false, false] rfl rfl (by kernel_rfl) (by decide) (fun K hK => ?_)
  refine goes_ Tryd.func84 (by kernel_rfl) rfl #[.slice (some ad) m c] (by rfl) rfl rfl (by (try simp only [List.map_toArray, List.map_cons, List.map_nil]); first | done | rfl) ?_
  (with_reducible refine (CC.out _ HB.out).mono ?_)
  rintro e Z8 ⟨rfl, rfl⟩
  refine ⟨_, rfl, ?_⟩
  refine hK.out _ _ HB.out (fun hHeld => ?_)
  clear hK K
  refine norm_ (a' := ?_) ?_ ?_
  rotate_left
  · show Act.put _ (some 18) _ = _
    simp only [Act.put, List.setIfInBounds_toArray, List.set_cons_zero, List.set_cons_succ, i64_w, i32_w]
    rfl
  refine one_ (i := 9) (N := some 19) #[true, true, true, true, true, true, true, true, true, true, false] rfl rfl (by kernel_rfl) (by decide) (fun K hK => ?_)
  refine goes_ Tryd.func83 (by kernel_rfl) rfl #[.int .u32 s] (by rfl) rfl rfl (by (try simp only [List.map_toArray, List.map_cons, List.map_nil]); first | done | rfl) ?_
  (with_reducible refine (C4.out _).mono ?_)
  rintro e Z9 ⟨rfl, hb9⟩
  refine ⟨_, rfl, ?_⟩
  replace HB := Aside0.mk (below_step HB.out hb9)
  clear hb9
  refine hK.out _ _ HB.out (fun hHeld => ?_)
  clear hK K
  refine norm_ (a' := ?_) ?_ ?_
  rotate_left
  · show Act.put _ (some 19) _ = _
    simp only [Act.put, List.setIfInBounds_toArray, List.set_cons_zero, List.set_cons_succ, i64_w, i32_w]
    rfl
  refine pure_ (i := 10) (N := some 20) (v := ?_) (a' := ?_) #[true, true, true, true, true, true, true, true, true, true, true] rfl rfl (by kernel_rfl) (fun _ _ _ h => h) (Or.inl ⟨by rfl, ?_⟩) ?_ ?_
  rotate_left
  · intro w'
    go_simp
    with_reducible rfl
  rotate_left
  · simp only [Act.put, List.setIfInBounds_toArray, List.set_cons_zero, List.set_cons_succ, i64_w, i32_w]
    rfl
  refine done_ (by kernel_rfl) ?_
  cases bq with
  | true =>
    have hne : ¬ [b0, b1, b2, b3] = four4 s := by have := HBQ.out; simpa using this
    go_wp2
    go_ret2
    exact ⟨_, 21, rfl, HB.out, .inr ⟨by rw [HDR.out]; unfold crc4; rw [HS.out]; exact hne, rfl, rfl⟩⟩
  | false =>
    have heq : [b0, b1, b2, b3] = four4 s := by have := HBQ.out; simpa using this
    have HEQ := Aside0.mk heq
    clear heq
    go_wp2_with (first
      | ((with_reducible refine gate_dst (N := 21) rfl ?_); refine Kd.R_lit (Kd.int .u8) Z9.heap.size 5 rfl (N := 21) rfl (xs := ([] : List Int)) (inner := []) (ok := fun _ => True) (okp := fun _ => True) ?hr (Reps.none _ _) (fun _ hk => hk) trivial (Below.refl _ Z9) (Nat.le_refl _) (by simp) ?_; (case hr => first | (go_simp; done) | (go_simp; rfl)); intro v1 w1 ho1 hb1 hg1 hn1; have HO1 := Aside0.mk ho1; have HB1 := Aside0.mk (below_step HB.out hb1); have HB1' := Aside0.mk hb1; clear hg1 hn1 ho1 hb1)
      | ((with_reducible refine gate_dst (N := 25) rfl ?_); at_builtin; refine app_step rfl (.tmp 21) (.tmp 24) rfl rfl rfl HO1.out (Kd.C_below HTK.out HB1.out) HB1'.out HB1'.out.size (by simp; omega) ?_; intro v2 w2 ho hb hg; have HO2 := Aside0.mk ho; have HB2 := Aside0.mk (below_step HB.out hb); clear ho hb hg))
    go_ret2
    exact ⟨v2, 0, rfl, HB2.out, .inl ⟨by rw [HDR.out]; unfold crc4; rw [HS.out]; exact HEQ.out, rfl, Kd.R_lower HO2.out HB.out.size⟩⟩
end Go.Proofs.YtenjldfflkinkaaDoor.Sav

namespace Go.Proofs.YtenjldfflkinkaaDoor.Sav
set_option linter.unusedVariables false
set_option linter.unusedSimpArgs false
open Go.RowKit Go.Proofs.YtenjldfflkinkaaDoor.F Go.Proofs.YtenjldfflkinkaaDoorW.PrintWords Go.Proofs.YtenjldfflkinkaaDoorW.PrintLast Go.Proofs.YtenjldfflkinkaaDoorW.PrintMore
theorem run_toM {A : Option Addr} {n c x : Nat} (h : x ≤ n) (hc : n ≤ c) (W : World) : (Instr.slice 40 (.slice A n c) none (some (.int .i64 (x : Int))) (some (.int .i64 (x : Int)))).run Tryd.prog W = .ok (.slice A x x) W := by
  obtain ⟨i0, hi, hz0, hz1, hz2⟩ := info_parts info5
  have hel : Tryd.prog.elem 40 = 5 := by simp [Program.elem, Tryd.underlying40]
  have hu : Tryd.prog.underlying 40 = some (.slice (Tryd.prog.elem 40)) := by rw [hel]; exact Tryd.underlying40
  have ha : (A.map fun x => x.add 0) = A := by cases A <;> simp [Addr.add]
  rw [run_slice_hm W 40 A n c hu .i64 .i64 (x : Int) (x : Int) (by omega) (by omega) (by omega), hel]
  simp [sizeOf, typeInfo, hi, hz1, sliced, Result.andThen, ha]
/-- a sector that is chunk k of this tag -/
def Chk (l : List Int) (k tag : Int) : Prop := l.drop 60 = crc4 (l.take 60) ∧ (l.take 60).take 6 = six k tag
def GivesChk (l : List Int) (k tag : Int) (w : World) (e : Ending) (w' : World) : Prop :=
  ∃ (v : Value) (q : Int), e = .returned (.tuple #[v, .int .i64 q]) ∧ Below w.heap.size w w' ∧ ((Chk l k tag ∧ q = 0 ∧ ∃ A c, v = .slice A 54 c ∧ Sb w' A 54 c ((l.take 60).drop 6)) ∨ (¬ Chk l k tag ∧ q ≠ 0))
set_option maxRecDepth 100000 in
set_option maxHeartbeats 4000000 in
theorem open_calls {w : World} {A : Option Addr} {c : Nat} {l : List Int} {k tag : Int} (H : Hv w) (h : Sb w A 64 c l) :
    Calls Tryd.prog 74 #[.slice A 64 c, .int .i64 k, .int .i64 tag] w (GivesChk l k tag w) := by
  have CO := Aside0.mk (Open_calls (m := 60) H h rfl (by omega))
  have hln := h.hn
  have H6 := Aside0.mk (fun W => six_calls (w := W) (k := k) (tag := tag))
  clear H h
  go_enter Tryd.func74, Tryd.ntmps74
  go_upto_region 4 with (go_at_call 86; (with_reducible refine CO.out.mono ?_); rintro e w1 ⟨v, q, rfl, hb, hcase⟩; have HCA := Aside0.mk hcase; have HB1 := Aside0.mk hb; clear hb hcase)
  rcases HCA.out with ⟨g1, rfl, ho⟩ | ⟨g1, rfl, rfl⟩
  · obtain ⟨A3, c3, rfl, hs3⟩ := own_sb ho
    have hl3 : (l.take 60).length = 60 := by simp; omega
    rw [hl3] at hs3 ⊢
    obtain ⟨p, hp⟩ : ∃ p, l.take 60 = p := ⟨_, rfl⟩
    rw [hp] at hs3 ho hl3
    obtain ⟨ad, rfl, y0⟩ := byte_read hs3.hC hs3.hn 0 (by omega)
    obtain ⟨_, e1, y1⟩ := byte_read hs3.hC hs3.hn 1 (by omega)
    obtain rfl := Option.some.inj e1
    obtain ⟨_, e2, y2⟩ := byte_read hs3.hC hs3.hn 2 (by omega)
    obtain rfl := Option.some.inj e2
    obtain ⟨_, e3, y3⟩ := byte_read hs3.hC hs3.hn 3 (by omega)
    obtain rfl := Option.some.inj e3
    obtain ⟨_, e4, y4⟩ := byte_read hs3.hC hs3.hn 4 (by omega)
    obtain rfl := Option.some.inj e4
    obtain ⟨_, e5, y5⟩ := byte_read hs3.hC hs3.hn 5 (by omega)
    obtain rfl := Option.some.inj e5
    have ha0 : ad.add 0 = ad := rfl
    rw [ha0] at y0
    rw [show (1 : Nat) = 0 + 1 from rfl, add_field ad 0 1 (by omega), ha0] at y1
    rw [show (2 : Nat) = 0 + 2 from rfl, add_field ad 0 2 (by omega), ha0] at y2
    rw [show (3 : Nat) = 0 + 3 from rfl, add_field ad 0 3 (by omega), ha0] at y3
    rw [show (4 : Nat) = 0 + 4 from rfl, add_field ad 0 4 (by omega), ha0] at y4
    rw [show (5 : Nat) = 0 + 5 from rfl, add_field ad 0 5 (by omega), ha0] at y5
    obtain ⟨x0, h0⟩ : ∃ b, p.getD 0 0 = b := ⟨_, rfl⟩
    rw [h0] at y0
    obtain ⟨x1, h1⟩ : ∃ b, p.getD (0 + 1) 0 = b := ⟨_, rfl⟩
    rw [h1] at y1
    obtain ⟨x2, h2⟩ : ∃ b, p.getD (0 + 2) 0 = b := ⟨_, rfl⟩
    rw [h2] at y2
    obtain ⟨x3, h3⟩ : ∃ b, p.getD (0 + 3) 0 = b := ⟨_, rfl⟩
    rw [h3] at y3
    obtain ⟨x4, h4⟩ : ∃ b, p.getD (0 + 4) 0 = b := ⟨_, rfl⟩
    rw [h4] at y4
    obtain ⟨x5, h5⟩ : ∃ b, p.getD (0 + 5) 0 = b := ⟨_, rfl⟩
    rw [h5] at y5
    have HTK := Aside0.mk (show p.take 6 = [x0, x1, x2, x3, x4, x5] by
      apply List.ext_getElem (by simp; omega)
      intro i h7 h8
      have hi : i < 6 := by simpa using h8
      simp only [List.getElem_take]
      rcases (by omega : i = 0 ∨ i = 1 ∨ i = 2 ∨ i = 3 ∨ i = 4 ∨ i = 5) with rfl | rfl | rfl | rfl | rfl | rfl
      · rw [← h0]; simp [List.getD, List.getElem?_eq_getElem (show 0 < p.length by omega)]
      · rw [← h1]; simp [List.getD, List.getElem?_eq_getElem (show 1 < p.length by omega)]
      · rw [← h2]; simp [List.getD, List.getElem?_eq_getElem (show 2 < p.length by omega)]
      · rw [← h3]; simp [List.getD, List.getElem?_eq_getElem (show 3 < p.length by omega)]
      · rw [← h4]; simp [List.getD, List.getElem?_eq_getElem (show 4 < p.length by omega)]
      · rw [← h5]; simp [List.getD, List.getElem?_eq_getElem (show 5 < p.length by omega)])
    have hc3 := hs3.hc
    have hsl : ∀ W, (Instr.slice 40 (.slice (some ad) 60 c3) none (some (.int .i64 6)) (some (.int .i64 6))).run Tryd.prog W = .ok (.slice (some ad) 6 6) W := fun W => by
      exact run_toM (A := some ad) (x := 6) (by omega) hc3 W
    have harr : ∀ W, (Instr.arrayAt 122 (.slice (some ad) 6 6)).run Tryd.prog W = .ok (.pointer (some ad)) W := fun W => by
      simp [Instr.arrayAt, run_underlying Tryd.underlying122]
    have hR : restA (some ad) c3 6 = some (ad.add 6) := by unfold restA; rw [if_neg (by omega)]; rfl
    have HRES := Aside0.mk (show Kd.C (Kd.int .u8) w1 (restA (some ad) c3 6) 54 (p.drop 6) from by
      have h9 := C_drop (c := c3) (y := 6) (by have := hs3.hC; rw [← hs3.hn] at this; exact this) (by omega) (by omega)
      rw [hl3] at h9
      exact h9)
    obtain ⟨bq, hbq⟩ : ∃ bq, (!decide ([x0, x1, x2, x3, x4, x5] = six k tag)) = bq := ⟨_, rfl⟩
    have hneq : ∀ W, (binOp .neq 122 (.agg #[.int .u8 x0, .int .u8 x1, .int .u8 x2, .int .u8 x3, .int .u8 x4, .int .u8 x5]) (.agg #[.int .u8 (k / 256 % 256), .int .u8 (k % 256), .int .u8 (tag / 16777216 % 256), .int .u8 (tag / 65536 % 256), .int .u8 (tag / 256 % 256), .int .u8 (tag % 256)])).run Tryd.prog W = .ok (.bool bq) W := fun W => by
      have := run_neq_by (t := 122) (n := 6) [x0, x1, x2, x3, x4, x5] (six k tag) Tryd.underlying122 rfl rfl W
      rw [hbq] at this
      exact this
    have HBQ := Aside0.mk hbq
    have G1 := Aside0.mk g1
    have HP := Aside0.mk hp
    have HM3 := Aside0.mk hs3.hm
    rw [hR] at HRES
    clear hbq g1 hp hs3 ho h0 h1 h2 h3 h4 h5 e1 e2 e3 e4 e5 hR
    go_upto_region 6 with (fail)
    have HB := Aside0.mk (below_drew1 (Below.refl w1.heap.size w1))
    have HC6 := Aside0.mk (fun W' (hb : Below w1.heap.size w1 W') => (show W'.cell? ad = some (.int .u8 x0) ∧ W'.cell? ⟨ad.block, ad.off + 1, none⟩ = some (.int .u8 x1) ∧ W'.cell? ⟨ad.block, ad.off + 2, none⟩ = some (.int .u8 x2) ∧ W'.cell? ⟨ad.block, ad.off + 3, none⟩ = some (.int .u8 x3) ∧ W'.cell? ⟨ad.block, ad.off + 4, none⟩ = some (.int .u8 x4) ∧ W'.cell? ⟨ad.block, ad.off + 5, none⟩ = some (.int .u8 x5) from
      ⟨(hb.cell (World.block_lt_of_cell? w1 _ y0)).trans y0, (hb.cell (World.block_lt_of_cell? w1 _ y1)).trans y1, (hb.cell (World.block_lt_of_cell? w1 _ y2)).trans y2, (hb.cell (World.block_lt_of_cell? w1 _ y3)).trans y3, (hb.cell (World.block_lt_of_cell? w1 _ y4)).trans y4, (hb.cell (World.block_lt_of_cell? w1 _ y5)).trans y5⟩))
    refine start_ (n := 9) (S := fun w' => Below w1.heap.size w1 w') (ds := []) #[false, false, false, false, false, false, false, false, false] (by kernel_rfl) rfl rfl HB.out (fun hHeld => ?_)
    generalize w1.drew = D at HB hHeld ⊢
    refine pure_ (i := 0) (N := some 23) (v := ?_) (a' := ?_) #[true, false, false, false, false, false, false, false, false] rfl rfl (by kernel_rfl) (fun _ _ _ h => h) (Or.inl ⟨by rfl, ?_⟩) ?_ ?_
    rotate_left
    · intro w'
      go_simp
      with_reducible rfl
    rotate_left
    · simp only [Act.put, List.setIfInBounds_toArray, List.set_cons_zero, List.set_cons_succ, i64_w, i32_w]
      rfl
    refine pure_ (i := 1) (N := some 24) (v := ?_) (a' := ?_) #[true, true, false, false, false, false, false, false, false] rfl rfl (by kernel_rfl) (fun _ _ _ h => h) (Or.inl ⟨by rfl, ?_⟩) ?_ ?_
    rotate_left
    · intro w'
      go_simp
      with_reducible rfl
    rotate_left
    · simp only [Act.put, List.setIfInBounds_toArray, List.set_cons_zero, List.set_cons_succ, i64_w, i32_w]
      rfl
    refine pure_ (i := 2) (N := some 25) (v := ?_) (a' := ?_) #[true, true, true, false, false, false, false, false, false] rfl rfl (by kernel_rfl) (fun _ _ _ h => h) (Or.inl ⟨by rfl, ?_⟩) ?_ ?_
    rotate_left
    · intro w'
      go_simp
      with_reducible rfl
    rotate_left
    · simp only [Act.put, List.setIfInBounds_toArray, List.set_cons_zero, List.set_cons_succ, i64_w, i32_w]
      rfl
    refine pure_ (i := 4) (N := some 27) (v := ?_) (a' := ?_) #[true, true, true, false, true, false, false, false, false] rfl rfl (by kernel_rfl) (fun _ _ _ h => h) (Or.inl ⟨by rfl, ?_⟩) ?_ ?_
    rotate_left
    · intro w'
      go_simp
      with_reducible rfl
    rotate_left
    · simp only [Act.put, List.setIfInBounds_toArray, List.set_cons_zero, List.set_cons_succ, i64_w, i32_w]
      rfl
    refine pure_ (i := 5) (N := some 28) (v := ?_) (a' := ?_) #[true, true, true, false, true, true, false, false, false] rfl rfl (by kernel_rfl) (fun _ _ _ h => h) (Or.inl ⟨by rfl, ?_⟩) ?_ ?_
    rotate_left
    · intro w'
      go_simp
      with_reducible rfl
    rotate_left
    · simp only [Act.put, List.setIfInBounds_toArray, List.set_cons_zero, List.set_cons_succ, i64_w, i32_w]
      rfl
    refine take_ (i := 3) (N := some 26) (v := ?_) (a' := ?_) #[true, true, true, true, true, true, false, false, false] rfl rfl (by kernel_rfl) (fun _ _ _ h => h) (Or.inl ⟨by rfl, ?_⟩) hHeld ?_ ?_
    rotate_left
    · rintro w' hs
      obtain ⟨s0, s1, s2, s3, s4, s5⟩ := HC6.out w' hs
      go_simp
      with_reducible rfl
    rotate_left
    · simp only [Act.put, List.setIfInBounds_toArray, List.set_cons_zero, List.set_cons_succ, i64_w, i32_w]
      rfl
    refine one_ (i := 6) (N := some 29) #[true, true, true, true, true, true, true, false, false] rfl rfl (by kernel_rfl) (by decide) (fun K hK => ?_)
    refine goes_ Tryd.func63 (by kernel_rfl) rfl #[.int .i64 k, .int .i64 tag] (by rfl) rfl rfl (by (try simp only [List.map_toArray, List.map_cons, List.map_nil]); first | done | rfl) ?_
    (with_reducible refine (H6.out _).mono ?_)
    rintro e Z6 ⟨rfl, hb9⟩
    refine ⟨_, rfl, ?_⟩
    replace HB := Aside0.mk (below_step HB.out hb9)
    clear hb9
    refine hK.out _ _ HB.out (fun hHeld => ?_)
    clear hK K
    refine norm_ (a' := ?_) ?_ ?_
    rotate_left
    · show Act.put _ (some 29) _ = _
      simp only [Act.put, List.setIfInBounds_toArray, List.set_cons_zero, List.set_cons_succ, i64_w, i32_w]
      rfl
    refine pure_ (i := 7) (N := some 30) (v := ?_) (a' := ?_) #[true, true, true, true, true, true, true, true, false] rfl rfl (by kernel_rfl) (fun _ _ _ h => h) (Or.inl ⟨by rfl, ?_⟩) ?_ ?_
    rotate_left
    · intro w'
      go_simp
      with_reducible rfl
    rotate_left
    · simp only [Act.put, List.setIfInBounds_toArray, List.set_cons_zero, List.set_cons_succ, i64_w, i32_w]
      rfl
    refine pure_ (i := 8) (N := some 22) (v := ?_) (a' := ?_) #[true, true, true, true, true, true, true, true, true] rfl rfl (by kernel_rfl) (fun _ _ _ h => h) (Or.inl ⟨by rfl, ?_⟩) ?_ ?_
    rotate_left
    · intro w'
      go_simp
      with_reducible rfl
    rotate_left
    · simp only [Act.put, List.setIfInBounds_toArray, List.set_cons_zero, List.set_cons_succ, i64_w, i32_w]
      rfl
    refine done_ (by kernel_rfl) ?_
    have BF := Aside0.mk (below_step HB1.out HB.out)
    cases bq with
    | true =>
      have hne : ¬ [x0, x1, x2, x3, x4, x5] = six k tag := by have := HBQ.out; simpa using this
      go_wp2
      go_ret2
      exact ⟨_, 180, rfl, BF.out, .inr ⟨fun hc => hne (by rw [← HTK.out, ← HP.out]; exact hc.2), by decide⟩⟩
    | false =>
      have heq : [x0, x1, x2, x3, x4, x5] = six k tag := by have := HBQ.out; simpa using this
      have HEQ := Aside0.mk heq
      clear heq
      go_wp2
      go_ret2
      exact ⟨_, 0, rfl, BF.out, .inl ⟨⟨G1.out, by rw [HP.out, HTK.out]; exact HEQ.out⟩, rfl, some (ad.add 6), c3 - 6, rfl, ⟨by rw [HP.out]; exact Kd.C_below HRES.out HB.out, by simp; omega, by omega, by have := HM3.out; omega⟩⟩⟩
  · have G1 := Aside0.mk g1
    clear g1
    go_wp2
    go_ret2
    exact ⟨_, 21, rfl, HB1.out, .inr ⟨fun hc => G1.out hc.1, by decide⟩⟩
end Go.Proofs.YtenjldfflkinkaaDoor.Sav

namespace Go.Proofs.YtenjldfflkinkaaDoor.Sav
set_option linter.unusedVariables false
set_option linter.unusedSimpArgs false
open Go.RowKit Go.Proofs.YtenjldfflkinkaaDoor.F Go.Proofs.YtenjldfflkinkaaDoorW.PrintWords Go.Proofs.YtenjldfflkinkaaDoorW.PrintLast Go.Proofs.YtenjldfflkinkaaDoorW.PrintMore
/-- chunk k of these bytes -/
def chunkP (b : List Int) (tag : Int) (k : Nat) : List Int := six (k : Int) tag ++ ((b.drop (54 * k)).take 54 ++ List.replicate (54 - ((b.drop (54 * k)).take 54).length) 0)
def chunkL (b : List Int) (tag : Int) (k : Nat) : List Int := chunkP b tag k ++ crc4 (chunkP b tag k)
def cutL (b : List Int) (tag : Int) (n : Nat) : List (List Int) := (List.range n).map (chunkL b tag)
theorem chunkP_len (b : List Int) (tag : Int) (k : Nat) : (chunkP b tag k).length = 60 := by
  unfold chunkP six
  simp only [List.length_append, List.length_cons, List.length_nil, List.length_replicate, List.length_take]
  omega
theorem cut_succ (b : List Int) (tag : Int) (n : Nat) : cutL b tag (n + 1) = cutL b tag n ++ [chunkL b tag n] := by
  unfold cutL
  rw [List.range_succ, List.map_append]
  rfl
/-- slices of bytes -/
abbrev kB : Kd (List Int) := Kd.slice 5 (Kd.int .u8)
def GivesCut (ls : List (List Int)) (w : World) (e : Ending) (w' : World) : Prop := ∃ v : Value, e = .returned (.tuple #[v, .int .i64 0]) ∧ Kd.R kB 40 w' w.heap.size (fun _ => True) v ls ∧ Below w.heap.size w w'
theorem size5 : (Tryd.prog.info? 5).map (·.size) = some 1 := by kernel_rfl
theorem info40 : (Tryd.prog.info? 40).map (fun i => (i.zero, i.size, i.bytes)) = some (some (.slice none 0 0), 1, 24) := by kernel_rfl
theorem u83 : Tryd.prog.underlying 83 = some (.slice 40) := by kernel_rfl
theorem one_nums (l : List Int) : ∀ v ∈ l.map (Value.int .u8), v.oneCell' = true := by
  intro v hv
  obtain ⟨x, _, rfl⟩ := List.mem_map.1 hv
  rfl
theorem src_blk {W : World} {q t : Nat} {cs : List Value} (h : W.heap[q]? = some (.cells cs.toArray t (0, 0))) : ∀ j v, cs[j]? = some v → W.cell? ((⟨q, 0, none⟩ : Addr).add j) = some v := fun j v hj => by
  rw [Addr.add_mid, Nat.zero_add, blk_cell h, List.getElem?_toArray]
  exact hj
theorem src_C {W : World} {A : Option Addr} {l : List Int} (h : Kd.C (Kd.int .u8) W A l.length l) (hn : 0 < l.length) : ∃ ad, A = some ad ∧ ∀ j v, (l.map (Value.int .u8))[j]? = some v → W.cell? (ad.add j) = some v := by
  obtain ⟨ad, rfl, _⟩ := byte_read h rfl 0 hn
  refine ⟨ad, rfl, fun j v hj => ?_⟩
  have hlt : j < l.length := by
    have := (List.getElem?_eq_some_iff.1 hj).1
    rwa [List.length_map] at this
  obtain ⟨ad', e, h2⟩ := byte_read h rfl j hlt
  obtain rfl := Option.some.inj e
  rw [h2, ← hj, List.getElem?_map, List.getD_eq_getElem?_getD, List.getElem?_eq_getElem hlt]
  rfl
theorem R_newer {W w1 : World} {v u : Value} {xs : List Int} {ys : List (List Int)} {b : Nat} {ok : Nat → Prop} (h : Kd.R (Kd.int .u8) 5 w1 W.heap.size (fun _ => True) v xs) (hu : Kd.R kB 40 W b ok u ys) : Kd.R (Kd.int .u8) 5 w1 W.heap.size (fun j => some j ≠ u.ownBlock) v xs := by
  obtain ⟨inner, ho⟩ := Kd.R_own hu
  exact Kd.R_mono (Kd.R_new h ho) (fun _ hk => hk.2)
theorem R_sliceN {w : World} {base : Nat} {v : Value} {xs : List Int} {n : Nat} (h : Kd.R (Kd.int .u8) 5 w base (fun _ => True) v xs) (hn : xs.length = n) : ∃ A c, v = .slice A n c := by
  obtain ⟨A, c, rfl⟩ := Kd.R_slice h
  exact ⟨A, c, by rw [hn]⟩
theorem chunkL_len (b : List Int) (tag : Int) (k : Nat) : (chunkL b tag k).length = 64 := by
  unfold chunkL crc4 four4
  rw [List.length_append, chunkP_len]
  rfl
theorem splice_two {α : Type} {z : α} (c6 cb : List α) (m : Nat) (h6 : c6.length = 6) (hb : 6 + cb.length ≤ m) : splice (splice (List.replicate m z) 0 c6) 6 cb = c6 ++ (cb ++ List.replicate (m - 6 - cb.length) z) := by
  unfold splice
  rw [List.take_zero, List.nil_append, Nat.zero_add, h6, List.drop_replicate, List.take_left' h6, List.drop_append, h6, List.drop_eq_nil_of_le (by omega), List.nil_append, List.drop_replicate]
  congr 3
  omega
set_option maxRecDepth 100000 in
set_option maxHeartbeats 4000000 in
theorem Cut_calls {w : World} {A : Option Addr} {n c : Nat} {l : List Int} {tag : Int} (H : Hv w) (h : Sb w A n c l) (ht : 1 ≤ tag ∧ tag ≤ 2147483647) (hn : n ≤ 3240) :
    Calls Tryd.prog 32 #[.slice A n c, .int .i64 tag] w (GivesCut (cutL l tag ((n + 53) / 54)) w) := by
  have H6 := Aside0.mk (fun W (k : Int) => six_calls (w := W) (k := k) (tag := tag))
  have HH := Aside0.mk H
  have SL := Aside0.mk h
  have ht1 := ht.1
  have ht2 := ht.2
  clear H h ht
  obtain ⟨m, hm⟩ : ∃ m, (n + 53) / 54 = m := ⟨_, rfl⟩
  have HM := Aside0.mk hm
  have hm1 : 54 * m ≤ n + 53 := by omega
  have hm2 : n ≤ 54 * m := by omega
  rw [hm]
  clear hm
  go_enter Tryd.func32, Tryd.ntmps32
  go_wp2
  go_loopw [6, 7] (fun v6 v7 wr => ∃ k : Nat, v7 = .int .i64 (k : Int) ∧ k ≤ m ∧ Aside0 (Kd.R kB 40 wr w.heap.size (fun _ => True) v6 (cutL l tag k)) ∧ Aside0 (Below w.heap.size w wr)) (fun _ v7 _ => m - (intOf v7).toNat)
  case atStart => exact ⟨0, rfl, Nat.zero_le _, ⟨Kd.R_nil _ _ _ _ _⟩, ⟨Below.refl _ _⟩⟩
  case round =>
    obtain ⟨k, rfl, hk, HR, HB⟩ := hrel
    by_cases hlt : k < m
    · have hlt' : 54 * k < n := by omega
      go_upto_region 10 with (fail)
      obtain ⟨D, hD⟩ : ∃ D, wr.alloc (Obj.cells #[Value.int .u8 0, Value.int .u8 0, Value.int .u8 0, Value.int .u8 0, Value.int .u8 0, Value.int .u8 0, Value.int .u8 0, Value.int .u8 0, Value.int .u8 0, Value.int .u8 0, Value.int .u8 0, Value.int .u8 0, Value.int .u8 0, Value.int .u8 0, Value.int .u8 0, Value.int .u8 0, Value.int .u8 0, Value.int .u8 0, Value.int .u8 0, Value.int .u8 0, Value.int .u8 0, Value.int .u8 0, Value.int .u8 0, Value.int .u8 0, Value.int .u8 0, Value.int .u8 0, Value.int .u8 0, Value.int .u8 0, Value.int .u8 0, Value.int .u8 0, Value.int .u8 0, Value.int .u8 0, Value.int .u8 0, Value.int .u8 0, Value.int .u8 0, Value.int .u8 0, Value.int .u8 0, Value.int .u8 0, Value.int .u8 0, Value.int .u8 0, Value.int .u8 0, Value.int .u8 0, Value.int .u8 0, Value.int .u8 0, Value.int .u8 0, Value.int .u8 0, Value.int .u8 0, Value.int .u8 0, Value.int .u8 0, Value.int .u8 0, Value.int .u8 0, Value.int .u8 0, Value.int .u8 0, Value.int .u8 0, Value.int .u8 0, Value.int .u8 0, Value.int .u8 0, Value.int .u8 0, Value.int .u8 0, Value.int .u8 0] 121) = D := ⟨_, rfl⟩
      have hbD : Below wr.heap.size wr D := by rw [← hD]; exact (Below.refl _ _).alloc (Nat.le_refl _) _
      have hkD : D.heap[wr.heap.size]? = some (.cells (List.replicate 60 (Value.int .u8 0)).toArray 121 (0, 0)) := by rw [← hD]; exact World.alloc_heap_new wr _
      rw [hD]
      have HKD := Aside0.mk hkD
      have HBD := Aside0.mk hbD
      clear hD hkD hbD
      go_upto_region 11 with (go_at_call 63; (with_reducible refine (H6.out _ _).mono ?_); rintro e w2 ⟨rfl, hb2⟩; have B2 := Aside0.mk hb2; clear hb2)
      have hq2 : (w2.alloc (Obj.cells #[Value.int .u8 ((k : Int) / 256 % 256), .int .u8 ((k : Int) % 256), .int .u8 (tag / 16777216 % 256), .int .u8 (tag / 65536 % 256), .int .u8 (tag / 256 % 256), .int .u8 (tag % 256)] 122)).heap[w2.heap.size]? = some (.cells ((six (k : Int) tag).map (Value.int .u8)).toArray 122 (0, 0)) := World.alloc_heap_new w2 _
      obtain ⟨W3, hW3⟩ : ∃ W3, (w2.alloc (Obj.cells #[Value.int .u8 ((k : Int) / 256 % 256), .int .u8 ((k : Int) % 256), .int .u8 (tag / 16777216 % 256), .int .u8 (tag / 65536 % 256), .int .u8 (tag / 256 % 256), .int .u8 (tag % 256)] 122)) = W3 := ⟨_, rfl⟩
      have hb3 : Below w2.heap.size w2 W3 := by rw [← hW3]; exact (Below.refl _ _).alloc (Nat.le_refl _) _
      rw [hW3] at hq2 ⊢
      have B3 := Aside0.mk (below_step HBD.out (below_step B2.out hb3))
      have P3 := Aside0.mk (blk_below (blk_below HKD.out B2.out) hb3)
      have Q3 := Aside0.mk hq2
      have hgq : wr.heap.size < w2.heap.size := Nat.lt_of_lt_of_le (blk_lt HKD.out) B2.out.size
      have HGQ := Aside0.mk (show wr.heap.size ≠ w2.heap.size by omega)
      clear hW3 hb3 hq2 hgq
      generalize w2.heap.size = q at Q3 HGQ ⊢
      obtain ⟨s6, hs6⟩ : ∃ s6, six (k : Int) tag = s6 := ⟨_, rfl⟩
      have hl6 : s6.length = 6 := by rw [← hs6]; rfl
      rw [hs6] at Q3
      have HS6 := Aside0.mk hs6
      clear hs6
      obtain ⟨c6, hc6⟩ : ∃ c6, s6.map (Value.int .u8) = c6 := ⟨_, rfl⟩
      have hn6 : c6.length = 6 := by rw [← hc6, List.length_map, hl6]
      have h16 : ∀ v ∈ c6, v.oneCell' = true := by rw [← hc6]; exact one_nums s6
      have HC6 := Aside0.mk hc6
      rw [hc6] at Q3
      clear hc6
      refine start_ (n := 3) (S := fun w' => True) (ds := []) #[false, false, false] (by kernel_rfl) rfl rfl trivial (fun hHeld => ?_)
      have P4 : Aside0 (W3.drew.heap[wr.heap.size]? = some (.cells (List.replicate 60 (Value.int .u8 0)).toArray 121 (0, 0))) := P3
      have Q4 : Aside0 (W3.drew.heap[q]? = some (.cells c6.toArray 122 (0, 0))) := Q3
      have B4 : Aside0 (Below wr.heap.size wr W3.drew) := ⟨below_drew1 B3.out⟩
      clear P3 Q3 B3
      generalize W3.drew = D4 at P4 Q4 B4 hHeld ⊢
      generalize hg : wr.heap.size = g at P4 B4 HGQ ⊢
      have HG := Aside0.mk hg
      clear hg
      refine pure_ (i := 0) (N := some 31) (v := ?_) (a' := ?_) #[true, false, false] rfl rfl (by kernel_rfl) (fun _ _ _ h => h) (Or.inl ⟨by rfl, ?_⟩) ?_ ?_
      rotate_left
      · intro w'
        go_simp
        with_reducible rfl
      rotate_left
      · simp only [Act.put, List.setIfInBounds_toArray, List.set_cons_zero, List.set_cons_succ, i64_w, i32_w]
        rfl
      refine pure_ (i := 1) (N := some 32) (v := ?_) (a' := ?_) #[true, true, false] rfl rfl (by kernel_rfl) (fun _ _ _ h => h) (Or.inl ⟨by rfl, ?_⟩) ?_ ?_
      rotate_left
      · intro w'
        go_simp
        with_reducible rfl
      rotate_left
      · simp only [Act.put, List.setIfInBounds_toArray, List.set_cons_zero, List.set_cons_succ, i64_w, i32_w]
        rfl
      refine one_ (i := 2) (N := some 33) #[true, true, true] rfl rfl (by kernel_rfl) (by decide) (fun K hK => ?_)
      refine step_copy_splice rfl (.tmp 31) (.tmp 32) 40 40 rfl 5 Tryd.underlying40 size5 (some ⟨g, 0, none⟩) (some ⟨q, 0, none⟩) 6 6 6 6 rfl rfl g 0 (List.replicate 60 (Value.int .u8 0)) 121 P4.out c6 (by rw [hn6]; rfl) (fun _ => ⟨rfl, _, rfl, src_blk Q4.out⟩) (by rw [hn6]; simp) h16 g wr B4.out (Nat.le_refl _) ?_
      intro W5 hg5 hb5
      have P5 := Aside0.mk hg5.out
      have B5 := Aside0.mk hb5
      clear hg5 hb5
      rw [hn6]
      refine hK.out _ _ trivial (fun hHeld => ?_)
      clear hK K
      refine norm_ (a' := ?_) ?_ ?_
      rotate_left
      · show Act.put _ (some 33) _ = _
        simp only [Act.put, List.setIfInBounds_toArray, List.set_cons_zero, List.set_cons_succ, i64_w, i32_w]
        rfl
      refine done_ (by kernel_rfl) ?_
      go_upto_region 12 with (fail)
      obtain ⟨y, hy⟩ : ∃ y, 54 * k = y := ⟨_, rfl⟩
      obtain ⟨bs, hbs⟩ : ∃ bs, (l.drop y).take 54 = bs := ⟨_, rfl⟩
      have hln := SL.out.hn
      have hnc := SL.out.hc
      have hlb : bs.length = min 54 (n - y) := by rw [← hbs, List.length_take, List.length_drop, hln]
      obtain ⟨cb, hcb⟩ : ∃ cb, bs.map (Value.int .u8) = cb := ⟨_, rfl⟩
      have hlcb : cb.length = min (n - y) 54 := by rw [← hcb, List.length_map, hlb, Nat.min_comm]
      have h1b : ∀ v ∈ cb, v.oneCell' = true := by rw [← hcb]; exact one_nums bs
      have HWR := HB.out
      have hsr : ∃ ad, restA A c (y) = some ad ∧ ∀ j v, cb[j]? = some v → w.cell? (ad.add j) = some v := by
        have hC0 : Kd.C (Kd.int .u8) w A l.length l := by rw [hln]; exact SL.out.hC
        have h1 := C_drop hC0 (show l.length ≤ c by omega) (show y ≤ l.length by omega)
        have h2 : Kd.C (Kd.int .u8) w (restA A c (y)) (l.drop (y)).length (l.drop (y)) := by rw [List.length_drop]; exact h1
        have h3 := C_take h2 (show bs.length ≤ (l.drop (y)).length by rw [List.length_drop]; omega)
        have e3 : (l.drop (y)).take bs.length = bs := by
          rw [← hbs, List.length_take, List.take_eq_take_iff]
          simp
        rw [e3] at h3
        rw [← hcb]
        exact src_C h3 (by omega)
      obtain ⟨ad, had, hsrc⟩ := hsr
      have hsrc5 : ∀ j v, cb[j]? = some v → W5.cell? (ad.add j) = some v := fun j v hj => by
        have hx := hsrc j v hj
        exact (B5.out.cell (p := ad.add j) (by have h7 := World.block_lt_of_cell? w _ hx; have h8 := HWR.size; have h9 := HG.out; omega)).trans ((HWR.cell (p := ad.add j) (World.block_lt_of_cell? w _ hx)).trans hx)
      have HSRC := Aside0.mk hsrc5
      have HAD := Aside0.mk had
      have HBS := Aside0.mk hbs
      have HCB := Aside0.mk hcb
      have hrf := fun W => run_from (A := A) (c := c) (y := y) (n := n) (by omega) W
      clear hsrc hsrc5 had hbs hcb HWR hln
      have hmul : IntKind.i64.wrap ((k : Int) * 54) = (y : Int) := by rw [IntKind.wrap_i64]; omega
      have HY := Aside0.mk hy
      have hyn : y < n := by omega
      clear hy
      refine start_ (n := 6) (S := fun w' => True) (ds := []) #[false, false, false, false, false, false] (by kernel_rfl) rfl rfl trivial (fun hHeld => ?_)
      have P6 : Aside0 (W5.drew.heap[g]? = some (.cells (splice (List.replicate 60 (Value.int .u8 0)) 0 c6).toArray 121 (0, 0))) := P5
      have B6 : Aside0 (Below g wr W5.drew) := ⟨below_drew B5.out⟩
      have SR : Aside0 (∀ j v, cb[j]? = some v → W5.drew.cell? (ad.add j) = some v) := HSRC
      clear P5 B5 HSRC
      generalize W5.drew = D6 at P6 B6 SR hHeld ⊢
      refine pure_ (i := 0) (N := some 34) (v := ?_) (a' := ?_) #[true, false, false, false, false, false] rfl rfl (by kernel_rfl) (fun _ _ _ h => h) (Or.inl ⟨by rfl, ?_⟩) ?_ ?_
      rotate_left
      · intro w'
        go_simp
        with_reducible rfl
      rotate_left
      · simp only [Act.put, List.setIfInBounds_toArray, List.set_cons_zero, List.set_cons_succ, i64_w, i32_w]
        rfl
      refine pure_ (i := 1) (N := some 35) (v := ?_) (a' := ?_) #[true, true, false, false, false, false] rfl rfl (by kernel_rfl) (fun _ _ _ h => h) (Or.inl ⟨by rfl, ?_⟩) ?_ ?_
      rotate_left
      · intro w'
        go_simp
        with_reducible rfl
      rotate_left
      · simp only [Act.put, List.setIfInBounds_toArray, List.set_cons_zero, List.set_cons_succ, i64_w, i32_w]
        rfl
      refine pure_ (i := 2) (N := some 36) (v := ?_) (a' := ?_) #[true, true, true, false, false, false] rfl rfl (by kernel_rfl) (fun _ _ _ h => h) (Or.inl ⟨by rfl, ?_⟩) ?_ ?_
      rotate_left
      · intro w'
        go_simp
        with_reducible rfl
      rotate_left
      · simp only [Act.put, List.setIfInBounds_toArray, List.set_cons_zero, List.set_cons_succ, i64_w, i32_w]
        rfl
      refine pure_ (i := 3) (N := some 37) (v := ?_) (a' := ?_) #[true, true, true, true, false, false] rfl rfl (by kernel_rfl) (fun _ _ _ h => h) (Or.inl ⟨by rfl, ?_⟩) ?_ ?_
      rotate_left
      · intro w'
        go_simp
        with_reducible rfl
      rotate_left
      · simp only [Act.put, List.setIfInBounds_toArray, List.set_cons_zero, List.set_cons_succ, i64_w, i32_w]
        rfl
      clear hmul
      refine pure_ (i := 4) (N := some 38) (v := ?_) (a' := ?_) #[true, true, true, true, true, false] rfl rfl (by kernel_rfl) (fun _ _ _ h => h) (Or.inl ⟨by rfl, ?_⟩) ?_ ?_
      rotate_left
      · intro w'
        (go_simp; (try rw [hrf]))
        with_reducible rfl
      rotate_left
      · simp only [Act.put, List.setIfInBounds_toArray, List.set_cons_zero, List.set_cons_succ, i64_w, i32_w]
        rfl
      refine one_ (i := 5) (N := some 39) #[true, true, true, true, true, true] rfl rfl (by kernel_rfl) (by decide) (fun K hK => ?_)
      refine step_copy_splice rfl (.tmp 34) (.tmp 38) 40 40 rfl 5 Tryd.underlying40 size5 (some ⟨g, 6, none⟩) (restA A c y) 54 54 (n - y) (c - y) rfl rfl g 6 (splice (List.replicate 60 (Value.int .u8 0)) 0 c6) 121 P6.out cb hlcb (fun _ => ⟨rfl, ad, HAD.out, SR.out⟩) (by rw [length_splice _ _ _ (by rw [hn6]; simp), hlcb]; simp; omega) h1b g wr B6.out (Nat.le_refl _) ?_
      intro W7 hg7 hb7
      have P7 := Aside0.mk hg7.out
      have B7 := Aside0.mk hb7
      clear hg7 hb7
      refine hK.out _ _ trivial (fun hHeld => ?_)
      clear hK K
      refine norm_ (a' := ?_) ?_ ?_
      rotate_left
      · show Act.put _ (some 39) _ = _
        simp only [Act.put, List.setIfInBounds_toArray, List.set_cons_zero, List.set_cons_succ, i64_w, i32_w]
        rfl
      refine done_ (by kernel_rfl) ?_
      have P8 : Aside0 (W7.heap[g]? = some (.cells ((chunkP l tag k).map (Value.int .u8)).toArray 121 (0, 0))) := ⟨by
        have h1 := P7.out
        rw [splice_two c6 cb 60 hn6 (by omega)] at h1
        rw [h1, ← HC6.out, ← HCB.out, ← HS6.out]
        unfold chunkP
        rw [HY.out, HBS.out]
        simp⟩
      clear P7
      have hB7w : Below wr.heap.size wr W7 := by rw [HG.out]; exact B7.out
      have B8 := Aside0.mk (below_step HB.out hB7w)
      have R8 := Aside0.mk (Kd.R_below HR.out hB7w)
      have S8 : Sb W7 (some ⟨g, 0, none⟩) 60 60 (chunkP l tag k) := ⟨by
        have h2 := C_lit (W := W7) (g := g) (zs := chunkP l tag k) (by rw [chunkP_len]; omega) (fun j hj => by
          rw [blk_cell P8.out, List.getElem?_toArray, List.getElem?_map, List.getD_eq_getElem?_getD, List.getElem?_eq_getElem hj]
          rfl)
        rw [chunkP_len] at h2
        exact h2, chunkP_len _ _ _, by omega, by omega⟩
      have CS : Aside0 (Calls Tryd.prog 64 #[.slice (some ⟨g, 0, none⟩) 60 60] W7 (GivesOb (chunkL l tag k) W7)) := ⟨Seal_calls (HH.out.below B8.out) S8 (by omega)⟩
      clear S8 hB7w hHeld hlcb hlb h1b h16 hn6 hl6
      go_wp2_with (first
        | (go_at_call 64; (with_reducible refine CS.out.mono ?_); rintro e w8 ⟨v8, rfl, ho8, hb8⟩; obtain ⟨A8, c8, rfl⟩ := R_sliceN ho8 (chunkL_len l tag k); have HO8 := Aside0.mk ho8; have HB8 := Aside0.mk hb8; clear ho8 hb8)
        | ((with_reducible refine gate_dst (N := 44) rfl ?_); at_builtin; refine Kd.R_append kB (w0 := w) w.heap.size rfl (.tmp 40) (.tmp 43) 83 40 (.slice none 0 0) 24 rfl u83 info40 rfl (by decide) (by decide) u6 (cutL l tag k) (chunkL l tag k) [_] (fun _ => True) (fun j => some j ≠ u6.ownBlock) rfl rfl (Kd.M_row (Kd.R_lower (R_newer HO8.out R8.out) B8.out.size)) (fun _ hj => ⟨trivial, hj⟩) (fun _ _ => trivial) (Kd.R_below R8.out HB8.out) (below_step B8.out HB8.out) (below_step B8.out HB8.out).size (by simp [cutL]; omega) ?_; intro v9 w9 ho9 hb9 hg9 hat9; have HO9 := Aside0.mk ho9; have HB9 := Aside0.mk hb9; clear ho9 hb9 hg9 hat9))
      go_roundw
      case measure => simp [intOf]; omega
      case rel => exact ⟨k + 1, by go_num, by omega, ⟨by rw [cut_succ]; exact HO9.out⟩, HB9⟩
    · have hlt' : ¬ (k : Int) * 54 < (n : Int) := by omega
      obtain rfl : k = m := by omega
      go_wp2
      go_ret2
      exact ⟨_, rfl, HR.out, HB.out⟩
end Go.Proofs.YtenjldfflkinkaaDoor.Sav

namespace Go.Proofs.YtenjldfflkinkaaDoor.Sav
set_option linter.unusedVariables false
set_option linter.unusedSimpArgs false
open Go.RowKit Go.Proofs.YtenjldfflkinkaaDoor.F Go.Proofs.YtenjldfflkinkaaDoorW.PrintWords Go.Proofs.YtenjldfflkinkaaDoorW.PrintLast Go.Proofs.YtenjldfflkinkaaDoorW.PrintMore
attribute [local go_sem] max2_int min2_int max_two min_two
/-- a chunk's own bytes -/
def ownB (l : List Int) : List Int := (l.take 60).drop 6
/-- sector k is chunk k of so many bytes -/
def Good (l : List Int) (k : Nat) (tag : Int) (s : Nat) : Prop := Chk l (k : Int) tag ∧ ∀ x ∈ (ownB l).drop (min 54 (s - 54 * k)), x = 0
def joinL (ls : List (List Int)) (s : Nat) : Nat → List Int
  | 0 => []
  | k + 1 => joinL ls s k ++ (ownB (ls.getD k [])).take (min 54 (s - 54 * k))
def JoinOk (ls : List (List Int)) (tag : Int) (s : Nat) : Prop := ∀ k, k < ls.length → Good (ls.getD k []) k tag s
theorem joinL_len {ls : List (List Int)} {s : Nat} (h64 : ∀ x ∈ ls, x.length = 64) : ∀ k, k ≤ ls.length → (joinL ls s k).length = min (54 * k) s := by
  intro k
  induction k with
  | zero => intro _; simp [joinL]
  | succ k ih =>
    intro hk
    have hl : (ls.getD k []).length = 64 := by
      rw [List.getD_eq_getElem?_getD, List.getElem?_eq_getElem (show k < ls.length by omega)]
      exact h64 _ (List.getElem_mem _)
    have h1 := ih (by omega)
    unfold joinL ownB
    rw [List.length_append, h1, List.length_take, List.length_drop, List.length_take, hl]
    omega
/-- what Join tells -/
def GivesJoin (ls : List (List Int)) (tag : Int) (s : Nat) (w : World) (e : Ending) (w' : World) : Prop :=
  ∃ (v : Value) (q : Int), e = .returned (.tuple #[v, .int .i64 q]) ∧ Below w.heap.size w w' ∧ ((JoinOk ls tag s ∧ q = 0 ∧ Kd.R (Kd.int .u8) 5 w' w.heap.size (fun _ => True) v (joinL ls s ls.length)) ∨ (¬ JoinOk ls tag s ∧ q ≠ 0))
theorem count_f (s : Nat) (hs : s ≤ 1000000) : chunk_Count.f (s : Int) = some (((s + 53) / 54 : Nat) : Int) := by
  unfold chunk_Count.f
  by_cases h : s = 0
  · subst h; rfl
  · rw [if_neg (by omega)]
    congr 1
    rw [show wrap64 ((s : Int) - 1) = ((s - 1 : Nat) : Int) from by unfold wrap64; omega, Int.tdiv_eq_ediv_of_nonneg (by omega)]
    unfold wrap64
    omega
theorem own_sbN {w1 : World} {base n : Nat} {v : Value} {l : List Int} {ok : Nat → Prop} (h : Kd.R (Kd.int .u8) 5 w1 base ok v l) (hn : l.length = n) : ∃ A c, v = .slice A n c ∧ Sb w1 A n c l := by
  subst hn
  obtain ⟨A, c, rfl⟩ := Kd.R_slice h
  exact ⟨A, c, rfl, (Kd.R_reads' h).2.2, rfl, (Kd.R_reads' h).2.1, R_cap h⟩
theorem nz_false {x : Int} (h : x ≠ 0) : (x == 0) = false := by simpa using h
set_option maxRecDepth 100000 in
set_option maxHeartbeats 4000000 in
theorem Join_calls {w : World} {A : Option Addr} {n c s : Nat} {ls : List (List Int)} {tag : Int} (H : Hv w) {base : Nat} {ok : Nat → Prop} (h : Kd.R kB 40 w base ok (.slice A n c) ls) (hln : ls.length = n) (h64 : ∀ x ∈ ls, x.length = 64) (ht : 1 ≤ tag ∧ tag ≤ 2147483647) (hs : s ≤ 3240) (hn : n = (s + 53) / 54) :
    Calls Tryd.prog 51 #[.slice A n c, .int .i64 tag, .int .i64 (s : Int)] w (GivesJoin ls tag s w) := by
  have hcount := fun W => chunk_Count.calls (s : Int) (n : Int) W (by rw [hn]; exact count_f s (by omega))
  have HCO := Aside0.mk hcount
  have HH := Aside0.mk H
  have HC := Aside0.mk h
  have HLN := Aside0.mk hln
  have H64 := Aside0.mk h64
  have HN := Aside0.mk hn
  have ht1 := ht.1
  have ht2 := ht.2
  have hn1 : n ≤ 60 := by omega
  have hn2 : 54 * n < s + 54 := by omega
  have hn3 : s ≤ 54 * n := by omega
  clear H h hln h64 ht hcount hn
  go_enter Tryd.func51, Tryd.ntmps51
  go_wp2_with (go_at_call 50; (with_reducible refine (HCO.out _).mono ?_); rintro e w1 ⟨rfl, hd⟩; have HB1 := Aside0.mk hd.below; clear hd)
  go_loopw [8, 39] (fun v8 v39 wr => ∃ k : Nat, v39 = .int .i64 (k : Int) ∧ k ≤ n ∧ Aside0 (∀ j, j < k → Good (ls.getD j []) j tag s) ∧ Aside0 (Kd.R (Kd.int .u8) 5 wr w.heap.size (fun _ => True) v8 (joinL ls s k)) ∧ Aside0 (Below w.heap.size w wr)) (fun _ v39 _ => n - (intOf v39).toNat)
  case atStart => exact ⟨0, rfl, Nat.zero_le _, ⟨fun j hj => by omega⟩, ⟨Kd.R_nil _ _ _ _ _⟩, HB1⟩
  case round =>
    obtain ⟨k, rfl, hk, HG, HR, HB⟩ := hrel
    by_cases hlt : k < n
    · have hlt' : (k : Int) < (n : Int) := by omega
      obtain ⟨lk, hlk⟩ : ∃ lk, ls.getD k [] = lk := ⟨_, rfl⟩
      have hl64 : lk.length = 64 := by
        rw [← hlk, List.getD_eq_getElem?_getD, List.getElem?_eq_getElem (show k < ls.length by rw [HLN.out]; omega)]
        exact H64.out _ (List.getElem_mem _)
      obtain ⟨ad, ca, hva⟩ := Kd.R_slice1 HC.out (show 0 < ls.length by rw [HLN.out]; omega)
      obtain ⟨rfl, rfl⟩ : A = some ad ∧ c = ca := by
        injection hva with h1 h2 h3
        exact ⟨h1, h3⟩
      obtain ⟨cs, _, ⟨vk, rfl, hRk⟩, hcell⟩ := Kd.R_getA HC.out ([] : List Int) (k : Int) (by omega) (by omega)
      rw [Int.toNat_natCast, hlk] at hRk
      obtain ⟨Ak, ck, rfl, hSk0⟩ := own_sbN hRk hl64
      have hc0 : w.cell? (ad.add k) = some (.slice Ak 64 ck) := by
        have := hcell 0 _ rfl
        rw [Int.toNat_natCast] at this
        rw [show kB.sz = 1 from rfl, Nat.mul_one, Nat.add_zero] at this
        exact this
      have hc1 : wr.cell? (ad.add k) = some (.slice Ak 64 ck) := (HB.out.cell (World.block_lt_of_cell? w _ hc0)).trans hc0
      obtain ⟨v8, c8, rfl⟩ := Kd.R_slice HR.out
      have hjl := joinL_len (ls := ls) (s := s) H64.out k (by rw [HLN.out]; omega)
      obtain ⟨left, hleft⟩ : ∃ left : Nat, min 54 (s - 54 * k) = left := ⟨_, rfl⟩
      have hSk : Sb wr Ak 64 ck lk := hSk0.below HB.out
      have CO := Aside0.mk (open_calls (k := (k : Int)) (tag := tag) (HH.out.below HB.out) hSk)
      have HLK := Aside0.mk hlk
      have HLF := Aside0.mk hleft
      obtain ⟨ol, hol⟩ : ∃ ol, (joinL ls s k).length = ol := ⟨_, rfl⟩
      rw [hol] at hjl ⊢
      have hol1 : ol = 54 * k := by omega
      have HOL := Aside0.mk hol1
      have HOL2 := Aside0.mk hol
      have hol3 : ol ≤ s := by omega
      clear hc0 hcell hRk hSk0 hlk hleft hjl hol hol1 hSk hva
      go_upto_region 8 with (go_at_call 74; (with_reducible refine CO.out.mono ?_); rintro e w2 ⟨v, q, rfl, hb2, hcase⟩; have HCA := Aside0.mk hcase; have HB2 := Aside0.mk hb2; clear hb2 hcase)
      rcases HCA.out with ⟨g1, rfl, A3, c3, rfl, hs3⟩ | ⟨g1, hq⟩
      · have HS3 := Aside0.mk hs3
        have hc3 := hs3.hc
        have HGD := Aside0.mk g1
        have hsub : wrap64 ((s : Int) - (ol : Int)) = ((s - ol : Nat) : Int) := by unfold wrap64; omega
        have hsub0 : (s : Int) - (ol : Int) = ((s - ol : Nat) : Int) := by omega
        have hmin : (if ((s - ol : Nat) : Int) < 54 then ((s - ol : Nat) : Int) else 54) = (left : Int) := by
          have := HLF.out; have := HOL.out
          split <;> omega
        have hl54 : left ≤ 54 := by have := HLF.out; omega
        have hrf := fun W => run_from (A := A3) (c := c3) (y := left) (n := 54) hl54 W
        have hrt := fun W => run_to (A := A3) (c := c3) (x := left) (n := 54) hl54 hc3 W
        clear hs3 g1 HCA
        go_upto_region 12 with (fail)
        have HRS : Aside0 (Kd.C (Kd.int .u8) w2 (restA A3 c3 left) (54 - left) ((ownB lk).drop left)) := ⟨by
          have h9 := C_drop (c := c3) (y := left) (show Kd.C (Kd.int .u8) w2 A3 (ownB lk).length (ownB lk) by
            have h8 := HS3.out.hC
            have h7 := HS3.out.hn
            unfold ownB
            rw [h7]
            exact h8) (by have h7 := HS3.out.hn; unfold ownB; omega) (by have h7 := HS3.out.hn; unfold ownB; omega)
          have h7 : (ownB lk).length = 54 := HS3.out.hn
          rw [h7] at h9
          exact h9⟩
        have hrl : ((ownB lk).drop left).length = 54 - left := by
          have h7 : (ownB lk).length = 54 := HS3.out.hn
          rw [List.length_drop, h7]
        have HRL := Aside0.mk hrl
        obtain ⟨rs, hrs⟩ : ∃ rs, (ownB lk).drop left = rs := ⟨_, rfl⟩
        rw [hrs] at HRS HRL
        have HRSE := Aside0.mk hrs
        obtain ⟨rn, hrn⟩ : ∃ rn, 54 - left = rn := ⟨_, rfl⟩
        rw [hrn] at HRS HRL ⊢
        have HRN := Aside0.mk hrn
        have hrn54 : rn ≤ 54 := by omega
        obtain ⟨RA, hra⟩ : ∃ RA, restA A3 c3 left = RA := ⟨_, rfl⟩
        rw [hra] at HRS ⊢
        clear hrl hrs hrn hra hrf hsub hsub0 hmin
        have hgood : Aside0 (∀ x ∈ rs, x = 0) → Good lk k tag s := fun hz => ⟨HGD.out, by rw [HLF.out, HRSE.out]; exact hz.out⟩
        have HGOOD := Aside0.mk hgood
        clear hgood
        obtain ⟨W2, hW2⟩ : ∃ W2 : World, W2 = w2 := ⟨_, rfl⟩
        go_loopw [63] (fun v63 wq => ∃ i : Nat, v63 = .int .i64 (i : Int) ∧ i ≤ rn ∧ Aside0 (∀ j, j < i → rs.getD j 0 = 0) ∧ wq = w2) (fun v63 _ => rn - (intOf v63).toNat)
        case atStart => exact ⟨0, rfl, Nat.zero_le _, ⟨fun j hj => by omega⟩, rfl⟩
        case round =>
          obtain ⟨i, rfl, hi, HZ, rfl⟩ := hrel
          by_cases hlt3 : i < rn
          · have hlt4 : (i : Int) < (rn : Int) := by omega
            obtain ⟨ad3, rfl, hbx⟩ := byte_read HRS.out HRL.out i hlt3
            obtain ⟨x, hx⟩ : ∃ x, rs.getD i 0 = x := ⟨_, rfl⟩
            rw [hx] at hbx
            have HX := Aside0.mk hx
            clear hx
            by_cases hx0 : x = 0
            · subst hx0
              go_wp2
              go_roundw
              case measure => simp [intOf]; omega
              case rel =>
                refine ⟨i + 1, by go_num, by omega, ⟨fun j hj => ?_⟩, by first | rfl | trivial⟩
                rcases Nat.lt_succ_iff_lt_or_eq.1 hj with h | h
                · exact HZ.out j h
                · subst h; exact HX.out
            · have hx1 := nz_false hx0
              have HX0 := Aside0.mk hx0
              clear hx0
              go_wp2
              go_ret2
              refine ⟨.slice none 0 0, 50, rfl, below_step HB.out HB2.out, .inr ⟨fun hok => ?_, by decide⟩⟩
              have h1 := (hok k (by rw [HLN.out]; omega)).2
              rw [HLK.out, HLF.out, HRSE.out] at h1
              have hir : i < rs.length := by rw [HRL.out]; exact hlt3
              refine HX0.out ?_
              rw [← HX.out, List.getD_eq_getElem?_getD, List.getElem?_eq_getElem hir]
              exact h1 _ (List.getElem_mem _)
          · obtain rfl : i = rn := by omega
            have hzz : ∀ x ∈ rs, x = 0 := fun x hx => by
              obtain ⟨j, hj, rfl⟩ := List.mem_iff_getElem.1 hx
              have := HZ.out j (by rw [HRL.out] at hj; exact hj)
              rw [List.getD_eq_getElem?_getD, List.getElem?_eq_getElem hj] at this
              exact this
            have HGK := Aside0.mk (HGOOD.out ⟨hzz⟩)
            have HTK : Aside0 (Kd.C (Kd.int .u8) wr A3 left ((ownB lk).take left)) := ⟨C_take (show Kd.C (Kd.int .u8) wr A3 (ownB lk).length (ownB lk) by
              have h8 := HS3.out.hC
              have h7 : (ownB lk).length = 54 := HS3.out.hn
              rw [h7]
              exact h8) (by have h7 : (ownB lk).length = 54 := HS3.out.hn; omega)⟩
            clear hzz
            go_wp2_with ((with_reducible refine gate_dst (N := 74) rfl ?_); at_builtin; refine Kd.R_append_rows (Kd.int .u8) (w0 := w) w.heap.size rfl (.tmp 70) (.tmp 73) 40 5 (.int .u8 0) 1 rfl Tryd.underlying40 info5 rfl (by decide) (by omega) (.slice v8 ol c8) (joinL ls s k) ((ownB lk).take left) _ _ _ (fun _ => True) (fun _ => False) rfl rfl (by have := Kd.R_below HR.out HB2.out; rw [HOL2.out] at this; exact this) HTK.out (fun _ _ h => h) (fun _ h => h.elim) (fun _ _ => trivial) (below_step HB.out HB2.out) (below_step HB.out HB2.out).size (by simp [HOL2.out]; omega) ?_; intro v9 w9 ho9 hb9 hg9 hn9; have HO9 := Aside0.mk ho9; have HB9 := Aside0.mk hb9; clear ho9 hb9 hg9 hn9)
            go_roundw
            case measure => simp [intOf]; omega
            case rel =>
              refine ⟨k + 1, by go_num, by omega, ⟨fun j hj => ?_⟩, ⟨?_⟩, HB9⟩
              · rcases Nat.lt_succ_iff_lt_or_eq.1 hj with h | h
                · exact HG.out j h
                · subst h; rw [HLK.out]; exact HGK.out
              · rw [joinL, HLK.out, HLF.out]; exact HO9.out
      · have hq1 := nz_false hq
        have HG1 := Aside0.mk g1
        clear g1 hq HCA
        go_wp2
        go_ret2
        refine ⟨.slice none 0 0, q, rfl, below_step HB.out HB2.out, .inr ⟨fun hok => ?_, by simpa using hq1⟩⟩
        have h1 := (hok k (by rw [HLN.out]; omega)).1
        rw [HLK.out] at h1
        exact HG1.out h1
    · obtain rfl : k = n := by omega
      go_wp2
      go_ret2
      exact ⟨_, 0, rfl, HB.out, .inl ⟨fun j hj => HG.out j (by rw [HLN.out] at hj; exact hj), rfl, by rw [HLN.out]; exact HR.out⟩⟩
end Go.Proofs.YtenjldfflkinkaaDoor.Sav

namespace Go.Proofs.YtenjldfflkinkaaDoor.Sav
set_option linter.unusedVariables false
set_option linter.unusedSimpArgs false
open Go.RowKit Go.Proofs.YtenjldfflkinkaaDoor.F Go.Proofs.YtenjldfflkinkaaDoorW.PrintWords Go.Proofs.YtenjldfflkinkaaDoorW.PrintLast Go.Proofs.YtenjldfflkinkaaDoorW.PrintMore
/-- block k has one of these types -/
def Ty (w : World) (T : List Nat) (k : Nat) : Prop := ∃ cs t, t ∈ T ∧ w.heap[k]? = some (.cells cs t (0, 0))
/-- all is kept but blocks of these types, from B on, and what is new -/
structure Mv (B : Nat) (T : List Nat) (w w' : World) : Prop where
  os : w'.os = w.os
  tape : w'.tape = w.tape
  output : w'.output = w.output
  size : w.heap.size ≤ w'.heap.size
  block : ∀ k, k < w.heap.size → ¬ (B ≤ k ∧ Ty w T k) → w'.heap[k]? = w.heap[k]?
theorem Mv.refl (B : Nat) (T : List Nat) (w : World) : Mv B T w w := ⟨rfl, rfl, rfl, Nat.le_refl _, fun _ _ _ => rfl⟩
theorem Mv.of_below {B : Nat} {T : List Nat} {w w' : World} (h : Below w.heap.size w w') : Mv B T w w' := ⟨h.os, h.tape, h.output, h.size, fun k hk _ => h.block k hk⟩
theorem Mv.trans {B : Nat} {T : List Nat} {a b c : World} (h : Mv B T a b) (k : Mv B T b c) : Mv B T a c :=
  ⟨k.os.trans h.os, k.tape.trans h.tape, k.output.trans h.output, Nat.le_trans h.size k.size, fun i hi hn => by
    have h1 := h.block i hi hn
    refine (k.block i (Nat.lt_of_lt_of_le hi h.size) (fun hk => hn ⟨hk.1, ?_⟩)).trans h1
    obtain ⟨cs, t, ht, hc⟩ := hk.2
    exact ⟨cs, t, ht, h1 ▸ hc⟩⟩
theorem Mv.mono {B B' : Nat} {T T' : List Nat} {w w' : World} (h : Mv B T w w') (hB : B' ≤ B) (hT : ∀ t, t ∈ T → t ∈ T') : Mv B' T' w w' :=
  ⟨h.os, h.tape, h.output, h.size, fun k hk hn => h.block k hk (fun hx => hn ⟨Nat.le_trans hB hx.1, by obtain ⟨cs, t, ht, hc⟩ := hx.2; exact ⟨cs, t, hT t ht, hc⟩⟩)⟩
theorem Mv.below {B : Nat} {T : List Nat} {w w' : World} (h : Mv B T w w') (hB : B ≤ w.heap.size) : Below B w w' := ⟨h.os, h.tape, h.output, h.size, fun k hk => h.block k (by omega) (fun hx => by omega)⟩
theorem Mv.drew {B : Nat} {T : List Nat} {w w' : World} (h : Mv B T w w') : Mv B T w w'.drew := ⟨h.os, h.tape, h.output, h.size, h.block⟩
theorem Mv.setCell {B : Nat} {T : List Nat} {w w' : World} (h : Mv B T w w') {g i : Nat} {cs : Array Value} {t : Nat} (hg : w'.heap[g]? = some (.cells cs t (0, 0))) (ht : t ∈ T) (hB : B ≤ g) (u : Value) : Mv B T w (w'.setCell ⟨g, i, none⟩ u) :=
  h.trans ⟨rfl, rfl, rfl, by simp [World.setCell], fun k hk hn => Below.heap_setCell _ _ _ _ (fun e => hn ⟨by rw [e]; exact hB, cs, t, ht, by rw [e]; exact hg⟩)⟩
theorem Mv.blk {B : Nat} {T : List Nat} {w w' : World} (h : Mv B T w w') {g : Nat} {cs : Array Value} {t : Nat} (hg : w.heap[g]? = some (.cells cs t (0, 0))) (ht : t ∉ T) : w'.heap[g]? = some (.cells cs t (0, 0)) := by
  refine (h.block g (blk_lt hg) (fun hx => ?_)).trans hg
  obtain ⟨cs', t', ht', hc⟩ := hx.2
  rw [hg] at hc
  injection hc with hc
  injection hc with _ hc _
  exact ht (hc ▸ ht')
theorem Mv.cell {B : Nat} {T : List Nat} {w w' : World} (h : Mv B T w w') {a : Addr} {v : Value} (hc : w.cell? a = some v) (hn : ¬ (B ≤ a.block ∧ Ty w T a.block)) : w'.cell? a = some v := by
  have := h.block a.block (World.block_lt_of_cell? w a hc) hn
  simpa [World.cell?, this] using hc
theorem Mv.R {α : Type} {d : Kd α} {e base B : Nat} {ok : Nat → Prop} {T : List Nat} {w w' : World} {v : Value} {xs : List α} (h : Mv B T w w') (hR : Kd.R d e w base ok v xs) (ht : ∀ t, t ∈ e :: d.E → t ∉ T) : Kd.R d e w' base ok v xs := by
  refine Kd.R_mono (Kd.R_step (Kd.R_bound hR) (fun k hk hlt => h.block k hlt (fun hx => ?_))) (fun k hk => hk.1)
  obtain ⟨_, _, _, q, hq, cells, hc⟩ := hk
  obtain ⟨cs', t', ht', hc'⟩ := hx.2
  rw [hc] at hc'
  injection hc' with hc'
  injection hc' with _ hc' _
  exact ht q hq (hc' ▸ ht')
/-- a sector; a write that waits -/
abbrev kS : Kd (List Int) := Kd.arr 64 (Kd.int .u8) (by decide)
abbrev kW : Kd (Int × List Int) := Kd.pair (Kd.int .i64) kS
def DT : List Nat := [58, 95, 97]
/-- a disk lies at p: its sectors, what waits, stopped, left -/
structure Dk (B : Nat) (W : World) (p : Nat) (L : List (List Int)) (Ws : List (Int × List Int)) (st : Bool) (lf : Int) : Prop where
  hB : B ≤ p
  blk : ∃ vl vw stp, W.heap[p]? = some (.cells #[vl, vw, .int .i64 stp, .bool st, .int .i64 lf] 58 (0, 0)) ∧ Kd.R kS 95 W B (fun _ => True) vl L ∧ Kd.R kW 97 W B (fun _ => True) vw Ws
theorem Dk.below {B : Nat} {W W' : World} {p : Nat} {L : List (List Int)} {Ws : List (Int × List Int)} {st : Bool} {lf : Int} (h : Dk B W p L Ws st lf) (hb : Below W.heap.size W W') : Dk B W' p L Ws st lf := by
  obtain ⟨h0, vl, vw, stp, h1, h2, h3⟩ := h
  exact ⟨h0, vl, vw, stp, blk_below h1 hb, Kd.R_below h2 hb, Kd.R_below h3 hb⟩
theorem kS_M {w : World} {base : Nat} {ok : Nat → Prop} {x : List Int} {cs : List Value} : kS.M w base ok x cs ↔ x.length = 64 ∧ cs = x.map (Value.int .u8) :=
  ⟨fun h => Kd.arr_cells (kS.K_of_M h), fun h => by rw [h.2]; exact Kd.arr_of_cells h.1⟩
theorem kW_M {w : World} {base : Nat} {ok : Nat → Prop} {x : Int × List Int} {cs : List Value} : kW.M w base ok x cs ↔ x.2.length = 64 ∧ cs = .int .i64 x.1 :: x.2.map (Value.int .u8) := by
  constructor
  · rintro ⟨c0, c1, rfl, h0, h1⟩
    obtain ⟨h2, rfl⟩ := kS_M.1 h1
    obtain rfl : c0 = [.int .i64 x.1] := h0
    exact ⟨h2, rfl⟩
  · rintro ⟨h, rfl⟩
    exact ⟨[.int .i64 x.1], _, rfl, rfl, kS_M.2 ⟨h, rfl⟩⟩
section
variable {B : Nat} {w : World} {p : Nat} {L : List (List Int)} {Ws : List (Int × List Int)} {st : Bool} {lf : Int}
theorem Sectors_calls (h : Dk B w p L Ws st lf) (hL : L.length ≤ 4096) : Calls Tryd.prog 15 #[.pointer (some ⟨p, 0, none⟩)] w fun e w' => e = .returned (.int .i64 (L.length : Int)) ∧ w = w' := by
  obtain ⟨h0, vl, vw, stp, h1, h2, h3⟩ := h
  obtain ⟨A, c, rfl⟩ := Kd.R_slice h2
  have p0 := blk_cell h1 0
  clear h1 h2 h3
  go_enter Tryd.func15, Tryd.ntmps15
  go_wp2
  go_ret
  exact ⟨rfl, rfl⟩
theorem wrong_calls (h : Dk B w p L Ws st lf) (hL : L.length ≤ 4096) {n : Nat} (hn : n < L.length) : Calls Tryd.prog 65 #[.pointer (some ⟨p, 0, none⟩), .int .i64 (n : Int)] w fun e w' => e = .returned (.int .i64 0) ∧ w = w' := by
  have CS := Aside0.mk (Sectors_calls h hL)
  obtain ⟨h0, vl, vw, stp, h1, h2, h3⟩ := h
  obtain ⟨A, c, rfl⟩ := Kd.R_slice h2
  have p0 := blk_cell h1 0
  obtain ⟨m, hm⟩ : ∃ m, L.length = m := ⟨_, rfl⟩
  rw [hm] at CS p0 hn hL
  clear h1 h2 h3 hm
  have hn1 : (n : Int) < (m : Int) := by omega
  have hn2 : ((m : Int) == 0) = false := by simp; omega
  go_enter Tryd.func65, Tryd.ntmps65
  go_wp2_with (go_at_call 15; (with_reducible refine CS.out.mono ?_); rintro e w' ⟨rfl, rfl⟩)
  go_ret
  exact ⟨rfl, rfl⟩
theorem down_calls (h : Dk B w p L Ws st lf) : Calls Tryd.prog 66 #[.pointer (some ⟨p, 0, none⟩)] w fun e w' => e = .returned (.bool (st && decide (lf = 0))) ∧ w = w' := by
  obtain ⟨h0, vl, vw, stp, h1, h2, h3⟩ := h
  have p3 := blk_cell h1 3
  have p4 := blk_cell h1 4
  clear h1 h2 h3
  cases st with
  | false =>
    go_enter Tryd.func66, Tryd.ntmps66
    go_wp2
    go_ret
    exact ⟨rfl, rfl⟩
  | true =>
    go_enter Tryd.func66, Tryd.ntmps66
    go_wp2
    go_ret
    exact ⟨rfl, rfl⟩
end
end Go.Proofs.YtenjldfflkinkaaDoor.Sav

namespace Go.Proofs.YtenjldfflkinkaaDoor.Sav
set_option linter.unusedVariables false
set_option linter.unusedSimpArgs false
open Go.RowKit Go.Proofs.YtenjldfflkinkaaDoor.F Go.Proofs.YtenjldfflkinkaaDoorW.PrintWords Go.Proofs.YtenjldfflkinkaaDoorW.PrintLast Go.Proofs.YtenjldfflkinkaaDoorW.PrintMore
section
variable {B : Nat} {w : World} {p : Nat} {L : List (List Int)} {Ws : List (Int × List Int)} {st : Bool} {lf : Int}
theorem kS_E : ∀ q, q ∈ 95 :: kS.E → q ≠ 58 := by
  intro q hq
  have : kS.E = [] := rfl
  rw [this] at hq
  simp at hq
  omega
theorem kW_E : ∀ q, q ∈ 97 :: kW.E → q ≠ 58 := by
  intro q hq
  have : kW.E = [] := rfl
  rw [this] at hq
  simp at hq
  omega
set_option maxRecDepth 100000 in
theorem step_calls (h : Dk B w p L Ws st lf) (hl : -1000 ≤ lf ∧ lf ≤ 1000) : Calls Tryd.prog 67 #[.pointer (some ⟨p, 0, none⟩)] w fun e w' => (∃ v, e = .returned v) ∧ Dk B w' p L Ws st (if st = true then lf - 1 else lf) ∧ Mv B DT w w' := by
  obtain ⟨h0, vl, vw, stp, h1, h2, h3⟩ := h
  have p2 := blk_cell h1 2
  have p3 := blk_cell h1 3
  have p4 := blk_cell h1 4
  have f2 := blk_frozen h1 2
  have f4 := blk_frozen h1 4
  have s1 := blk_put (cs := #[vl, vw, .int .i64 stp, .bool st, .int .i64 lf]) h1 2 (.int .i64 (wrap64 (stp + 1))) rfl
  have hm1 : Mv B DT w (w.setCell ⟨p, 2, none⟩ (.int .i64 (wrap64 (stp + 1)))) := (Mv.refl B DT w).setCell h1 (by decide) h0 _
  have r2 := Kd.R_set h2 h1 kS_E 2 (.int .i64 (wrap64 (stp + 1)))
  have r3 := Kd.R_set h3 h1 kW_E 2 (.int .i64 (wrap64 (stp + 1)))
  cases st with
  | false =>
    have S1 := Aside0.mk s1
    have M1 := Aside0.mk hm1
    have R2 := Aside0.mk r2
    have R3 := Aside0.mk r3
    clear h1 h2 h3 s1 hm1 r2 r3 hl
    go_enter Tryd.func67, Tryd.ntmps67
    go_wp2
    go_end0
    exact ⟨⟨_, rfl⟩, ⟨h0, vl, vw, _, S1.out, R2.out, R3.out⟩, M1.out⟩
  | true =>
    have hl1 := hl.1
    have hl2 := hl.2
    have s2 := blk_put (cs := #[vl, vw, .int .i64 (wrap64 (stp + 1)), .bool true, .int .i64 lf]) s1 4 (.int .i64 (lf - 1)) rfl
    have hm2 := hm1.setCell (i := 4) s1 (by decide) h0 (.int .i64 (lf - 1))
    have q2 := Kd.R_set r2 s1 kS_E 4 (.int .i64 (lf - 1))
    have q3 := Kd.R_set r3 s1 kW_E 4 (.int .i64 (lf - 1))
    have S1 := Aside0.mk s2
    have M1 := Aside0.mk hm2
    have R2 := Aside0.mk q2
    have R3 := Aside0.mk q3
    clear h1 h2 h3 s1 hm1 r2 r3 hl s2 hm2 q2 q3
    go_enter Tryd.func67, Tryd.ntmps67
    go_wp2
    go_end0
    exact ⟨⟨_, rfl⟩, ⟨h0, vl, vw, _, S1.out, R2.out, R3.out⟩, M1.out⟩
set_option maxRecDepth 100000 in
theorem Stop_calls (h : Dk B w p L Ws st lf) (hL : L.length ≤ 4096) (hL0 : 0 < L.length) {n : Int} (hn : 0 ≤ n) : Calls Tryd.prog 9 #[.pointer (some ⟨p, 0, none⟩), .int .i64 n] w fun e w' => e = .returned (.int .i64 0) ∧ Dk B w' p L Ws true n ∧ Mv B DT w w' := by
  have CS := Aside0.mk (Sectors_calls h hL)
  obtain ⟨h0, vl, vw, stp, h1, h2, h3⟩ := h
  have p3 := blk_cell h1 3
  have p4 := blk_cell h1 4
  have f3 := blk_frozen h1 3
  have f4 := blk_frozen h1 4
  have s1 := blk_put (cs := #[vl, vw, .int .i64 stp, .bool st, .int .i64 lf]) h1 3 (.bool true) rfl
  have hm1 : Mv B DT w (w.setCell ⟨p, 3, none⟩ (.bool true)) := (Mv.refl B DT w).setCell h1 (by decide) h0 _
  have r2 := Kd.R_set h2 h1 kS_E 3 (.bool true)
  have r3 := Kd.R_set h3 h1 kW_E 3 (.bool true)
  have s2 := blk_put (cs := #[vl, vw, .int .i64 stp, .bool true, .int .i64 lf]) s1 4 (.int .i64 n) rfl
  have hm2 := hm1.setCell (i := 4) s1 (by decide) h0 (.int .i64 n)
  have q2 := Kd.R_set r2 s1 kS_E 4 (.int .i64 n)
  have q3 := Kd.R_set r3 s1 kW_E 4 (.int .i64 n)
  have S1 := Aside0.mk s2
  have M1 := Aside0.mk hm2
  have R2 := Aside0.mk q2
  have R3 := Aside0.mk q3
  obtain ⟨m, hm⟩ : ∃ m, L.length = m := ⟨_, rfl⟩
  rw [hm] at CS hL hL0
  have hn2 : ((m : Int) == 0) = false := by simp; omega
  clear h1 h2 h3 s1 hm1 r2 r3 s2 hm2 q2 q3 hm
  go_enter Tryd.func9, Tryd.ntmps9
  go_wp2_with (go_at_call 15; (with_reducible refine CS.out.mono ?_); rintro e w' ⟨rfl, rfl⟩)
  go_ret
  exact ⟨rfl, ⟨h0, vl, vw, _, S1.out, R2.out, R3.out⟩, M1.out⟩
end
theorem info95 : (Tryd.prog.info? 95).map (fun i => (i.zero, i.size, i.bytes)) = some (some (.agg (List.replicate 64 (Value.int .u8 0)).toArray), 64, 64) := by kernel_rfl
theorem u55 : Tryd.prog.underlying 55 = some (.slice 95) := by kernel_rfl
theorem u56 : Tryd.prog.underlying 56 = some (.slice 97) := by kernel_rfl
def GivesDk (L : List (List Int)) (w : World) (e : Ending) (w' : World) : Prop := ∃ p, e = .returned (.tuple #[.pointer (some ⟨p, 0, none⟩), .int .i64 0]) ∧ Dk w.heap.size w' p L [] false 0 ∧ Below w.heap.size w w'
set_option maxRecDepth 100000 in
theorem New_calls {w : World} : Calls Tryd.prog 4 #[.int .i64 122] w (GivesDk (List.replicate 122 (List.replicate 64 0)) w) := by
  go_enter Tryd.func4, Tryd.ntmps4
  go_wp2_with ((with_reducible refine gate_dst (N := 11) rfl ?_); refine Kd.R_make kS (w0 := w) w.heap.size 95 rfl (N := 11) rfl 55 _ _ rfl 122 rfl rfl u55 (.agg (List.replicate 64 (Value.int .u8 0)).toArray) 64 info95 rfl (by decide) (by decide) (List.replicate 64 0) (ok := fun _ => True) (okp := fun _ => True) (kS_M.2 ⟨rfl, rfl⟩) (fun _ hk => hk) trivial (by decide) (by decide) (Below.refl _ _) (Nat.le_refl _) ?_; intro v1 w1 ho1 hb1 hg1 hn1; obtain ⟨A1, c1, rfl⟩ := Kd.R_slice ho1; have HO1 := Aside0.mk ho1; have HB1 := Aside0.mk hb1; clear ho1 hb1 hg1 hn1)
  go_ret2
  exact ⟨w1.heap.size, rfl, ⟨HB1.out.size, _, _, 0, World.alloc_heap_new _ _, Kd.R_below HO1.out (below_alloc (Below.refl _ _) _), Kd.R_nil _ _ _ _ _⟩, below_alloc HB1.out _⟩
end Go.Proofs.YtenjldfflkinkaaDoor.Sav

namespace Go.Proofs.YtenjldfflkinkaaDoor.Sav
set_option linter.unusedVariables false
set_option linter.unusedSimpArgs false
open Go.RowKit Go.Proofs.YtenjldfflkinkaaDoor.F Go.Proofs.YtenjldfflkinkaaDoorW.PrintWords Go.Proofs.YtenjldfflkinkaaDoorW.PrintLast Go.Proofs.YtenjldfflkinkaaDoorW.PrintMore
theorem built97 (parts : List (Nat × Value)) : Tryd.prog.built 97 parts = Instr.fill ((#[(0, 1), (1, 64)] : Array (Nat × Nat))[·]?) (#[Value.int .i64 0] ++ (List.replicate 64 (Value.int .u8 0)).toArray) parts := by kernel_rfl
theorem fold_list (X : List Value) (z : Array Value) (o : Nat) (hz : z.size = o + X.length) : ((X.zipIdx 0).foldl (fun cs (x : Value × Nat) => cs.setIfInBounds (o + x.2) x.1) z).toList = z.toList.take o ++ X := by
  have h := Great.foldl_set o X 0 z
  apply List.ext_getElem?
  intro k
  rw [Array.getElem?_toList, h.2 k]
  simp only [Nat.add_zero]
  by_cases h1 : o ≤ k
  · by_cases h2 : k < o + X.length
    · rw [if_pos ⟨h1, h2, by omega⟩, List.getElem?_append_right (by simp; omega)]
      congr 1
      simp
      omega
    · rw [if_neg (by omega), List.getElem?_eq_none (by simp; omega), Array.getElem?_eq_none (by omega)]
  · rw [if_neg (by omega), List.getElem?_append_left (by simp; omega), List.getElem?_take, if_pos (by omega), Array.getElem?_toList]
theorem write_built (n : Int) (X : List Value) (hX : X.length = 64) : Tryd.prog.built 97 [(0, .int .i64 n), (1, .agg X.toArray)] = some (Value.int .i64 n :: X).toArray := by
  rw [built97]
  simp [Instr.fill, Value.cells, hX]
  apply Array.toList_inj.1
  refine (fold_list X _ 1 (by simp [hX])).trans ?_
  rfl
theorem run_write (n : Int) (X : List Value) (hX : X.length = 64) (W : World) : (Instr.build 97 #[(0, .int .i64 n), (1, .agg X.toArray)]).run Tryd.prog W = .ok (.agg (Value.int .i64 n :: X).toArray) W := run_build W _ _ _ (write_built n X hX)
theorem info97 : (Tryd.prog.info? 97).map (fun i => (i.zero, i.size, i.bytes)) = some (some (.agg (Value.int .i64 0 :: List.replicate 64 (Value.int .u8 0)).toArray), 65, 72) := by kernel_rfl
theorem run_one97 (C : List Value) (hC : C.length = 65) (W : World) : (Instr.buildSlice 56 1 #[(0, .agg C.toArray)]).run Tryd.prog W = .ok (.slice (some ⟨W.heap.size, 0, none⟩) 1 1) (W.alloc (.cells C.toArray 97)) := by
  obtain ⟨i0, hi, hz⟩ := Option.map_eq_some_iff.1 info97
  simp only [Prod.mk.injEq] at hz
  obtain ⟨hz0, hz1, hz2⟩ := hz
  refine run_buildSlice W 56 97 1 _ C.toArray i0 _ u56 hi hz0 (by rw [hz1]; decide) (by rw [hz1]; decide) ?_
  have h := Great.fill_whole (s := 65) (by decide) [Value.agg C.toArray] ((Array.range (1 * 65)).map ((Value.agg (Value.int .i64 0 :: List.replicate 64 (Value.int .u8 0)).toArray).cells[· % (Value.agg (Value.int .i64 0 :: List.replicate 64 (Value.int .u8 0)).toArray).cells.size]!)) (by simp [Value.cells, hC]) (by simp)
  rw [hz1]
  refine h.trans ?_
  simp [Value.cells]
theorem R_row {α : Type} {d : Kd α} {e : Nat} {w : World} {base : Nat} {ok : Nat → Prop} {v : Value} {xs : List α} (h : Kd.R d e w base ok v xs) : ∀ k, v.ownBlock = some k → base ≤ k ∧ Ty w [e] k := fun k hk => by
  obtain ⟨inner, ho⟩ := Kd.R_own h
  obtain ⟨cs, hc⟩ := own_typed ho k hk
  exact ⟨own_base ho k hk, cs, e, by simp, hc⟩
theorem Ty.sub {w : World} {T T' : List Nat} {k : Nat} (h : Ty w T k) (hs : ∀ t, t ∈ T → t ∈ T') : Ty w T' k := by
  obtain ⟨cs, t, ht, hc⟩ := h
  exact ⟨cs, t, hs t ht, hc⟩
theorem Mv.of_grown {B : Nat} {T : List Nat} {W w1 : World} {row : Option Nat} (hg : W.grownBy w1 row) (hr : ∀ k, row = some k → B ≤ k ∧ Ty W T k) : Mv B T W w1 :=
  ⟨hg.os, hg.tape, hg.output, hg.size, fun k hk hn => hg.block k hk (fun he => hn (hr k he.symm))⟩
theorem Mv.alloc {B : Nat} {T : List Nat} {W W' : World} (h : Mv B T W W') (o : Obj) : Mv B T W (W'.alloc o) := h.trans (Mv.of_below (below_alloc (Below.refl _ _) o))
theorem range_R {w : World} {base : Nat} {ok : Nat → Prop} {g n c : Nat} {b : List Int} (h : Kd.R (Kd.int .u8) 5 w base ok (.slice (some ⟨g, 0, none⟩) n c) b) : w.rangeAt g 0 (b.map (Value.int .u8)) := fun j v hv => by
  have h1 := (Kd.R_reads' h).2.2
  have hn := (Kd.R_reads' h).1
  subst hn
  have hj : j < b.length := by
    have := (List.getElem?_eq_some_iff.1 hv).1
    rwa [List.length_map] at this
  obtain ⟨ad, e, hc⟩ := byte_read h1 rfl j hj
  obtain rfl := Option.some.inj e
  rw [Addr.add_mid] at hc
  rw [hc, ← hv, List.getElem?_map, List.getD_eq_getElem?_getD, List.getElem?_eq_getElem hj]
  rfl
theorem info95s : (Tryd.prog.info? 95).map (·.size) = some 64 := by kernel_rfl
theorem u95 : Tryd.prog.underlying 95 = some (.array 64 5) := by kernel_rfl
theorem kS_E1 {T : List Nat} (h : 95 ∉ T) : ∀ t, t ∈ 95 :: kS.E → t ∉ T := by
  intro q hq
  have : kS.E = [] := rfl
  rw [this] at hq
  simp at hq
  rw [hq]
  exact h
theorem kB_E1 {T : List Nat} (h : 5 ∉ T) : ∀ t, t ∈ 5 :: (Kd.int .u8).E → t ∉ T := by
  intro q hq
  have : (Kd.int .u8).E = [] := rfl
  rw [this] at hq
  simp at hq
  rw [hq]
  exact h
theorem exec_build {P : Program} {o : Oper} {ρ : Operand → Value} {t : TypeId} {parts : Array (Nat × Operand)} {ps : Array (Nat × Value)} {u : Value} {w w' : World} (ho : o.op = .build t parts) (hp : (parts.map fun (i, x) => (i, ρ x)) = ps) (h : (Instr.build t ps).run P w = .ok u w') : (execOp ρ o).run P w = .ok (.value u) w' := by
  unfold execOp
  subst hp
  simp only [ho, Sem.run_bind, Sem.run_pure, h, Result.andThen_ok]
theorem exec_buildSlice {P : Program} {o : Oper} {ρ : Operand → Value} {t len : Nat} {parts : Array (Nat × Operand)} {ps : Array (Nat × Value)} {u : Value} {w w' : World} (ho : o.op = .buildSlice t len parts) (hp : (parts.map fun (i, x) => (i, ρ x)) = ps) (h : (Instr.buildSlice t len ps).run P w = .ok u w') : (execOp ρ o).run P w = .ok (.value u) w' := by
  unfold execOp
  subst hp
  simp only [ho, Sem.run_bind, Sem.run_pure, h, Result.andThen_ok]
theorem step_store {P : Program} {ops : Array Oper} {oi : Oper} {a : Act} {w w' : World} {K : Act → World → Prop} {Q : Exit → Act → World → Prop} {t : TypeId} {p x : Operand} {pa xv : Value} (ho : oi.op = .store t p x) (hN : oi.dst = none) (hw : Region.wanted oi (yielded ops a.tmps) = true) (hp : a.eval p = pa) (hx : a.eval x = xv) (hrun : (Instr.storeAt t pa xv).run P w = .ok () w') (h : K a w') :
    if Region.wanted oi (yielded ops a.tmps) = true then Oper.wp P oi a w K Q else K (a.put none undef) w := by
  rw [if_pos hw]
  unfold Oper.wp execOp
  simp only [ho, hp, hx, Sem.run_bind, Sem.run_pure, Result.andThen_ok, hrun]
  have h2 : K (a.put oi.dst undef) w' := by rw [hN]; exact h
  exact h2
theorem size56 : (Tryd.prog.info? 56).map (·.size) = some 1 := by kernel_rfl
theorem step_run {P : Program} {ops : Array Oper} {oi : Oper} {N : Option Tmp} {a : Act} {w w' : World} {K : Act → World → Prop} {Q : Exit → Act → World → Prop} {v : Value} (hN : oi.dst = N) (hw : Region.wanted oi (yielded ops a.tmps) = true) (hrun : (execOp a.eval oi).run P w = .ok (.value v) w') (h : K (a.put N v) w') :
    if Region.wanted oi (yielded ops a.tmps) = true then Oper.wp P oi a w K Q else K (a.put N undef) w := by
  rw [if_pos hw]
  subst hN
  unfold Oper.wp
  rw [hrun]
  exact h
theorem Kd.ne_of_rows {α β : Type} {d : Kd α} {d' : Kd β} {e e' : Nat} {w : World} {base base' : Nat} {ok ok' : Nat → Prop} {v v' : Value} {xs : List α} {ys : List β} (h : Kd.R d e w base ok v xs) (h' : Kd.R d' e' w base' ok' v' ys) (hne : e ≠ e') {k : Nat} (hk : v'.ownBlock = some k) : some k ≠ v.ownBlock := fun he => by
  obtain ⟨i1, o1⟩ := Kd.R_own h
  obtain ⟨i2, o2⟩ := Kd.R_own h'
  exact ne_types o1 o2 hne k he.symm hk
section
variable {B : Nat} {w : World} {p : Nat} {L : List (List Int)} {Ws : List (Int × List Int)} {st : Bool} {lf : Int}
set_option maxRecDepth 100000 in
set_option maxHeartbeats 4000000 in
theorem Write_down (h : Dk B w p L Ws true 0) (hL : L.length ≤ 4096) {n : Nat} (hn : n < L.length) {A : Option Addr} {c : Nat} : Calls Tryd.prog 35 #[.pointer (some ⟨p, 0, none⟩), .int .i64 (n : Int), .slice A 64 c] w fun e w' => e = .returned (.int .i64 170) ∧ w = w' := by
  have CW := Aside0.mk (wrong_calls h hL hn)
  have CD := Aside0.mk (down_calls h)
  clear h hL hn
  go_enter Tryd.func35, Tryd.ntmps35
  go_wp2_with (first
    | (go_at_call 65; (with_reducible refine CW.out.mono ?_); rintro e w' ⟨rfl, rfl⟩)
    | (go_at_call 66; (with_reducible refine CD.out.mono ?_); rintro e w' ⟨rfl, rfl⟩))
  go_ret
  exact ⟨rfl, rfl⟩
set_option maxRecDepth 100000 in
set_option maxHeartbeats 4000000 in
theorem Write_calls (h : Dk B w p L Ws st lf) (hd : (st && decide (lf = 0)) = false) (hlf : -1000 ≤ lf ∧ lf ≤ 1000) (hL : L.length ≤ 4096) {n : Nat} (hn : n < L.length) {A : Option Addr} {c : Nat} {base : Nat} {ok : Nat → Prop} {b : List Int} (hb : Kd.R (Kd.int .u8) 5 w base ok (.slice A 64 c) b) (hW : Ws.length ≤ 1000) : Calls Tryd.prog 35 #[.pointer (some ⟨p, 0, none⟩), .int .i64 (n : Int), .slice A 64 c] w fun e w' => e = .returned (.int .i64 0) ∧ Dk B w' p L (Ws ++ [((n : Int), b)]) st (if st = true then lf - 1 else lf) ∧ Mv B DT w w' := by
  have hb64 : b.length = 64 := (Kd.R_reads' hb).1.symm
  have CW := Aside0.mk (wrong_calls h hL hn)
  have CD := Aside0.mk (down_calls h)
  rw [hd] at CD
  have CT := Aside0.mk (fun (W : World) (Ws' : List (Int × List Int)) (hh : Dk B W p L Ws' st lf) => step_calls hh hlf)
  obtain ⟨lf', hlf'⟩ : ∃ x, (if st = true then lf - 1 else lf) = x := ⟨_, rfl⟩
  rw [hlf'] at CT ⊢
  clear hlf'
  obtain ⟨h0, vl, vw, stp, h1, h2, h3⟩ := h
  obtain ⟨ad, cc, hva⟩ := Kd.R_slice1 hb (by omega)
  obtain ⟨rfl, rfl⟩ : A = some ad ∧ c = cc := by
    injection hva with e1 e2 e3
    exact ⟨e1, e3⟩
  obtain ⟨gb, rfl⟩ := Kd.R_head hb
  have hrg := range_R hb
  obtain ⟨X, hX⟩ : ∃ X, b.map (Value.int .u8) = X := ⟨_, rfl⟩
  rw [hX] at hrg
  have hXl : X.length = 64 := by rw [← hX, List.length_map]; exact hb64
  have H1 := Aside0.mk h1
  have H2 := Aside0.mk h2
  have H3 := Aside0.mk h3
  have HX := Aside0.mk hX
  have HRG := Aside0.mk hrg
  have HBB := Aside0.mk hb
  have hq1 : ∀ W, (Instr.arrayAt 95 (.slice (some ⟨gb, 0, none⟩) 64 c)).run Tryd.prog W = .ok (.pointer (some ⟨gb, 0, none⟩)) W := fun W => by
    simp [Instr.arrayAt, run_underlying u95]
  have hq2 := run_write (n : Int) X hXl
  have HQ2 := Aside0.mk hq2
  clear hq2
  have hq3 := run_one97 (Value.int .i64 (n : Int) :: X) (by simp [hXl])
  have HQ3 := Aside0.mk hq3
  have hvw := Kd.R_slice h3
  have hb0 := h0
  clear h1 h2 h3 hX hrg hb hva hq3 hlf
  go_enter Tryd.func35, Tryd.ntmps35
  go_upto_region 8 with (first
    | (go_at_call 65; (with_reducible refine CW.out.mono ?_); rintro e w' ⟨rfl, rfl⟩)
    | (go_at_call 66; (with_reducible refine CD.out.mono ?_); rintro e w' ⟨rfl, rfl⟩))
  refine start_ (n := 15) (S := fun w' => w'.cell? ⟨p, 1, none⟩ = some vw ∧ w'.rangeAt gb 0 X) (ds := [11, 14]) #[false, false, false, false, false, false, false, false, false, false, false, false, false, false, false] (by kernel_rfl) rfl rfl ⟨by rw [World.cell?_drew]; exact blk_cell H1.out 1, (World.rangeAt_drew _ _ _ _).2 HRG.out⟩ (fun hHeld => ?_)
  have M0 : Aside0 (Mv B DT w w.drew) := ⟨(Mv.refl B DT w).drew⟩
  have H1d : Aside0 (w.drew.heap[p]? = some (.cells #[vl, vw, .int .i64 stp, .bool st, .int .i64 lf] 58 (0, 0))) := H1
  have H2d := Aside0.mk (Kd.R_drew H2.out)
  have H3d := Aside0.mk (Kd.R_drew H3.out)
  generalize w.drew = D at M0 H1d H2d H3d hHeld ⊢
  refine pure_ (i := 0) (N := some 22) (v := ?_) (a' := ?_) #[true, false, false, false, false, false, false, false, false, false, false, false, false, false, false] rfl rfl (by kernel_rfl) (fun _ _ _ h => h) (Or.inl ⟨by rfl, ?_⟩) ?_ ?_
  rotate_left
  · intro w'
    go_simp
    with_reducible rfl
  rotate_left
  · simp only [Act.put, List.setIfInBounds_toArray, List.set_cons_zero, List.set_cons_succ, i64_w, i32_w]
    rfl
  refine pure_ (i := 1) (N := some 23) (v := ?_) (a' := ?_) #[true, true, false, false, false, false, false, false, false, false, false, false, false, false, false] rfl rfl (by kernel_rfl) (fun _ _ _ h => h) (Or.inl ⟨by rfl, ?_⟩) ?_ ?_
  rotate_left
  · intro w'
    go_simp
    with_reducible rfl
  rotate_left
  · simp only [Act.put, List.setIfInBounds_toArray, List.set_cons_zero, List.set_cons_succ, i64_w, i32_w]
    rfl
  refine pure_ (i := 2) (N := some 24) (v := ?_) (a' := ?_) #[true, true, true, false, false, false, false, false, false, false, false, false, false, false, false] rfl rfl (by kernel_rfl) (fun _ _ _ h => h) (Or.inl ⟨by rfl, ?_⟩) ?_ ?_
  rotate_left
  · intro w'
    go_simp
    with_reducible rfl
  rotate_left
  · simp only [Act.put, List.setIfInBounds_toArray, List.set_cons_zero, List.set_cons_succ, i64_w, i32_w]
    rfl
  refine pure_ (i := 3) (N := some 25) (v := ?_) (a' := ?_) #[true, true, true, true, false, false, false, false, false, false, false, false, false, false, false] rfl rfl (by kernel_rfl) (fun _ _ _ h => h) (Or.inl ⟨by rfl, ?_⟩) ?_ ?_
  rotate_left
  · intro w'
    go_simp
    with_reducible rfl
  rotate_left
  · simp only [Act.put, List.setIfInBounds_toArray, List.set_cons_zero, List.set_cons_succ, i64_w, i32_w]
    rfl
  refine take_ (i := 4) (N := some 26) (v := ?_) (a' := ?_) #[true, true, true, true, true, false, false, false, false, false, false, false, false, false, false] rfl rfl (by kernel_rfl) (fun _ _ _ h => h) (Or.inl ⟨by rfl, ?_⟩) hHeld ?_ ?_
  rotate_left
  · rintro w' ⟨c1, _⟩
    go_simp
    with_reducible rfl
  rotate_left
  · simp only [Act.put, List.setIfInBounds_toArray, List.set_cons_zero, List.set_cons_succ, i64_w, i32_w]
    rfl
  refine pure_ (i := 5) (N := some 27) (v := ?_) (a' := ?_) #[true, true, true, true, true, true, false, false, false, false, false, false, false, false, false] rfl rfl (by kernel_rfl) (fun _ _ _ h => h) (Or.inl ⟨by rfl, ?_⟩) ?_ ?_
  rotate_left
  · intro w'
    go_simp
    with_reducible rfl
  rotate_left
  · simp only [Act.put, List.setIfInBounds_toArray, List.set_cons_zero, List.set_cons_succ, i64_w, i32_w]
    rfl
  refine pure_ (i := 6) (N := some 28) (v := ?_) (a' := ?_) #[true, true, true, true, true, true, true, false, false, false, false, false, false, false, false] rfl rfl (by kernel_rfl) (fun _ _ _ h => h) (Or.inl ⟨by rfl, ?_⟩) ?_ ?_
  rotate_left
  · intro w'
    go_simp
    with_reducible rfl
  rotate_left
  · simp only [Act.put, List.setIfInBounds_toArray, List.set_cons_zero, List.set_cons_succ, i64_w, i32_w]
    rfl
  refine pure_ (i := 7) (N := some 29) (v := ?_) (a' := ?_) #[true, true, true, true, true, true, true, true, false, false, false, false, false, false, false] rfl rfl (by kernel_rfl) (fun _ _ _ h => h) (Or.inl ⟨by rfl, ?_⟩) ?_ ?_
  rotate_left
  · intro w'
    go_simp
    with_reducible rfl
  rotate_left
  · simp only [Act.put, List.setIfInBounds_toArray, List.set_cons_zero, List.set_cons_succ, i64_w, i32_w]
    rfl
  refine take_ (i := 8) (N := some 30) (a' := ?_) #[true, true, true, true, true, true, true, true, true, false, false, false, false, false, false] rfl rfl (by kernel_rfl) (fun _ _ _ h => h) (yieldsIf_load_mid rfl 95 (.tmp 29) rfl gb 0 rfl X _ (fun _ hS => hS.2) u95 rfl (by rw [hXl]; exact info95s)) hHeld ?_ ?_
  rotate_left
  · simp only [Act.put, List.setIfInBounds_toArray, List.set_cons_zero, List.set_cons_succ, i64_w, i32_w]
    rfl
  refine pure_ (i := 9) (N := some 31) (v := .agg (Value.int .i64 (n : Int) :: X).toArray) (a' := ?_) #[true, true, true, true, true, true, true, true, true, true, false, false, false, false, false] rfl rfl (by kernel_rfl) (fun _ _ _ h => h) (Or.inl ⟨by rfl, fun w' => exec_build (ps := #[(0, .int .i64 (n : Int)), (1, .agg X.toArray)]) rfl (by simp [Act.eval]) (HQ2.out w')⟩) ?_ ?_
  rotate_left
  · simp only [Act.put, List.setIfInBounds_toArray, List.set_cons_zero, List.set_cons_succ, i64_w, i32_w]
    rfl
  refine one_ (i := 10) (N := some 32) #[true, true, true, true, true, true, true, true, true, true, true, false, false, false, false] rfl rfl (by kernel_rfl) (by decide) (fun K hK => ?_)
  refine step_run rfl rfl (exec_buildSlice (ps := #[(0, .agg (Value.int .i64 (n : Int) :: X).toArray)]) rfl (by simp [Act.eval]) (HQ3.out _)) ?_
  refine hK.out _ _ ⟨by rw [World.cell?_alloc_lt _ _ _ (World.block_lt_of_cell? _ _ hHeld.1)]; exact hHeld.1, World.rangeAt_alloc hHeld.2 _⟩ (fun hHeld => ?_)
  clear hK K
  refine norm_ (a' := ?_) ?_ ?_
  rotate_left
  · show Act.put _ (some 32) _ = _
    simp only [Act.put, List.setIfInBounds_toArray, List.set_cons_zero, List.set_cons_succ, i64_w, i32_w]
    rfl
  refine last_ (i := 11) (N := some 33) #[true, true, true, true, true, true, true, true, true, true, true, true, false, false, false] rfl rfl (by kernel_rfl) (by decide) (fun K hK => ?_)
  refine Kd.R_append_step kW (w0 := D) B rfl (.tmp 26) (.tmp 32) 56 97 (.agg (Value.int .i64 0 :: List.replicate 64 (Value.int .u8 0)).toArray) 72 rfl u56 info97 rfl (by decide) (by decide) vw Ws ((n : Int), b) (Value.int .i64 (n : Int) :: X) (fun _ => True) (fun j => some j ≠ vw.ownBlock) rfl rfl (kW_M.2 ⟨hb64, by rw [HX.out]⟩) (fun _ hj => ⟨trivial, hj⟩) (fun _ _ => trivial) H3d.out (Below.refl _ _) (by have := blk_lt H1d.out; omega) (by omega) ?_
  intro v9 w9 ho9 hb9 hg9 hat9
  have HO9 := Aside0.mk ho9
  have HG9 := Aside0.mk hg9
  clear ho9 hb9 hg9 hat9
  refine hK.out _ _ ?_
  clear hK K
  refine norm_ (a' := ?_) ?_ ?_
  rotate_left
  · show Act.put _ (some 33) _ = _
    simp only [Act.put, List.setIfInBounds_toArray, List.set_cons_zero, List.set_cons_succ, i64_w, i32_w]
    rfl
  have H1e : Aside0 (w9.heap[p]? = some (.cells #[vl, vw, .int .i64 stp, .bool st, .int .i64 lf] 58 (0, 0))) := ⟨blk_grown H1d.out HG9.out (Kd.R_ne H3d.out H1d.out (by decide))⟩
  have H2e := Aside0.mk (Kd.R_grown2 H2d.out rfl HG9.out (fun k hk => Kd.ne_of_rows H2d.out H3d.out (by decide) hk))
  have M9 : Aside0 (Mv B DT w w9) := ⟨M0.out.trans (Mv.of_grown HG9.out (fun k hk => ⟨(R_row H3d.out k hk).1, (R_row H3d.out k hk).2.sub (by decide)⟩))⟩
  have p1 := blk_cell H1e.out 1
  have f1 := blk_frozen H1e.out 1
  refine pure_ (i := 12) (N := some 34) (v := ?_) (a' := ?_) #[true, true, true, true, true, true, true, true, true, true, true, true, true, false, false] rfl rfl (by kernel_rfl) (fun _ _ _ h => h) (Or.inl ⟨by rfl, ?_⟩) ?_ ?_
  rotate_left
  · intro w'
    go_simp
    with_reducible rfl
  rotate_left
  · simp only [Act.put, List.setIfInBounds_toArray, List.set_cons_zero, List.set_cons_succ, i64_w, i32_w]
    rfl
  refine pure_ (i := 13) (N := some 35) (v := ?_) (a' := ?_) #[true, true, true, true, true, true, true, true, true, true, true, true, true, true, false] rfl rfl (by kernel_rfl) (fun _ _ _ h => h) (Or.inl ⟨by rfl, ?_⟩) ?_ ?_
  rotate_left
  · intro w'
    go_simp
    with_reducible rfl
  rotate_left
  · simp only [Act.put, List.setIfInBounds_toArray, List.set_cons_zero, List.set_cons_succ, i64_w, i32_w]
    rfl
  refine last_ (i := 14) (N := none) #[true, true, true, true, true, true, true, true, true, true, true, true, true, true, true] rfl rfl (by kernel_rfl) (by decide) (fun K hK => ?_)
  refine step_store rfl rfl rfl rfl rfl (run_store_run 56 v9 [v9] H1e.out (Kd.R_val HO9.out).1 size56 (by simp) (fun q hq => by rw [List.mem_singleton.1 hq]; exact (Kd.R_val HO9.out).2)) ?_
  refine hK.out _ _ ?_
  clear hK K
  refine done_ (by kernel_rfl) ?_
  have hst := blk_set H1e.out 1 v9
  have hm3 := M9.out.setCell (i := 1) H1e.out (by decide) hb0 v9
  have r2 := Kd.R_set H2e.out H1e.out kS_E 1 v9
  have r3 := Kd.R_set HO9.out H1e.out kW_E 1 v9
  have HD : Aside0 (Dk B (w9.setCell ⟨p, 1, none⟩ v9) p L (Ws ++ [((n : Int), b)]) st lf) := ⟨hb0, vl, v9, stp, hst, r2, r3⟩
  have M3 := Aside0.mk hm3
  have CS := Aside0.mk (CT.out _ _ HD.out)
  clear hst hm3 r2 r3 hHeld p1 f1
  show Exit.then _ _ Exit.normal _ (w9.setCell ⟨p, 1, none⟩ v9)
  go_wp2_with (go_at_call 67; (with_reducible refine CS.out.mono ?_); rintro e wq ⟨⟨vq, rfl⟩, hdk, hmv⟩; have HDK := Aside0.mk hdk; have HMV := Aside0.mk hmv; clear hdk hmv)
  go_ret
  exact ⟨rfl, HDK.out, M3.out.trans HMV.out⟩
end
end Go.Proofs.YtenjldfflkinkaaDoor.Sav

namespace Go.Proofs.YtenjldfflkinkaaDoor.Sav
set_option linter.unusedVariables false
set_option linter.unusedSimpArgs false
open Go.RowKit Go.Shelf Go.Proofs.YtenjldfflkinkaaDoor.F Go.Proofs.YtenjldfflkinkaaDoorW.PrintWords Go.Proofs.YtenjldfflkinkaaDoorW.PrintLast Go.Proofs.YtenjldfflkinkaaDoorW.PrintMore
/-- a result that is a value, or nothing, or an end -/
def Tame : Result Next → Prop
  | .ok (.value _) _ => True
  | .ok .skip _ => True
  | .halt _ _ => True
  | _ => False
def tameOp : Op → Bool
  | .move _ | .assign _ | .pick _ _ _ | .alloc _ | .box _ _ | .build _ _ | .buildSlice _ _ _ | .load _ _ | .store _ _ _ | .binOp _ _ _ _ _ | .unOp _ _ _ | .convert _ _ _ | .sliceToArrayPointer _ _ | .makeSlice _ _ _ | .slice _ _ _ _ _ | .fieldAddr _ _ _ | .field _ _ _ | .indexAddr _ _ _ | .index _ _ _ | .extract _ _ | .nilCheck _ => true
  | .call c => match c.callee with
    | .builtin .len | .builtin .min | .builtin .max | .builtin .copy | .builtin .append => true
    | _ => false
  | _ => false
section
variable {P : Program} {w : World}
theorem tame_v (s : Sem Value) : Tame ((do pure (Next.value (← s)) : Sem Next).run P w) := by
  rw [Sem.run_bind]
  cases s.run P w <;> simp [Result.andThen, Tame]
theorem tame_u (s : Sem Unit) : Tame ((do s; pure Next.skip : Sem Next).run P w) := by
  rw [Sem.run_bind]
  cases s.run P w <;> simp [Result.andThen, Tame]
theorem tame_then (r : Result Value) : Tame (r.andThen fun a w' => .ok (.value a) w') := by
  cases r <;> simp [Result.andThen, Tame]
theorem tame_bind {α : Type} (s : Sem α) (f : α → Sem Next) (h : ∀ x w', Tame ((f x).run P w')) : Tame ((s >>= f).run P w) := by
  rw [Sem.run_bind]
  cases hs : s.run P w with
  | ok x w' => exact h x w'
  | halt x w' => simp [Result.andThen, Tame]
theorem tame_nil : Tame ((runtimePanic .nilDeref : Sem Next).run P w) := by
  simp [runtimePanic, goPanic, Tame]
theorem tame_op {o : Oper} (ht : tameOp o.op = true) (ρ : Operand → Value) : Tame ((execOp ρ o).run P w) := by
  unfold execOp
  cases ho : o.op
  all_goals rw [ho] at ht
  all_goals first
    | (simp [tameOp] at ht; done)
    | skip
  all_goals simp only
  all_goals first
    | exact tame_v _
    | exact tame_u _
    | trivial
    | skip
  case pick => exact tame_bind _ _ (fun x w' => by simp [Tame])
  case nilCheck x =>
    split
    · exact tame_nil
    · exact tame_nil
    · exact tame_nil
    · split
      · exact tame_nil
      · refine tame_bind _ _ (fun y w' => tame_bind _ _ (fun z w' => ?_))
        split
        · refine tame_bind _ _ (fun q w' => by simp [Tame])
        · simp [Tame]
      · simp [Tame]
    · simp [Tame]
  case call c =>
    cases hc : c.callee with
    | builtin b =>
      cases b <;> simp [tameOp, hc] at ht
      all_goals
        simp only [resolve, hc, Sem.run_bind, Sem.run_pure, Result.andThen_ok, invoke, builtin]
        exact tame_then _
    | invoke a b => simp [tameOp, hc] at ht
    | value f => simp [tameOp, hc] at ht
theorem tame_about {o : Oper} (ht : tameOp o.op = true) (ρ : Operand → Value) (w : World) : o.about P w ρ = none := by
  unfold Oper.about
  cases ho : o.op
  all_goals rw [ho] at ht
  all_goals first
    | (simp [tameOp] at ht; done)
    | skip
  all_goals simp only
  case call c =>
    cases hc : c.callee with
    | builtin b =>
      cases b <;> simp [tameOp, hc] at ht
      all_goals simp only [resolve, hc, Sem.run_pure, Target.leads]
    | invoke a b => simp [tameOp, hc] at ht
    | value f => simp [tameOp, hc] at ht
theorem tame_defer {o : Oper} (ht : tameOp o.op = true) (c : Call) : o.op ≠ .defer c := fun h => by
  rw [h] at ht
  simp [tameOp] at ht
theorem tame_semAt {o : Oper} (ht : tameOp o.op = true) (ro : Option Nat) (ρ : Operand → Value) : o.semAt ro ρ = execOp ρ o := Oper.semAt_eq ro ρ o (tame_defer ht)
variable {F : Fence} {n : Nat} {ops : Array Oper} {md : Region.Mode}
theorem tame_wpIn {o : Oper} (ht : tameOp o.op = true) {a : Act} {K : Act → World → Prop} {Q : Exit → Act → World → Prop} (h : o.wp P a w K Q) : o.wpIn F n P a w K Q := by
  unfold Oper.wpIn
  refine ⟨fun f hf => (by rw [tame_about ht] at hf; cases hf), ?_⟩
  rw [tame_semAt ht]
  have h1 := tame_op (P := P) (w := w) ht a.eval
  unfold Oper.wp at h
  generalize (execOp a.eval o).run P w = r at h h1 ⊢
  cases r with
  | ok x w' => cases x <;> simp only [Tame] at h1 <;> exact h
  | halt x w' => cases x <;> simp only [Oper.upon, Oper.uponIn] at h ⊢ <;> exact h
def tameAll (ops : Array Oper) : Bool := ops.all fun o => tameOp o.op
/-- what stands behind a region that comes to its end -/
def Ends (R : Act → World → Prop) : Exit → Act → World → Prop := fun e a w => e = .normal ∧ R a w
theorem ends_not {R : Act → World → Prop} : ¬ LetsOut (Ends R) := fun ⟨_, _, h⟩ => by cases h.1
theorem wpAny_in {R : Act → World → Prop} (ht : tameAll ops = true) : ∀ (fuel : Nat) (listed : Array Bool) (a : Act) (w : World), wpAny P md ops (Ends R) fuel listed a w → wpAnyIn F n P md ops (Ends R) fuel listed a w
  | 0, _, _, _, h => h
  | fuel + 1, listed, a, w, h => ⟨h.1, fun i hi => by
      have h2 := h.2 i hi
      unfold wpOp at h2
      unfold wpOpIn
      cases ho : ops[i]? with
      | none => simp only [ho] at h2 ⊢; exact wpAny_in ht fuel _ _ _ h2
      | some o =>
        have hto : tameOp o.op = true := by
          have h3 := Array.all_eq_true_iff_forall_mem.1 ht o (Array.mem_of_getElem? ho)
          exact h3
        simp only [ho] at h2 ⊢
        split
        · rename_i hw
          rw [if_pos hw] at h2
          rcases h2 with h2 | h2
          · exact tame_wpIn hto (Oper.wp_mono (fun a w h => wpAny_in ht fuel _ a w h) h2)
          · exact absurd h2.2 ends_not
        · rename_i hw
          rw [if_neg hw] at h2
          exact ⟨fun f hf => (by rw [tame_about hto] at hf; cases hf), wpAny_in ht fuel _ _ _ h2⟩⟩
theorem wpList_in {R : Act → World → Prop} : ∀ (l : List Oper) (a : Act) (w : World), (l.all fun o => tameOp o.op) = true → wpList P ops (Ends R) l a w → wpListIn F n P ops (Ends R) l a w
  | [], _, _, _, h => h
  | o :: l, a, w, ht, h => by
      rw [List.all_cons, Bool.and_eq_true] at ht
      unfold wpList at h
      unfold wpListIn
      split
      · rename_i hw
        rw [if_pos hw] at h
        rcases h with h | h
        · exact tame_wpIn ht.1 (Oper.wp_mono (fun a w h => wpList_in l a w ht.2 h) h)
        · exact absurd h.2 ends_not
      · rename_i hw
        rw [if_neg hw] at h
        exact ⟨fun f hf => (by rw [tame_about ht.1] at hf; cases hf), wpList_in l _ w ht.2 h⟩
/-- a region that draws its order, inside a fence -/
theorem start_in {id m : Nat} {Q : Exit → Act → World → Prop} {S : World → Prop} {ds : List Nat} {a : Act} (l : Array Bool) (hm : P.follows .mixedOrders = true) (ht : tameAll ops = true) (hn : ops.size = m) (hl : Array.replicate m false = l) (hS : S w.drew)
    (h : S w.drew → wpAnyLast P .any ops (Ends (Q .normal)) S ds m l a w.drew) : (Code.region id ops true).wpIn F n P Q a w := by
  subst hn
  subst hl
  refine Code.wpIn_mono (Q := Ends (Q .normal)) (fun e a w hq => by obtain ⟨rfl, hq⟩ := hq; exact hq) (wpIn_region_any hm (wpAny_in ht _ _ _ _ (wpAny_of_last _ _ _ _ (h hS))))
/-- one that does not -/
theorem list_in {id : Nat} {Q : Exit → Act → World → Prop} {l : List Oper} {a : Act} (ht : (l.all fun o => tameOp o.op) = true) (h : wpList P l.toArray (Ends (Q .normal)) l a w) : (Code.region id l.toArray false).wpIn F n P Q a w := by
  refine Code.wpIn_mono (Q := Ends (Q .normal)) (fun e a w hq => by obtain ⟨rfl, hq⟩ := hq; exact hq) (wpIn_region_lit (wpList_in l a w ht h))
end
end Go.Proofs.YtenjldfflkinkaaDoor.Sav

namespace Go.Proofs.YtenjldfflkinkaaDoor.Sav
set_option linter.unusedVariables false
set_option linter.unusedSimpArgs false
open Go.RowKit Go.Shelf Go.Proofs.YtenjldfflkinkaaDoor.F Go.Proofs.YtenjldfflkinkaaDoorW.PrintWords Go.Proofs.YtenjldfflkinkaaDoorW.PrintLast Go.Proofs.YtenjldfflkinkaaDoorW.PrintMore
section
variable {P : Program} {F : Fence} {n : Nat} {ops : Array Oper} {Q : Exit → Act → World → Prop} {o : Oper} {rest : List Oper} {a a' : Act} {w w' : World} {v : Value}
theorem lst_ (hg : o.guard = none) (_ht : tameOp o.op = true) (hrun : (execOp a.eval o).run P w = .ok (.value v) w') (ha : a.put o.dst v = a') (h : wpList P ops Q rest a' w') : wpList P ops Q (o :: rest) a w := by
  subst ha
  refine wpList_plain hg fun K hK => ?_
  unfold Oper.wp
  rw [hrun]
  exact hK _ _ h
theorem inl_ (hg : o.guard = none) (ht : tameOp o.op = true) (hrun : (execOp a.eval o).run P w = .ok (.value v) w') (ha : a.put o.dst v = a') (h : wpListIn F n P ops Q rest a' w') : wpListIn F n P ops Q (o :: rest) a w := by
  subst ha
  refine wpListIn_plain hg fun K hK => tame_wpIn ht ?_
  unfold Oper.wp
  rw [hrun]
  exact hK _ _ h
theorem lst_store {t : TypeId} {p x : Operand} {pa xv : Value} (ho : o.op = .store t p x) (hN : o.dst = none) (hg : o.guard = none) (hp : a.eval p = pa) (hx : a.eval x = xv) (hrun : (Instr.storeAt t pa xv).run P w = .ok () w') (h : wpList P ops Q rest a w') : wpList P ops Q (o :: rest) a w := by
  refine wpList_plain hg fun K hK => ?_
  unfold Oper.wp execOp
  simp only [ho, hp, hx, Sem.run_bind, Sem.run_pure, Result.andThen_ok, hrun]
  have h2 : K (a.put o.dst undef) w' := by rw [hN]; exact hK _ _ h
  exact h2
theorem exec_alloc {ρ : Operand → Value} {t : TypeId} {z : Value} {s b : Nat} (ho : o.op = .alloc t) (hi : (P.info? t).map (fun i => (i.zero, i.size, i.bytes)) = some (some z, s, b)) : (execOp ρ o).run P w = .ok (.value (.pointer (some ⟨w.heap.size, 0, none⟩))) (w.alloc (.cells z.cells t)) := by
  obtain ⟨i0, hi0, hz⟩ := Option.map_eq_some_iff.1 hi
  simp only [Prod.mk.injEq] at hz
  obtain ⟨hz0, hz1, hz2⟩ := hz
  unfold execOp
  simp [ho, Instr.alloc, zeroValue, typeInfo, hi0, hz0, newVar, newRow]
theorem exec_load {ρ : Operand → Value} {t : TypeId} {x : Operand} {b off : Nat} {cs : List Value} {d : TypeDesc} (ho : o.op = .load t x) (hx : ρ x = .pointer (some ⟨b, off, none⟩)) (hc : w.rangeAt b off cs) (hu : P.underlying t = some d) (hd : d.isRow = true) (hi : (P.info? t).map (·.size) = some cs.length) : (execOp ρ o).run P w = .ok (.value (.agg cs.toArray)) w := by
  unfold execOp
  simp only [ho, hx, Instr.loadAt, Instr.sureAddr, Sem.run_bind, Sem.run_pure, Result.andThen_ok, run_loadVar_mid w b off t cs d hc hu hd hi]
end
theorem World.rangeAt_of_block' {w : World} {b : Nat} {C : List Value} {t : TypeId} {fr : Nat × Nat} (hb : w.heap[b]? = some (.cells C.toArray t fr)) : w.rangeAt b 0 C := fun j v hv => by
  rw [Nat.zero_add, cell_of_row w b j C.toArray t fr hb, List.getElem?_toArray]
  exact hv
theorem size97 : (Tryd.prog.info? 97).map (·.size) = some 65 := by kernel_rfl
theorem u97 : ∃ d, Tryd.prog.underlying 97 = some d ∧ d.isRow = true := by
  have h : (Tryd.prog.underlying 97).map (·.isRow) = some true := by kernel_rfl
  obtain ⟨d, h1, h2⟩ := Option.map_eq_some_iff.1 h
  exact ⟨d, h1, h2⟩
theorem store97 {C : List Value} (hC : C.length = 65) (h1 : ∀ v ∈ C, v.oneCell' = true) (W : World) : (Instr.storeAt 97 (.pointer (some ⟨W.heap.size, 0, none⟩)) (.agg C.toArray)).run Tryd.prog (W.alloc (.cells (Value.agg (Value.int .i64 0 :: List.replicate 64 (Value.int .u8 0)).toArray).cells 97)) = .ok () (W.alloc (.cells C.toArray 97)) :=
  run_storeAt_new W _ _ _ (by rw [size97]; simp [hC]) (by simp [Value.cells, hC]) (all_oneCell_toArray h1)
/-- the cells of a write that waits -/
def wC (x : Int × List Int) : List Value := .int .i64 x.1 :: x.2.map (Value.int .u8)
theorem wC_len {x : Int × List Int} (h : x.2.length = 64) : (wC x).length = 65 := by simp [wC, h]
theorem wC_one (x : Int × List Int) : ∀ v ∈ wC x, v.oneCell' = true := by
  intro v hv
  rcases List.mem_cons.1 hv with rfl | hv
  · rfl
  · exact one_nums _ v hv
/-- the first so many places -/
def upTo (n i : Nat) : List (Fin n) := (List.finRange n).take i
theorem upTo_succ {n i : Nat} (h : i < n) : upTo n (i + 1) = upTo n i ++ [⟨i, h⟩] := by
  unfold upTo
  rw [List.take_succ_eq_append_getElem (by simpa using h)]
  simp
theorem upTo_len {n i : Nat} (h : i ≤ n) : (upTo n i).length = i := by
  unfold upTo
  simp
  omega
def encW (ws : List (Int × List Int)) (j : Fin ws.length) : Array Value := #[.int .i64 (j.1 : Int), .agg (wC ws[j.1]).toArray]
/-- what lies in the blocks of S lies as it lay -/
def KpS (S : Nat → Prop) (W W' : World) : Prop := ∀ k, S k → W'.heap[k]? = W.heap[k]?
theorem KpS.refl (S : Nat → Prop) (W : World) : KpS S W W := fun _ _ => rfl
theorem KpS.trans {S : Nat → Prop} {A B C : World} (h : KpS S A B) (k : KpS S B C) : KpS S A C := fun j hj => (k j hj).trans (h j hj)
theorem wait_at {w : World} {base : Nat} {ok : Nat → Prop} {g n c : Nat} {ws : List (Int × List Int)} (h : Kd.R kW 97 w base ok (.slice (some ⟨g, 0, none⟩) n c) ws) {i : Nat} (hi : i < ws.length) : w.rangeAt g (i * 65) (wC ws[i]) ∧ (ws[i]).2.length = 64 := by
  have hn : n = ws.length := (Kd.R_reads' h).1
  obtain ⟨cs, hcl, hM, hcc⟩ := Kd.R_getA h (0, []) (i : Int) (by omega) (by omega)
  rw [Int.toNat_natCast] at hM hcc
  have e : ws.getD i (0, []) = ws[i] := by rw [List.getD_eq_getElem?_getD, List.getElem?_eq_getElem hi]; rfl
  rw [e] at hM
  obtain ⟨h1, rfl⟩ := kW_M.1 hM
  refine ⟨fun j v hj => ?_, h1⟩
  have h2 := hcc j v hj
  rw [Addr.add_mid, Nat.zero_add] at h2
  exact h2
theorem hdd_ : ∀ k : Nat, (Fence.wide.depth.isSome = true → 1 ≤ k) := fun k h => by cases h
section
attribute [local go_sem] Oper.semAt_some
set_option maxRecDepth 100000 in
set_option maxHeartbeats 4000000 in
theorem all1_in (n : Nat) (lp Bs p : Nat) (B c : Nat) (A : Option Addr) (ws : List (Int × List Int)) (W : World) (hlen : ws.length ≤ 1000)
    (J Jx : List (Fin ws.length) → World → Prop)
    (hY : ∀ pre x W1, J pre W1 → pre.length < ws.length → YieldAt Fence.wide (n - 1) Tryd.prog lp (encW ws x) W1 fun e W' =>
      (e = .returned (.bool true) ∧ J (pre ++ [x]) W' ∧ KpS (fun k => A.map (·.block) = some k) W1 W') ∨ (e = .returned (.bool false) ∧ Jx (pre ++ [x]) W'))
    (hJ : ∀ pre W1 (o : Obj), J pre W1 → J pre (W1.alloc o))
    (hBs : W.cell? ⟨Bs, 0, none⟩ = some (.pointer (some ⟨p, 0, none⟩))) (hp : W.cell? ⟨p, 1, none⟩ = some (.slice A ws.length c)) (hR : Kd.R kW 97 W B (fun _ => True) (.slice A ws.length c) ws) (h0 : J [] W) :
    CallsIn Fence.wide n Tryd.prog 69 #[.func (.yield lp) #[] #[], .pointer (some ⟨Bs, 0, none⟩)] W fun e W' => (∃ v, e = .returned v) ∧
      ((∃ ys, ys = List.finRange ws.length ∧ J ys W') ∨ (∃ pre, pre <+: List.finRange ws.length ∧ Jx pre W')) := by
  have HR := Aside0.mk hR
  have HY := Aside0.mk hY
  have HJ := Aside0.mk hJ
  have hl0 : (ws.length : Int) ≤ 1000 := by omega
  clear hR hY hJ
  refine callsIn_of_wp Tryd.func69 rfl trivial ?_ rfl
  simp only [Tryd.ntmps69, List.size_toArray, List.length_cons, List.length_nil, Nat.reduceAdd, Nat.reduceSub, Array.replicate_succ, Array.replicate_zero, List.push_toArray, List.append_toArray, List.nil_append, List.cons_append]
  gi_wp2
  gi_loopw [10] (fun v10 wr => ∃ i : Nat, v10 = .int .i64 (i : Int) ∧ i ≤ ws.length ∧ J (upTo ws.length i) wr ∧ Aside0 (KpS (fun k => A.map (·.block) = some k) W wr))
    (fun v10 _ => ws.length - (intOf v10).toNat)
  case atStart => exact ⟨0, rfl, Nat.zero_le _, h0, ⟨KpS.refl _ _⟩⟩
  case round =>
    obtain ⟨i, rfl, hi, hJp, HKr⟩ := hrel
    by_cases hlt : i < ws.length
    · have hlt' : (i : Int) < (ws.length : Int) := by omega
      obtain ⟨ad, cc, hva⟩ := Kd.R_slice1 HR.out (by omega)
      obtain ⟨rfl, rfl⟩ : A = some ad ∧ c = cc := by
        injection hva with e1 e2 e3
        exact ⟨e1, e3⟩
      obtain ⟨g, rfl⟩ := Kd.R_head HR.out
      have hRr : Kd.R kW 97 wr B (fun k => some k = (Value.slice (some ⟨g, 0, none⟩) ws.length c).ownBlock) (.slice (some ⟨g, 0, none⟩) ws.length c) ws := Kd.R_move (Kd.R_tight rfl HR.out) (fun k hk => HKr.out k hk.symm)
      obtain ⟨hrg, h64⟩ := wait_at hRr hlt
      obtain ⟨C, hC⟩ : ∃ C, wC ws[i] = C := ⟨_, rfl⟩
      have hCl : C.length = 65 := by rw [← hC]; exact wC_len h64
      have hC1 : ∀ v ∈ C, v.oneCell' = true := by rw [← hC]; exact wC_one _
      rw [hC] at hrg
      obtain ⟨d97, hu97, hd97⟩ := u97
      have HU := Aside0.mk hu97
      have HRG := Aside0.mk hrg
      have HC1 := Aside0.mk hC1
      have hyld := HY.out (upTo ws.length i) ⟨i, hlt⟩ (wr.alloc (.cells C.toArray 97)) (HJ.out _ _ _ hJp) (by rw [upTo_len hi]; exact hlt)
      obtain ⟨fn, tmps, assign, body, hy, hR⟩ := hyld
      simp only [encW, hC] at hy
      have HCE := Aside0.mk hC
      have HKA : Aside0 (KpS (fun k => (some (⟨g, 0, none⟩ : Addr)).map (·.block) = some k) wr (wr.alloc (.cells C.toArray 97))) := ⟨fun k hk => Below.heap_alloc wr _ k (by obtain ⟨inner, ho⟩ := Kd.R_own hRr; exact own_lt ho k hk)⟩
      clear hrg hC1 hC hRr hu97
      gi_upto_region 2 with (fail)
      refine list_in (by rfl) ?_
      refine lst_ (v := ?_) (w' := ?_) (a' := ?_) rfl rfl ?_ ?_ ?_
      rotate_left 3
      · go_simp
        exact ⟨by with_reducible rfl, by with_reducible rfl⟩
      · simp only [Act.put, List.setIfInBounds_toArray, List.set_cons_zero, List.set_cons_succ, i64_w, i32_w]
        rfl
      refine lst_ (v := ?_) (w' := ?_) (a' := ?_) rfl rfl ?_ ?_ ?_
      rotate_left 3
      · go_simp
        exact ⟨by with_reducible rfl, by with_reducible rfl⟩
      · simp only [Act.put, List.setIfInBounds_toArray, List.set_cons_zero, List.set_cons_succ, i64_w, i32_w]
        rfl
      refine lst_ (a' := ?_) rfl rfl (exec_load rfl (by rfl) HRG.out HU.out hd97 (by rw [hCl]; exact size97)) ?_ ?_
      rotate_left
      · simp only [Act.put, List.setIfInBounds_toArray, List.set_cons_zero, List.set_cons_succ, i64_w, i32_w]
        rfl
      skip
      refine lst_ (a' := ?_) rfl rfl (exec_alloc rfl info97) ?_ ?_
      rotate_left
      · simp only [Act.put, List.setIfInBounds_toArray, List.set_cons_zero, List.set_cons_succ, i64_w, i32_w]
        rfl
      skip
      refine lst_ (v := ?_) (w' := ?_) (a' := ?_) rfl rfl ?_ ?_ ?_
      rotate_left 3
      · go_simp
        exact ⟨by with_reducible rfl, by with_reducible rfl⟩
      · simp only [Act.put, List.setIfInBounds_toArray, List.set_cons_zero, List.set_cons_succ, i64_w, i32_w]
        rfl
      refine lst_store rfl rfl rfl rfl rfl (store97 hCl HC1.out _) ?_
      refine ⟨rfl, ?_⟩
      gi_upto_region 3 with (fail)
      refine wpIn_region_lit ?_
      refine inl_ (v := ?_) (w' := ?_) (a' := ?_) rfl rfl ?_ ?_ ?_
      rotate_left 3
      · go_simp
        exact ⟨by with_reducible rfl, by with_reducible rfl⟩
      · simp only [Act.put, List.setIfInBounds_toArray, List.set_cons_zero, List.set_cons_succ, i64_w, i32_w]
        rfl
      refine inl_ (v := ?_) (w' := ?_) (a' := ?_) rfl rfl ?_ ?_ ?_
      rotate_left 3
      · go_simp
        exact ⟨by with_reducible rfl, by with_reducible rfl⟩
      · simp only [Act.put, List.setIfInBounds_toArray, List.set_cons_zero, List.set_cons_succ, i64_w, i32_w]
        rfl
      refine inl_ (a' := ?_) rfl rfl (exec_load rfl (by rfl) (World.rangeAt_of_block' (World.alloc_heap_new wr _)) HU.out hd97 (by rw [hCl]; exact size97)) ?_ ?_
      rotate_left
      · simp only [Act.put, List.setIfInBounds_toArray, List.set_cons_zero, List.set_cons_succ, i64_w, i32_w]
        rfl
      skip
      gi_wp2
      refine ⟨hdd_ _, ?_⟩
      refine hR.mono ?_
      rintro e W3 (⟨rfl, hJ3, hk3⟩ | ⟨rfl, hJx3⟩)
      · gi_wp2
        go_roundw
        case rel => exact ⟨i + 1, by first | rfl | go_num, by omega, by rw [upTo_succ hlt]; exact hJ3, ⟨(HKr.out.trans (HKA.out)).trans hk3⟩⟩
        case measure => simp [intOf] <;> omega
      · gi_wp2
        refine bodyPost_ret (results_none rfl _ _ _) rfl ?_
        refine ⟨⟨_, rfl⟩, .inr ⟨_, ?_, hJx3⟩⟩
        rw [← upTo_succ hlt]
        exact List.take_prefix _ _
    · obtain rfl : i = ws.length := by omega
      gi_wp2
      go_end0
      refine ⟨⟨_, rfl⟩, .inl ⟨_, ?_, hJp⟩⟩
      unfold upTo
      rw [List.take_of_length_le (by simp)]
theorem all_in (n p : Nat) (w : World) :
    CallsIn Fence.wide n Tryd.prog 39 #[.pointer (some ⟨p, 0, none⟩)] w fun e w' => e = .returned (.func (.func 69) #[] #[.pointer (some ⟨w.heap.size, 0, none⟩)]) ∧ w' = w.alloc (.cells #[.pointer (some ⟨p, 0, none⟩)] 24) := by
  refine callsIn_of_wp Tryd.func39 rfl trivial ?_ rfl
  simp only [Tryd.ntmps39, List.size_toArray, List.length_cons, List.length_nil, Nat.reduceAdd, Nat.reduceSub, Array.replicate_succ, Array.replicate_zero, List.push_toArray, List.append_toArray, List.nil_append, List.cons_append]
  gi_wp2
  go_ret
  exact ⟨rfl, rfl⟩
theorem kpS_b {S : Nat → Prop} {w : World} (hS : ∀ k, S k → k < w.heap.size) (W : World) (l : Nat) (o o' : Obj) (hl : w.heap.size ≤ l) (h : W.heap[l]? = some o) (h1 : o.isCells = false) (h2 : o.isWalk = false) : KpS S W (W.putObj l o') :=
  fun k hk => (grownBy_putObj' W l o').block k (by have := (Array.getElem?_eq_some_iff.1 h).1; have := hS k hk; omega) (by have := hS k hk; simp; omega)
theorem all_stops (n : Nat) (Bs p : Nat) (B c : Nat) (A : Option Addr) (ws : List (Int × List Int)) (w : World) (hlen : ws.length ≤ 1000)
    (hBs : w.cell? ⟨Bs, 0, none⟩ = some (.pointer (some ⟨p, 0, none⟩))) (hp : w.cell? ⟨p, 1, none⟩ = some (.slice A ws.length c)) (hR : Kd.R kW 97 w B (fun _ => True) (.slice A ws.length c) ws) :
    SeqStopsK Fence.wide n Tryd.prog 69 #[.pointer (some ⟨Bs, 0, none⟩)] (encW ws) (KpS (fun k => A.map (·.block) = some k)) (fun ys => ys = List.finRange ws.length)
      (fun pre => pre <+: List.finRange ws.length) ws.length w := fun l J Jx W hW hJ _ hY h0 =>
  all1_in n l Bs p B c A ws W hlen J Jx hY (fun pre W1 o h => hJ pre W1 (W1.alloc o) none h (World.grownBy_alloc W1 o none) (fun r e => by cases e))
    ((hW.cell (p := ⟨Bs, 0, none⟩) (World.block_lt_of_cell? w _ hBs)).trans hBs) ((hW.cell (p := ⟨p, 1, none⟩) (World.block_lt_of_cell? w _ hp)).trans hp) (Kd.R_below hR hW) h0
end
end Go.Proofs.YtenjldfflkinkaaDoor.Sav

namespace Go.Proofs.YtenjldfflkinkaaDoor.Sav
set_option linter.unusedVariables false
set_option linter.unusedSimpArgs false
open Go.RowKit Go.Shelf Go.Proofs.YtenjldfflkinkaaDoor.F Go.Proofs.YtenjldfflkinkaaDoorW.PrintWords Go.Proofs.YtenjldfflkinkaaDoorW.PrintLast Go.Proofs.YtenjldfflkinkaaDoorW.PrintMore
/-- the sectors when what waits is written down -/
def flushL (L : List (List Int)) (ws : List (Int × List Int)) : List (List Int) := ws.foldl (fun L x => L.set x.1.toNat x.2) L
theorem flushL_len (ws : List (Int × List Int)) : ∀ L, (flushL L ws).length = L.length := by
  induction ws with
  | nil => intro L; rfl
  | cons x ws ih => intro L; unfold flushL at *; rw [List.foldl_cons, ih, List.length_set]
theorem flushL_snoc (L : List (List Int)) (ws : List (Int × List Int)) (x : Int × List Int) : flushL L (ws ++ [x]) = (flushL L ws).set x.1.toNat x.2 := by
  unfold flushL
  rw [List.foldl_append]
  rfl
set_option maxRecDepth 100000 in
theorem sector_store {B : Nat} {W : World} {g n cap m : Nat} {L : List (List Int)} {b : List Int} (h : Kd.R kS 95 W B (fun _ => True) (.slice (some ⟨g, 0, none⟩) n cap) L) (hm : m < L.length) (hb : b.length = 64) :
    ∃ W', (Instr.storeAt 95 (.pointer (some ⟨g, m * 64, none⟩)) (.agg (b.map (Value.int .u8)).toArray)).run Tryd.prog W = .ok () W' ∧ Kd.R kS 95 W' B (fun _ => True) (.slice (some ⟨g, 0, none⟩) n cap) (L.set m b) ∧ W.grownBy W' (some g) := by
  have hn := (Kd.R_reads' h).1
  obtain ⟨cs, hcl, hM, hcc⟩ := Kd.R_getA h [] (m : Int) (by omega) (by omega)
  rw [Int.toNat_natCast] at hM hcc
  have hsz : kS.sz = 64 := rfl
  have h64 : (b.map (Value.int .u8)).length = 64 := by rw [List.length_map, hb]
  have hs := Kd.R_seg (seg := b.map (Value.int .u8)) (j := 0) (x' := b) (okp := fun _ => False) h (m : Int) (by omega) (by omega) hcl (fun j u hj => by have := hcc j u hj; rw [Addr.add_mid, Nat.zero_add] at this; rw [Int.toNat_natCast]; exact this) (by rw [h64, hsz]; omega)
    (kS_M.2 ⟨hb, by rw [h64, List.take_zero, List.nil_append, List.drop_eq_nil_of_le (by rw [hcl, hsz]; omega), List.append_nil]⟩) (fun _ hk => hk.elim)
  rw [Int.toNat_natCast, hsz, Nat.add_zero] at hs
  refine ⟨_, ?_, hs.1, hs.2⟩
  obtain ⟨inner, ho⟩ := Kd.R_own h
  rcases ho.2 with ⟨hv, _⟩ | ⟨g', cap', cur, hv, _, hh, hnc, hcm, hcs, _⟩
  · cases hv
  injection hv with ha _ hc
  injection ha with ha
  injection ha with hg'
  subst hg'; subst hc
  refine run_store_run 95 _ _ hh rfl (by rw [h64]; exact info95s) ?_ (one_nums b)
  rw [h64]
  have : m * 64 + 64 ≤ n * 64 := by rw [← Nat.succ_mul]; exact Nat.mul_le_mul_right _ (by omega)
  have : n * 64 ≤ cap * 64 := Nat.mul_le_mul_right _ (by omega)
  rw [hcs, hsz]
  omega
theorem R_noncells {α : Type} {d : Kd α} {e base B : Nat} {ok : Nat → Prop} {W W' : World} {row : Option Nat} {v : Value} {xs : List α} (h : Kd.R d e W base ok v xs) (hg : W.grownBy W' row) (hr : ∀ r, row = some r → B ≤ r ∧ ∃ o : Obj, W.heap[r]? = some o ∧ o.isCells = false) : Kd.R d e W' base ok v xs := by
  refine Kd.R_mono (Kd.R_step (Kd.R_bound h) (fun k hk hlt => hg.block k hlt (fun he => ?_))) (fun k hk => hk.1)
  obtain ⟨_, _, _, q, hq, cells, hc⟩ := hk
  obtain ⟨_, o, ho, hn⟩ := hr k he.symm
  rw [hc] at ho
  injection ho with ho
  subst ho
  cases hn
theorem blk_noncells {B : Nat} {W W' : World} {row : Option Nat} {k t : Nat} {cs : Array Value} (h : W.heap[k]? = some (.cells cs t (0, 0))) (hg : W.grownBy W' row) (hr : ∀ r, row = some r → B ≤ r ∧ ∃ o : Obj, W.heap[r]? = some o ∧ o.isCells = false) : W'.heap[k]? = some (.cells cs t (0, 0)) := by
  refine (hg.block k (blk_lt h) (fun he => ?_)).trans h
  obtain ⟨_, o, ho, hn⟩ := hr k he.symm
  rw [h] at ho
  injection ho with ho
  subst ho
  cases hn
theorem Mv.grownN {B : Nat} {T : List Nat} {w W W' : World} {row : Option Nat} (h : Mv B T w W) (hg : W.grownBy W' row) (hr : ∀ r, row = some r → w.heap.size ≤ r) : Mv B T w W' :=
  ⟨hg.os.trans h.os, hg.tape.trans h.tape, hg.output.trans h.output, Nat.le_trans h.size hg.size, fun k hk hn => (hg.block k (Nat.lt_of_lt_of_le hk h.size) (fun he => by have := hr k he.symm; omega)).trans (h.block k hk hn)⟩
/-- the disk while what waits is written down -/
structure FlI (B : Nat) (w W0 : World) (p g1 : Nat) (vl vw : Value) (stp lf : Int) (st : Bool) (L : List (List Int)) (ws : List (Int × List Int)) (pre : List (Fin ws.length)) (W : World) : Prop where
  box : W.heap[g1]? = some (.cells #[.pointer (some ⟨p, 0, none⟩)] 24 (0, 0))
  blk : W.heap[p]? = some (.cells #[vl, vw, .int .i64 stp, .bool st, .int .i64 lf] 58 (0, 0))
  rl : Kd.R kS 95 W B (fun _ => True) vl (flushL L (pre.map fun j => ws[j.1]))
  rw_ : Kd.R kW 97 W B (fun _ => True) vw ws
  sz : W0.heap.size ≤ W.heap.size
  mv : Mv B DT w W
section
variable {B : Nat} {w W0 : World} {p g1 : Nat} {vl vw : Value} {stp lf : Int} {st : Bool} {L : List (List Int)} {ws : List (Int × List Int)}
theorem FlI.own {m : Nat} (hm : w.heap.size ≤ m) : OwnFrom m (FlI B w W0 p g1 vl vw stp lf st L ws) := by
  rintro pre W W' row ⟨h1, h2, h3, h4, h5, h6⟩ hg hr
  exact ⟨blk_noncells h1 hg hr, blk_noncells h2 hg hr, R_noncells h3 hg hr, R_noncells h4 hg hr, Nat.le_trans h5 hg.size, h6.grownN hg (fun r e => Nat.le_trans hm (hr r e).1)⟩
theorem FlI.alloc {pre : List (Fin ws.length)} {W : World} (h : FlI B w W0 p g1 vl vw stp lf st L ws pre W) (o : Obj) : FlI B w W0 p g1 vl vw stp lf st L ws pre (W.alloc o) := by
  obtain ⟨h1, h2, h3, h4, h5, h6⟩ := h
  have hb := below_alloc (Below.refl _ W) o
  exact ⟨blk_below h1 hb, blk_below h2 hb, Kd.R_below h3 hb, Kd.R_below h4 hb, Nat.le_trans h5 hb.size, h6.alloc o⟩
set_option maxRecDepth 100000 in
set_option maxHeartbeats 4000000 in
theorem Flush_down (h : Dk B w p L ws true 0) (hL : L.length ≤ 4096) (hL0 : 0 < L.length) : Calls Tryd.prog 37 #[.pointer (some ⟨p, 0, none⟩)] w fun e w' => e = .returned (.int .i64 170) ∧ Below w.heap.size w w' := by
  have hb := below_alloc (Below.refl _ w) (.cells #[.pointer (some ⟨p, 0, none⟩)] 24)
  have CS := Aside0.mk (Sectors_calls (h.below hb) hL)
  have CD := Aside0.mk (down_calls (h.below hb))
  have HB := Aside0.mk hb
  obtain ⟨m, hm⟩ : ∃ m, L.length = m := ⟨_, rfl⟩
  rw [hm] at CS hL0 hL
  have hn2 : ((m : Int) == 0) = false := by simp; omega
  clear h hb hm
  go_enter Tryd.func37, Tryd.ntmps37
  go_wp2_with (first
    | (go_at_call 15; (with_reducible refine CS.out.mono ?_); rintro e w' ⟨rfl, rfl⟩)
    | (go_at_call 66; (with_reducible refine CD.out.mono ?_); rintro e w' ⟨rfl, rfl⟩))
  go_ret
  exact ⟨rfl, HB.out⟩
attribute [local go_sem] Oper.semAt_some
set_option maxRecDepth 100000 in
set_option maxHeartbeats 4000000 in
theorem Flush_calls (h : Dk B w p L ws st lf) (hd : (st && decide (lf = 0)) = false) (hlf : -1000 ≤ lf ∧ lf ≤ 1000) (hL : L.length ≤ 4096) (hL0 : 0 < L.length) (hlen : ws.length ≤ 1000) (hws : ∀ x ∈ ws, 0 ≤ x.1 ∧ x.1 < L.length ∧ x.2.length = 64) : Calls Tryd.prog 37 #[.pointer (some ⟨p, 0, none⟩)] w fun e w' => e = .returned (.int .i64 0) ∧ Dk B w' p (flushL L ws) [] st (if st = true then lf - 1 else lf) ∧ Mv B DT w w' := by
  have hb := below_alloc (Below.refl _ w) (.cells #[.pointer (some ⟨p, 0, none⟩)] 24)
  have CS := Aside0.mk (Sectors_calls (h.below hb) hL)
  have CD := Aside0.mk (down_calls (h.below hb))
  rw [hd] at CD
  have CT := Aside0.mk (fun (W : World) (L' : List (List Int)) (Ws' : List (Int × List Int)) (hh : Dk B W p L' Ws' st lf) => step_calls hh hlf)
  obtain ⟨lf', hlf'⟩ : ∃ x, (if st = true then lf - 1 else lf) = x := ⟨_, rfl⟩
  rw [hlf'] at CT ⊢
  clear hlf' hlf hd
  obtain ⟨hb0, vl, vw, stp, h1, h2, h3⟩ := h
  obtain ⟨A, c, rfl⟩ := Kd.R_slice h3
  have HB := Aside0.mk hb
  have H3 := Aside0.mk h3
  have HWS := Aside0.mk hws
  obtain ⟨al, cl, rfl⟩ := Kd.R_slice1 h2 hL0
  obtain ⟨gl, rfl⟩ := Kd.R_head h2
  obtain ⟨m, hm⟩ : ∃ m, L.length = m := ⟨_, rfl⟩
  have H1 := Aside0.mk h1
  have H2 := Aside0.mk h2
  rw [hm] at CS hL0 hL H1 H2
  have HM := Aside0.mk hm
  have hn2 : ((m : Int) == 0) = false := by simp; omega
  clear h1 h2 h3 hws hm hb
  refine (callsIn_wide (n := 5)).1 ?_
  refine callsIn_of_wp_marks Tryd.func37 rfl trivial ?_ rfl
  simp only [Tryd.ntmps37, List.size_toArray, List.length_cons, List.length_nil, Nat.reduceAdd, Nat.reduceSub, Array.replicate_succ, Array.replicate_zero, List.push_toArray, List.append_toArray, List.nil_append, List.cons_append]
  gi_wp2_with (first
    | ((try refine ⟨trivial, ?_⟩); gi_at_call 15; refine (callsIn_wide.2 CS.out).mono ?_; rintro e w' ⟨rfl, rfl⟩)
    | ((try refine ⟨trivial, ?_⟩); gi_at_call 66; refine (callsIn_wide.2 CD.out).mono ?_; rintro e w' ⟨rfl, rfl⟩)
    | ((try refine ⟨trivial, ?_⟩); gi_at_call 39; refine (all_in _ _ _).mono ?_; rintro e w' ⟨rfl, rfl⟩))
  obtain ⟨W0, hW0⟩ : ∃ W0, ((w.alloc (Obj.cells #[Value.pointer (some ⟨p, 0, none⟩)] 24)).alloc (Obj.cells #[Value.pointer (some ⟨p, 0, none⟩)] 24)) = W0 := ⟨_, rfl⟩
  have X1 : Boxed W0 w.heap.size 24 (.pointer (some ⟨p, 0, none⟩)) := by rw [← hW0]; exact (Boxed.new w _ _).alloc _
  have Xs : Boxed W0 (w.heap.size + 1) 24 (.pointer (some ⟨p, 0, none⟩)) := by
    have := Boxed.new (w.alloc (Obj.cells #[Value.pointer (some ⟨p, 0, none⟩)] 24)) 24 (.pointer (some ⟨p, 0, none⟩))
    rw [World.size_alloc] at this
    rw [← hW0]; exact this
  have hB0 : Below w.heap.size w W0 := by rw [← hW0]; exact below_alloc (below_alloc (Below.refl _ _) _) _
  rw [hW0]
  have h1 := blk_below H1.out hB0
  have h2 := Kd.R_below H2.out hB0
  have h3 := Kd.R_below H3.out hB0
  clear hW0
  obtain ⟨gs, hgs⟩ : ∃ g, w.heap.size + 1 = g := ⟨_, rfl⟩
  obtain ⟨g1, hg1⟩ : ∃ g, w.heap.size = g := ⟨_, rfl⟩
  rw [hgs] at Xs ⊢
  rw [hg1] at X1
  rw [show Value.pointer (some ⟨w.heap.size, 0, none⟩) = Value.pointer (some ⟨g1, 0, none⟩) from by rw [hg1]]
  have hI0 : FlI B w W0 p g1 (.slice (some ⟨gl, 0, none⟩) m cl) (.slice A ws.length c) stp lf st L ws [] W0 := ⟨X1, h1, h2, h3, Nat.le_refl _, Mv.of_below hB0⟩
  have hwW0 : w.heap.size ≤ W0.heap.size := hB0.size
  have hAlt : ∀ k, A.map (·.block) = some k → k < W0.heap.size := fun k hk => by
    obtain ⟨inner, ho⟩ := Kd.R_own h3
    rcases ho.2 with ⟨hv, _⟩ | ⟨g', cap', cur, hv, _, hh, _⟩
    · injection hv with ha
      subst ha
      cases hk
    · injection hv with ha
      subst ha
      injection hk with hk
      subst hk
      exact blk_lt hh
  have HS3 := Aside0.mk h3
  have hp1 := blk_cell h1 1
  have h30 := h3
  have HX1 := Aside0.mk h1
  have HGG := Aside0.mk hg1
  clear hgs hg1 h2 h1 h3
  refine wpIn_rangeFunc_ownH rfl (by omega) (gf := 69) (lb := #[.pointer (some ⟨gs, 0, none⟩)]) rfl trivial (enters_of Tryd.func69 (by kernel_rfl) rfl)
    (all_stops _ gs p B c A ws W0 hlen Xs.cell hp1 h30) (fun {_ _ _} h k => h.trans k) (kpS_b hAlt) (Below.refl _ _) (fun _ => rfl)
    (FlI B w W0 p g1 (.slice (some ⟨gl, 0, none⟩) m cl) (.slice A ws.length c) stp lf st L ws) (fun _ _ _ => False) (FlI.own hwW0) (fun _ _ _ _ _ h _ _ => h) hI0
    (fun x a' W => ∃ g4, a' = { tmps := #[Value.pointer (some ⟨p, 0, none⟩), Value.pointer (some ⟨g1, 0, none⟩), Value.int .i64 0, undef, Value.pointer (some ⟨g4, 0, none⟩), Value.bool false, Value.pointer (some ⟨p, 0, none⟩), Value.int .i64 (m : Int), Value.bool false, Value.bool false, Value.pointer (some ⟨p, 0, none⟩), Value.bool false, Value.pointer (some ⟨p, 0, none⟩), Value.func (Fn.func 69) #[] #[Value.pointer (some ⟨gs, 0, none⟩)], Value.int .i64 (x.1 : Int), Value.agg (wC ws[x.1]).toArray, undef, undef, undef, undef, undef, undef, undef, undef, undef, undef, undef, undef, undef, undef], defers := [] } ∧ W0.heap.size ≤ g4 ∧ W.heap[g4]? = some (.cells (wC ws[x.1]).toArray 97 (0, 0)))
    ?hAx ?assign ?body ?done ?stop
  case hAx =>
    rintro x a' _ W W' row ⟨g4, h1, h2, h3⟩ hg hr
    exact ⟨g4, h1, h2, blk_noncells h3 hg hr⟩
  case assign =>
    intro lp pre x W K hI hK
    have h64 := (HWS.out ws[x.1] (List.getElem_mem _)).2.2
    dsimp only [encW]
    go_simp
    refine list_in (by rfl) ?_

    refine lst_ (a' := ?_) rfl rfl (exec_alloc rfl info97) ?_ ?_
    rotate_left
    · simp only [Act.put, List.setIfInBounds_toArray, List.set_cons_zero, List.set_cons_succ, i64_w, i32_w]
      rfl
    skip
    refine lst_store rfl rfl rfl rfl rfl (store97 (wC_len h64) (wC_one _) _) ?_
    refine ⟨rfl, ?_⟩
    exact hK _ _ ((KeepsOthers.alloc W _).from _) (fun k hk => Below.heap_alloc W _ k (by have := hAlt k hk; have := hI.sz; omega)) (hI.alloc _) ⟨W.heap.size, rfl, hI.sz, World.alloc_heap_new W _⟩
  case body =>
    rintro lp pre x a' W hlp hloop hI ⟨g4, rfl, hg4, hx4⟩ hlt
    have hxw := HWS.out ws[x.1] (List.getElem_mem _)
    have hpre : (pre ++ [x]).map (fun j => ws[j.1]) = pre.map (fun j => ws[j.1]) ++ [ws[x.1]] := by rw [List.map_append]; rfl
    have hfl : flushL L ((pre ++ [x]).map fun j => ws[j.1]) = (flushL L (pre.map fun j => ws[j.1])).set (ws[x.1]).1.toNat (ws[x.1]).2 := by rw [hpre, flushL_snoc]
    have hfm : (flushL L (pre.map fun j => ws[j.1])).length = m := by rw [flushL_len]; exact HM.out
    obtain ⟨i1, i2, i3, i4, i5, i6⟩ := hI
    rw [HM.out] at hxw
    generalize flushL L (pre.map fun j => ws[j.1]) = Lp at hfl hfm i3
    have HPO := Aside0.mk (fun W' hbx hbl (hrl : Kd.R kS 95 W' B (fun _ => True) (.slice (some ⟨gl, 0, none⟩) m cl) (Lp.set (ws[x.1]).1.toNat (ws[x.1]).2)) hrw hsz hmv => (⟨hbx, hbl, by rw [hfl]; exact hrl, hrw, hsz, hmv⟩ : FlI B w W0 p g1 (.slice (some ⟨gl, 0, none⟩) m cl) (.slice A ws.length c) stp lf st L ws (pre ++ [x]) W'))
    generalize FlI B w W0 p g1 (.slice (some ⟨gl, 0, none⟩) m cl) (.slice A ws.length c) stp lf st L ws = FI at HPO ⊢
    generalize ws[x.1] = y at hx4 hxw HPO ⊢
    obtain ⟨yi, yb⟩ := y
    dsimp only at hxw HPO
    obtain ⟨mi, rfl⟩ : ∃ mi : Nat, yi = (mi : Int) := ⟨yi.toNat, by omega⟩
    have hml : mi < m := by omega
    have hmli : (mi : Int) < (m : Int) := by omega
    rw [Int.toNat_natCast] at HPO
    obtain ⟨X, hX⟩ : ∃ X, yb.map (Value.int .u8) = X := ⟨_, rfl⟩
    have hXl : X.length = 64 := by rw [← hX, List.length_map]; exact hxw.2.2
    have hst := sector_store (m := mi) (b := yb) (Kd.R_drew i3) (by omega) hxw.2.2
    have hwc : wC ((mi : Int), yb) = Value.int .i64 (mi : Int) :: X := by unfold wC; rw [hX]
    rw [hwc] at hx4 ⊢
    rw [hX] at hst
    have hcell4 : W.cell? ⟨g4, 0, none⟩ = some (.int .i64 (mi : Int)) := blk_cell hx4 0
    have hrg4 : W.rangeAt g4 1 X := fun j v hv => by
      rw [blk_cell hx4 (1 + j), List.getElem?_toArray, Nat.add_comm 1 j, List.getElem?_cons_succ]
      exact hv
    have hm64 : IntKind.i64.wrap ((mi : Int) * 64) = ((mi * 64 : Nat) : Int) := by rw [IntKind.wrap_i64]; omega
    have HRG := Aside0.mk hrg4
    have HBX := Aside0.mk i1
    have HBL := Aside0.mk i2
    have HRW := Aside0.mk i4
    have HSZ := Aside0.mk i5
    have HMV := Aside0.mk i6
    have HRL := Aside0.mk i3
    have HX4 := Aside0.mk hx4
    obtain ⟨W9, hrun9, hR9, hg9⟩ := hst
    have HRUN := Aside0.mk hrun9
    have HR9 := Aside0.mk hR9
    have HG9 := Aside0.mk hg9
    have hxw1 := hxw.1
    clear hrg4 i1 i2 i3 i4 i5 i6 hxw hx4 hX hfl hpre hwc hrun9 hR9 hg9 hm64
    refine wpIn_block ?_
    refine start_in (m := 10) (S := fun w' => w'.cell? ⟨g1, 0, none⟩ = some (.pointer (some ⟨p, 0, none⟩)) ∧ w'.cell? ⟨p, 0, none⟩ = some (.slice (some ⟨gl, 0, none⟩) m cl) ∧ w'.cell? ⟨g4, 0, none⟩ = some (.int .i64 (mi : Int)) ∧ w'.rangeAt g4 1 X) (ds := [9]) #[false, false, false, false, false, false, false, false, false, false] (by kernel_rfl) (by kernel_rfl) rfl rfl ⟨by rw [World.cell?_drew]; exact blk_cell HBX.out 0, by rw [World.cell?_drew]; exact blk_cell HBL.out 0, by rw [World.cell?_drew]; exact hcell4, (World.rangeAt_drew _ _ _ _).2 HRG.out⟩ (fun hHeld => ?_)
    refine take_ (i := 0) (N := some 16) (v := ?_) (a' := ?_) #[true, false, false, false, false, false, false, false, false, false] rfl rfl (by kernel_rfl) (fun _ _ _ h => (by cases h.1)) (Or.inl ⟨by rfl, ?_⟩) hHeld ?_ ?_
    rotate_left
    · rintro w' ⟨c1, _, _, _⟩
      go_simp
      with_reducible rfl
    rotate_left
    · simp only [Act.put, List.setIfInBounds_toArray, List.set_cons_zero, List.set_cons_succ, i64_w, i32_w]
      rfl
    refine pure_ (i := 1) (N := some 17) (v := ?_) (a' := ?_) #[true, true, false, false, false, false, false, false, false, false] rfl rfl (by kernel_rfl) (fun _ _ _ h => (by cases h.1)) (Or.inl ⟨by rfl, ?_⟩) ?_ ?_
    rotate_left
    · intro w'
      go_simp
      with_reducible rfl
    rotate_left
    · simp only [Act.put, List.setIfInBounds_toArray, List.set_cons_zero, List.set_cons_succ, i64_w, i32_w]
      rfl
    refine pure_ (i := 2) (N := some 18) (v := ?_) (a' := ?_) #[true, true, true, false, false, false, false, false, false, false] rfl rfl (by kernel_rfl) (fun _ _ _ h => (by cases h.1)) (Or.inl ⟨by rfl, ?_⟩) ?_ ?_
    rotate_left
    · intro w'
      go_simp
      with_reducible rfl
    rotate_left
    · simp only [Act.put, List.setIfInBounds_toArray, List.set_cons_zero, List.set_cons_succ, i64_w, i32_w]
      rfl
    refine take_ (i := 3) (N := some 19) (v := ?_) (a' := ?_) #[true, true, true, true, false, false, false, false, false, false] rfl rfl (by kernel_rfl) (fun _ _ _ h => (by cases h.1)) (Or.inl ⟨by rfl, ?_⟩) hHeld ?_ ?_
    rotate_left
    · rintro w' ⟨_, c2, _, _⟩
      go_simp
      with_reducible rfl
    rotate_left
    · simp only [Act.put, List.setIfInBounds_toArray, List.set_cons_zero, List.set_cons_succ, i64_w, i32_w]
      rfl
    refine pure_ (i := 4) (N := some 20) (v := ?_) (a' := ?_) #[true, true, true, true, true, false, false, false, false, false] rfl rfl (by kernel_rfl) (fun _ _ _ h => (by cases h.1)) (Or.inl ⟨by rfl, ?_⟩) ?_ ?_
    rotate_left
    · intro w'
      go_simp
      with_reducible rfl
    rotate_left
    · simp only [Act.put, List.setIfInBounds_toArray, List.set_cons_zero, List.set_cons_succ, i64_w, i32_w]
      rfl
    refine take_ (i := 5) (N := some 21) (v := ?_) (a' := ?_) #[true, true, true, true, true, true, false, false, false, false] rfl rfl (by kernel_rfl) (fun _ _ _ h => (by cases h.1)) (Or.inl ⟨by rfl, ?_⟩) hHeld ?_ ?_
    rotate_left
    · rintro w' ⟨_, _, c3, _⟩
      go_simp
      with_reducible rfl
    rotate_left
    · simp only [Act.put, List.setIfInBounds_toArray, List.set_cons_zero, List.set_cons_succ, i64_w, i32_w]
      rfl
    refine pure_ (i := 6) (N := some 22) (v := ?_) (a' := ?_) #[true, true, true, true, true, true, true, false, false, false] rfl rfl (by kernel_rfl) (fun _ _ _ h => (by cases h.1)) (Or.inl ⟨by rfl, ?_⟩) ?_ ?_
    rotate_left
    · intro w'
      go_simp
      with_reducible rfl
    rotate_left
    · simp only [Act.put, List.setIfInBounds_toArray, List.set_cons_zero, List.set_cons_succ, i64_w, i32_w]
      rfl
    refine take_ (i := 7) (N := some 23) (a' := ?_) #[true, true, true, true, true, true, true, true, false, false] rfl rfl (by kernel_rfl) (fun _ _ _ h => (by cases h.1)) (yieldsIf_load_mid rfl 95 (.tmp 22) rfl g4 1 rfl X _ (fun _ hS => hS.2.2.2) u95 rfl (by rw [hXl]; exact info95s)) hHeld ?_ ?_
    rotate_left
    · simp only [Act.put, List.setIfInBounds_toArray, List.set_cons_zero, List.set_cons_succ, i64_w, i32_w]
      rfl
    refine pure_ (i := 8) (N := some 24) (v := ?_) (a' := ?_) #[true, true, true, true, true, true, true, true, true, false] rfl rfl (by kernel_rfl) (fun _ _ _ h => (by cases h.1)) (Or.inl ⟨by rfl, ?_⟩) ?_ ?_
    rotate_left
    · intro w'
      go_simp
      with_reducible rfl
    rotate_left
    · simp only [Act.put, List.setIfInBounds_toArray, List.set_cons_zero, List.set_cons_succ, i64_w, i32_w]
      rfl
    refine last_ (i := 9) (N := none) #[true, true, true, true, true, true, true, true, true, true] rfl rfl (by kernel_rfl) (by decide) (fun K hK => ?_)
    refine step_store rfl rfl rfl rfl rfl HRUN.out ?_
    refine hK.out _ _ ?_
    clear hK K
    refine done_ (by kernel_rfl) ?_
    have hgr : W.grownBy W9 (some gl) := ⟨HG9.out.os, HG9.out.tape, HG9.out.output, HG9.out.size, HG9.out.block⟩
    have hKO : KeepsOthers W W9 := KeepsOthers.of_grownBy hgr (fun j o e ho => by
      injection e with e
      subst e
      obtain ⟨_, cs, t, _, hc⟩ := R_row HRL.out gl rfl
      rw [hc] at ho
      injection ho with ho
      subst ho
      rfl)
    refine ⟨rfl, hKO.from _, fun k hk => ?_, HPO.out W9 ?_ ?_ HR9.out ?_ ?_ ?_⟩
    · refine hgr.block k (Nat.lt_of_lt_of_le (hAlt k hk) HSZ.out) (fun he => ?_)
      have h1 : (Value.slice A ws.length c).ownBlock = some k := by cases A with | none => cases hk | some ad => exact hk
      exact Kd.ne_of_rows HRL.out HRW.out (by decide) h1 he
    · exact blk_grown HBX.out hgr (Kd.R_ne HRL.out HBX.out (by decide))
    · exact blk_grown HBL.out hgr (Kd.R_ne HRL.out HBL.out (by decide))
    · exact Kd.R_grown2 HRW.out rfl hgr (fun k hk => by
        injection hk with hk
        subst hk
        exact Kd.ne_of_rows HRW.out HRL.out (by decide) rfl)
    · exact Nat.le_trans HSZ.out hgr.size
    · exact HMV.out.trans (Mv.of_grown hgr (fun k hk => by
        injection hk with hk
        subst hk
        exact ⟨(R_row HRL.out gl rfl).1, (R_row HRL.out gl rfl).2.sub (by decide)⟩))
  case done =>
    rintro D ys W hD rfl hI hK
    obtain ⟨i1, i2, i3, i4, i5, i6⟩ := hI
    have hfin : (List.finRange ws.length).map (fun j => ws[j.1]) = ws := by
      apply List.ext_getElem
      · simp
      · intro i h1 h2
        simp
    rw [hfin] at i3
    have p0 := blk_cell i1 0
    have p1 := blk_cell i2 1
    have f1 := blk_frozen i2 1
    have hst := blk_put (cs := #[.slice (some ⟨gl, 0, none⟩) m cl, .slice A ws.length c, .int .i64 stp, .bool st, .int .i64 lf]) i2 1 (.slice none 0 0) rfl
    have hm3 := i6.setCell (i := 1) i2 (by decide) hb0 (.slice none 0 0)
    have r2 := Kd.R_set i3 i2 kS_E 1 (.slice none 0 0)
    have HD : Aside0 (Dk B (W.setCell ⟨p, 1, none⟩ (.slice none 0 0)) p (flushL L ws) [] st lf) := ⟨hb0, _, _, stp, hst, r2, Kd.R_nil _ _ _ _ _⟩
    have M3 := Aside0.mk hm3
    have CSD := Aside0.mk (CT.out _ _ _ HD.out)
    have HKD := Aside0.mk ((KeepsOthers.setCell W ⟨p, 1, none⟩ (.slice none 0 0)).same D _ hK rfl)
    have HPT := Aside0.mk i2
    clear hst hm3 r2 i2 i3 i4 i5 i6 hK hfin
    gi_wp2_with ((try refine ⟨trivial, ?_⟩); gi_at_call 67; refine (callsIn_wide.2 CSD.out).mono ?_; rintro e wq ⟨⟨vq, rfl⟩, hdk, hmv⟩; have HDK := Aside0.mk hdk; have HMV := Aside0.mk hmv; clear hdk hmv)
    have hKq : wq.heap[D]? = some (.deferred (some [])) := (HMV.out.block D (blk_lt HKD.out) (fun hx => by
      obtain ⟨cs, t, _, hc⟩ := hx.2
      rw [HKD.out] at hc
      cases hc)).trans HKD.out
    have hgq := grownBy_putObj' wq D (.deferred none)
    have hrq : ∀ r, some D = some r → w.heap.size ≤ r ∧ ∃ o : Obj, wq.heap[r]? = some o ∧ o.isCells = false := fun r e => by
      cases e
      exact ⟨by omega, _, hKq, rfl⟩
    refine ⟨by simp, .inl ⟨_, _, rfl, run_takeDeferred hKq, ?_⟩⟩
    refine ⟨_, results_tmp rfl _ _ _, rfl, ?_, (M3.out.trans HMV.out).grownN hgq (fun r e => (hrq r e).1)⟩
    obtain ⟨d0, vl', vw', stp', d1, d2, d3⟩ := HDK.out
    exact ⟨d0, vl', vw', stp', blk_noncells d1 hgq hrq, R_noncells d2 hgq hrq, R_noncells d3 hgq hrq⟩
  case stop =>
    rintro D cd pre W _ _ h _
    exact h.elim
end
end Go.Proofs.YtenjldfflkinkaaDoor.Sav

namespace Go.Proofs.YtenjldfflkinkaaDoor.Sav
set_option linter.unusedVariables false
set_option linter.unusedSimpArgs false
open Go.RowKit Go.Shelf Go.Proofs.YtenjldfflkinkaaDoor.F Go.Proofs.YtenjldfflkinkaaDoorW.PrintWords Go.Proofs.YtenjldfflkinkaaDoorW.PrintLast Go.Proofs.YtenjldfflkinkaaDoorW.PrintMore
def GivesRd (b : List Int) (w : World) (e : Ending) (w' : World) : Prop := ∃ v : Value, e = .returned (.tuple #[v, .int .i64 0]) ∧ Kd.R (Kd.int .u8) 5 w' w.heap.size (fun _ => True) v b ∧ Below w.heap.size w w'
theorem sector_at {B : Nat} {w : World} {g n cap m : Nat} {L : List (List Int)} (h : Kd.R kS 95 w B (fun _ => True) (.slice (some ⟨g, 0, none⟩) n cap) L) (hm : m < L.length) : w.rangeAt g (m * 64) ((L.getD m []).map (Value.int .u8)) ∧ (L.getD m []).length = 64 := by
  have hn := (Kd.R_reads' h).1
  obtain ⟨cs, hcl, hM, hcc⟩ := Kd.R_getA h [] (m : Int) (by omega) (by omega)
  rw [Int.toNat_natCast] at hM hcc
  obtain ⟨h1, rfl⟩ := kS_M.1 hM
  refine ⟨fun j v hj => ?_, h1⟩
  have h2 := hcc j v hj
  rw [Addr.add_mid, Nat.zero_add] at h2
  exact h2
theorem store95 {C : List Value} (hC : C.length = 64) (h1 : ∀ v ∈ C, v.oneCell' = true) (W : World) : (Instr.storeAt 95 (.pointer (some ⟨W.heap.size, 0, none⟩)) (.agg C.toArray)).run Tryd.prog (W.alloc (.cells (Value.agg (List.replicate 64 (Value.int .u8 0)).toArray).cells 95)) = .ok () (W.alloc (.cells C.toArray 95)) :=
  run_storeAt_new W _ _ _ (by rw [info95s]; simp [hC]) (by simp [Value.cells, hC]) (all_oneCell_toArray h1)
theorem lst_norm {P : Program} {ops : Array Oper} {Q : Exit → Act → World → Prop} {l : List Oper} {a a' : Act} {w : World} (ha : a = a') (h : wpList P ops Q l a' w) : wpList P ops Q l a w := by
  subst ha
  exact h
theorem C_blk {W : World} {g t : Nat} {b : List Int} (hb : b.length ≤ 1000) (h : W.heap[g]? = some (.cells (b.map (Value.int .u8)).toArray t (0, 0))) : Kd.C (Kd.int .u8) W (some ⟨g, 0, none⟩) b.length b := C_lit hb (fun j hj => by
  rw [blk_cell h, List.getElem?_toArray, List.getElem?_map, List.getD_eq_getElem?_getD, List.getElem?_eq_getElem hj]
  rfl)
theorem R_alt {α : Type} {d : Kd α} {e base n c : Nat} {w : World} {ok : Nat → Prop} {A : Option Addr} {xs : List α} (h : Kd.R d e w base ok (.slice A n c) xs) : ∀ k, A.map (·.block) = some k → k < w.heap.size := fun k hk => by
  have h1 : (Value.slice A n c).ownBlock = some k := by cases A with | none => cases hk | some ad => exact hk
  obtain ⟨inner, ho⟩ := Kd.R_own h
  exact own_lt ho k h1
section
variable {B : Nat} {w : World} {p : Nat} {L : List (List Int)} {st : Bool} {lf : Int}
attribute [local go_sem] Oper.semAt_some
set_option maxRecDepth 100000 in
set_option maxHeartbeats 4000000 in
theorem Read_calls (h : Dk B w p L [] st lf) (hd : (st && decide (lf = 0)) = false) (hL : L.length ≤ 4096) {m : Nat} (hm : m < L.length) : Calls Tryd.prog 48 #[.pointer (some ⟨p, 0, none⟩), .int .i64 (m : Int)] w (GivesRd (L.getD m []) w) := by
  have hb := below_alloc (Below.refl _ w) (.cells #[.int .i64 (m : Int)] 3)
  have CW := Aside0.mk (wrong_calls (h.below hb) hL hm)
  have CD := Aside0.mk (down_calls (h.below hb))
  rw [hd] at CD
  clear hd
  obtain ⟨hb0, vl, vw, stp, h1, h2, h3⟩ := h
  obtain ⟨A, c, rfl⟩ := Kd.R_slice h3
  obtain ⟨al, cl, rfl⟩ := Kd.R_slice1 h2 (by omega)
  obtain ⟨gl, rfl⟩ := Kd.R_head h2
  have HB := Aside0.mk hb
  obtain ⟨b, hbe⟩ : ∃ b, L.getD m [] = b := ⟨_, rfl⟩
  have hsec := sector_at h2 hm
  rw [hbe] at hsec ⊢
  have hb64 := hsec.2
  obtain ⟨X, hX⟩ : ∃ X, b.map (Value.int .u8) = X := ⟨_, rfl⟩
  have hXl : X.length = 64 := by rw [← hX, List.length_map]; exact hb64
  have hX1 : ∀ v ∈ X, v.oneCell' = true := by rw [← hX]; exact one_nums b
  have hrg := hsec.1
  rw [hX] at hrg
  have HX := Aside0.mk hX
  obtain ⟨n, hn⟩ : ∃ n, L.length = n := ⟨_, rfl⟩
  have H1 := Aside0.mk h1
  rw [hn] at H1 hL hm
  have hml : (m : Int) < (n : Int) := by omega
  have H3 := Aside0.mk h3
  have HRG := Aside0.mk hrg
  have HX1 := Aside0.mk hX1
  clear h1 h2 h3 hb hX hX1 hn hrg hsec hbe
  refine (callsIn_wide (n := 5)).1 ?_
  refine callsIn_of_wp_marks Tryd.func48 rfl trivial ?_ rfl
  simp only [Tryd.ntmps48, List.size_toArray, List.length_cons, List.length_nil, Nat.reduceAdd, Nat.reduceSub, Array.replicate_succ, Array.replicate_zero, List.push_toArray, List.append_toArray, List.nil_append, List.cons_append]
  gi_upto_region 6 with (first
    | ((try refine ⟨trivial, ?_⟩); gi_at_call 65; refine (callsIn_wide.2 CW.out).mono ?_; rintro e w' ⟨rfl, rfl⟩)
    | ((try refine ⟨trivial, ?_⟩); gi_at_call 66; refine (callsIn_wide.2 CD.out).mono ?_; rintro e w' ⟨rfl, rfl⟩))
  have K3 := Aside0.mk (World.alloc_heap_new w (.cells #[.int .i64 (m : Int)] 3))
  have K1 := Aside0.mk (blk_below H1.out HB.out)
  have KR := Aside0.mk (World.rangeAt_alloc HRG.out (.cells #[.int .i64 (m : Int)] 3))
  have KW := Aside0.mk (Kd.R_below H3.out HB.out)
  obtain ⟨W1, hW1⟩ : ∃ W1, w.alloc (.cells #[.int .i64 (m : Int)] 3) = W1 := ⟨_, rfl⟩
  rw [hW1] at K3 K1 KR KW HB ⊢
  clear hW1
  obtain ⟨g3, hg3⟩ : ∃ g, w.heap.size = g := ⟨_, rfl⟩
  rw [show Value.pointer (some ⟨w.heap.size, 0, none⟩) = Value.pointer (some ⟨g3, 0, none⟩) from by rw [hg3]]
  rw [hg3] at K3
  have HG3 := Aside0.mk hg3
  clear hg3
  refine start_in (m := 9) (S := fun w' => w'.cell? ⟨g3, 0, none⟩ = some (.int .i64 (m : Int)) ∧ w'.cell? ⟨p, 0, none⟩ = some (.slice (some ⟨gl, 0, none⟩) n cl) ∧ w'.rangeAt gl (m * 64) X) (ds := [8]) #[false, false, false, false, false, false, false, false, false] (by kernel_rfl) (by kernel_rfl) rfl rfl ⟨by rw [World.cell?_drew]; exact blk_cell K3.out 0, by rw [World.cell?_drew]; exact blk_cell K1.out 0, (World.rangeAt_drew _ _ _ _).2 KR.out⟩ (fun hHeld => ?_)
  have K1d : Aside0 (W1.drew.heap[p]? = some (.cells #[.slice (some ⟨gl, 0, none⟩) n cl, .slice A ([] : List (Int × List Int)).length c, .int .i64 stp, .bool st, .int .i64 lf] 58 (0, 0))) := K1
  have KWd := Aside0.mk (Kd.R_drew KW.out)
  have HBd := Aside0.mk (below_drew HB.out)
  generalize W1.drew = D at K1d KWd HBd hHeld ⊢
  refine pure_ (i := 0) (N := some 18) (v := ?_) (a' := ?_) #[true, false, false, false, false, false, false, false, false] rfl rfl (by kernel_rfl) (fun _ _ _ h => (by cases h.1)) (Or.inl ⟨by rfl, ?_⟩) ?_ ?_
  rotate_left
  · intro w'
    go_simp
    with_reducible rfl
  rotate_left
  · simp only [Act.put, List.setIfInBounds_toArray, List.set_cons_zero, List.set_cons_succ, i64_w, i32_w]
    rfl
  refine pure_ (i := 1) (N := some 19) (v := ?_) (a' := ?_) #[true, true, false, false, false, false, false, false, false] rfl rfl (by kernel_rfl) (fun _ _ _ h => (by cases h.1)) (Or.inl ⟨by rfl, ?_⟩) ?_ ?_
  rotate_left
  · intro w'
    go_simp
    with_reducible rfl
  rotate_left
  · simp only [Act.put, List.setIfInBounds_toArray, List.set_cons_zero, List.set_cons_succ, i64_w, i32_w]
    rfl
  refine pure_ (i := 2) (N := some 20) (v := ?_) (a' := ?_) #[true, true, true, false, false, false, false, false, false] rfl rfl (by kernel_rfl) (fun _ _ _ h => (by cases h.1)) (Or.inl ⟨by rfl, ?_⟩) ?_ ?_
  rotate_left
  · intro w'
    go_simp
    with_reducible rfl
  rotate_left
  · simp only [Act.put, List.setIfInBounds_toArray, List.set_cons_zero, List.set_cons_succ, i64_w, i32_w]
    rfl
  refine take_ (i := 3) (N := some 21) (v := ?_) (a' := ?_) #[true, true, true, true, false, false, false, false, false] rfl rfl (by kernel_rfl) (fun _ _ _ h => (by cases h.1)) (Or.inl ⟨by rfl, ?_⟩) hHeld ?_ ?_
  rotate_left
  · rintro w' ⟨_, c2, _⟩
    go_simp
    with_reducible rfl
  rotate_left
  · simp only [Act.put, List.setIfInBounds_toArray, List.set_cons_zero, List.set_cons_succ, i64_w, i32_w]
    rfl
  refine take_ (i := 4) (N := some 22) (v := ?_) (a' := ?_) #[true, true, true, true, true, false, false, false, false] rfl rfl (by kernel_rfl) (fun _ _ _ h => (by cases h.1)) (Or.inl ⟨by rfl, ?_⟩) hHeld ?_ ?_
  rotate_left
  · rintro w' ⟨c1, _, _⟩
    go_simp
    with_reducible rfl
  rotate_left
  · simp only [Act.put, List.setIfInBounds_toArray, List.set_cons_zero, List.set_cons_succ, i64_w, i32_w]
    rfl
  refine pure_ (i := 5) (N := some 23) (v := ?_) (a' := ?_) #[true, true, true, true, true, true, false, false, false] rfl rfl (by kernel_rfl) (fun _ _ _ h => (by cases h.1)) (Or.inl ⟨by rfl, ?_⟩) ?_ ?_
  rotate_left
  · intro w'
    go_simp
    with_reducible rfl
  rotate_left
  · simp only [Act.put, List.setIfInBounds_toArray, List.set_cons_zero, List.set_cons_succ, i64_w, i32_w]
    rfl
  refine take_ (i := 6) (N := some 24) (a' := ?_) #[true, true, true, true, true, true, true, false, false] rfl rfl (by kernel_rfl) (fun _ _ _ h => (by cases h.1)) (yieldsIf_load_mid rfl 95 (.tmp 23) rfl gl (m * 64) rfl X _ (fun _ hS => hS.2.2) u95 rfl (by rw [hXl]; exact info95s)) hHeld ?_ ?_
  rotate_left
  · simp only [Act.put, List.setIfInBounds_toArray, List.set_cons_zero, List.set_cons_succ, i64_w, i32_w]
    rfl
  refine one_ (i := 7) (N := some 7) #[true, true, true, true, true, true, true, true, false] rfl rfl (by kernel_rfl) (by decide) (fun K hK => ?_)
  refine step_run rfl rfl (exec_alloc rfl info95) ?_
  refine hK.out _ _ ⟨by rw [World.cell?_alloc_lt _ _ _ (World.block_lt_of_cell? _ _ hHeld.1)]; exact hHeld.1, by rw [World.cell?_alloc_lt _ _ _ (World.block_lt_of_cell? _ _ hHeld.2.1)]; exact hHeld.2.1, World.rangeAt_alloc hHeld.2.2 _⟩ (fun hHeld => ?_)
  clear hK K
  refine norm_ (a' := ?_) ?_ ?_
  rotate_left
  · show Act.put _ (some 7) _ = _
    simp only [Act.put, List.setIfInBounds_toArray, List.set_cons_zero, List.set_cons_succ, i64_w, i32_w]
    rfl
  refine last_ (i := 8) (N := none) #[true, true, true, true, true, true, true, true, true] rfl rfl (by kernel_rfl) (by decide) (fun K hK => ?_)
  refine step_store rfl rfl rfl rfl rfl (store95 hXl HX1.out D) ?_
  refine hK.out _ _ ?_
  clear hK K
  refine done_ (by kernel_rfl) ?_
  refine ⟨rfl, ?_⟩
  have hb9 := below_alloc (Below.refl _ D) (.cells X.toArray 95)
  have h9 := World.alloc_heap_new D (.cells X.toArray 95)
  have HB9 := Aside0.mk (below_step HBd.out hb9)
  have K19 := Aside0.mk (blk_below K1d.out hb9)
  have KW9 := Aside0.mk (Kd.R_below KWd.out hb9)
  have K7 := Aside0.mk h9
  clear h9 hb9 hHeld
  generalize D.alloc (.cells X.toArray 95) = W2 at HB9 K19 KW9 K7 ⊢
  generalize D.heap.size = g7 at K7 ⊢
  gi_wp2_with ((try refine ⟨trivial, ?_⟩); gi_at_call 39; refine (all_in _ _ _).mono ?_; rintro e w' ⟨rfl, rfl⟩)
  have hbz := below_alloc (Below.refl _ W2) (.cells #[.pointer (some ⟨p, 0, none⟩)] 24)
  have kz := World.alloc_heap_new W2 (.cells #[.pointer (some ⟨p, 0, none⟩)] 24)
  have KZ1 := blk_below K19.out hbz
  have KZW := Kd.R_below KW9.out hbz
  have KZ7 := blk_below K7.out hbz
  have HBZ := Aside0.mk (below_step HB9.out hbz)
  generalize W2.alloc (.cells #[.pointer (some ⟨p, 0, none⟩)] 24) = W3 at kz KZ1 KZW KZ7 HBZ ⊢
  generalize W2.heap.size = gz at kz ⊢
  have hcz := blk_cell kz 0
  have hc1 := blk_cell KZ1 1
  refine wpIn_rangeFunc_ownH rfl (by omega) (gf := 69) (lb := #[.pointer (some ⟨gz, 0, none⟩)]) rfl trivial (enters_of Tryd.func69 (by kernel_rfl) rfl)
    (all_stops _ gz p B c A [] W3 (by simp) hcz hc1 KZW) (fun {_ _ _} h k => h.trans k) (kpS_b (R_alt KZW)) (Below.refl _ _) (fun _ => rfl)
    (fun (_ : List (Fin ([] : List (Int × List Int)).length)) W => W.heap[g7]? = some (.cells X.toArray 95 (0, 0)) ∧ Below w.heap.size w W) (fun _ _ _ => False) ?hI (fun _ _ _ _ _ h _ _ => h) ⟨KZ7, HBZ.out⟩ (fun _ _ _ => False) (fun _ _ _ _ _ _ h _ _ => h)
    ?assign ?body ?done ?stop
  case hI =>
    rintro pre W W' row ⟨h1, h2⟩ hg hr
    refine ⟨blk_noncells h1 hg hr, ?_⟩
    exact ownFrom_below (β := Unit) (Nat.le_refl _) HBZ.out.size () W W' row h2 hg hr
  case assign => intro lp pre x; exact x.elim0
  case body => intro lp pre x; exact x.elim0
  case stop =>
    rintro D cd pre W _ _ h _
    exact h.elim
  case done =>
    rintro D' ys W hD rfl ⟨hI7, hIB⟩ hK
    have H7 := Aside0.mk hI7
    have HIB := Aside0.mk hIB
    have HKD := Aside0.mk hK
    clear hI7 hIB hK
    gi_upto_region 11 with (fail)
    refine list_in (by rfl) ?_
    refine Kd.R_lit (Kd.int .u8) (w0 := w) w.heap.size 5 rfl (N := 35) rfl (xs := ([] : List Int)) (inner := []) (ok := fun _ => True) (okp := fun _ => True) ?hr (Reps.none _ _) (fun _ hk => hk) trivial HIB.out HIB.out.size (by simp) ?_
    case hr => first | (go_simp; done) | (go_simp; rfl)
    intro v1 w1 ho1 hb1 hg1 hn1
    obtain ⟨A1, c1, rfl⟩ := Kd.R_slice ho1
    have HO1 := Aside0.mk ho1
    have HB1 := Aside0.mk hb1
    have HG1 := Aside0.mk hg1
    clear ho1 hb1 hg1 hn1
    refine lst_norm (a' := ?_) ?_ ?_
    rotate_left
    · simp only [Act.put, List.setIfInBounds_toArray, List.set_cons_zero, List.set_cons_succ, i64_w, i32_w]
      rfl
    refine lst_ (v := ?_) (w' := ?_) (a' := ?_) rfl rfl ?_ ?_ ?_
    rotate_left 3
    · go_simp
      exact ⟨by with_reducible rfl, by with_reducible rfl⟩
    · simp only [Act.put, List.setIfInBounds_toArray, List.set_cons_zero, List.set_cons_succ, i64_w, i32_w]
      rfl
    have h71 : w1.heap[g7]? = some (.cells X.toArray 95 (0, 0)) := blk_grown H7.out HG1.out (by simp)
    have hC7 : Kd.C (Kd.int .u8) w1 (some ⟨g7, 0, none⟩) 64 b := by
      have := C_blk (b := b) (by omega) (by rw [HX.out]; exact h71)
      rw [hb64] at this
      exact this
    refine Kd.R_append_rows (Kd.int .u8) (w0 := w) w.heap.size rfl (.tmp 35) (.tmp 36) 40 5 (.int .u8 0) 1 rfl Tryd.underlying40 info5 rfl (by decide) (by omega) (.slice A1 0 c1) [] b _ _ _ (fun _ => True) (fun _ => False) rfl rfl HO1.out hC7 (fun _ _ h => h) (fun _ h => h.elim) (fun _ _ => trivial) HB1.out HB1.out.size (by simp <;> omega) ?_
    intro v9 w9 ho9 hb9 hg9 hn9
    have HO9 := Aside0.mk ho9
    have HB9 := Aside0.mk hb9
    have HKD9 : Aside0 (w9.heap[D']? = some (.deferred (some []))) := ⟨by
      have h1 : w1.heap[D']? = some (.deferred (some [])) := (HG1.out.block D' (blk_lt HKD.out) (by simp)).trans HKD.out
      refine (hg9.block D' (blk_lt h1) (fun he => ?_)).trans h1
      obtain ⟨_, cs, t, _, hc⟩ := R_row HO1.out D' he.symm
      rw [h1] at hc
      cases hc⟩
    clear ho9 hb9 hg9 hn9
    refine lst_norm (a' := ?_) ?_ ?_
    rotate_left
    · simp only [Act.put, List.setIfInBounds_toArray, List.set_cons_zero, List.set_cons_succ, i64_w, i32_w]
      rfl
    refine lst_ (v := ?_) (w' := ?_) (a' := ?_) rfl rfl ?_ ?_ ?_
    rotate_left 3
    · go_simp
      exact ⟨by with_reducible rfl, by with_reducible rfl⟩
    · simp only [Act.put, List.setIfInBounds_toArray, List.set_cons_zero, List.set_cons_succ, i64_w, i32_w]
      rfl
    refine lst_ (v := ?_) (w' := ?_) (a' := ?_) rfl rfl ?_ ?_ ?_
    rotate_left 3
    · go_simp
      exact ⟨by with_reducible rfl, by with_reducible rfl⟩
    · simp only [Act.put, List.setIfInBounds_toArray, List.set_cons_zero, List.set_cons_succ, i64_w, i32_w]
      rfl
    refine ⟨rfl, ?_⟩
    gi_wp2
    have hgq := grownBy_putObj' w9 D' (.deferred none)
    have hrq : ∀ r, some D' = some r → w.heap.size ≤ r ∧ ∃ o : Obj, w9.heap[r]? = some o ∧ o.isCells = false := fun r e => by
      cases e
      exact ⟨Nat.le_trans HBZ.out.size hD, _, HKD9.out, rfl⟩
    refine ⟨by simp, .inl ⟨_, _, rfl, run_takeDeferred HKD9.out, ?_⟩⟩
    exact ⟨_, results_tmp2 rfl _ _ _, v9, rfl, R_noncells HO9.out hgq hrq, ownFrom_below (β := Unit) (Nat.le_refl _) (Nat.le_refl _) () _ _ _ HB9.out hgq hrq⟩
end
end Go.Proofs.YtenjldfflkinkaaDoor.Sav

namespace Go.Proofs.YtenjldfflkinkaaDoor.Sav
set_option linter.unusedVariables false
set_option linter.unusedSimpArgs false
open Go.RowKit Go.Shelf Go.Proofs.YtenjldfflkinkaaDoor.F Go.Proofs.YtenjldfflkinkaaDoorW.PrintWords Go.Proofs.YtenjldfflkinkaaDoorW.PrintLast Go.Proofs.YtenjldfflkinkaaDoorW.PrintMore
/-- how many bytes of a write are kept -/
def keepN (v : Int) : Nat := (max 0 (min v 64)).toNat
theorem keepN_le (v : Int) : keepN v ≤ 64 := by unfold keepN; omega
/-- one write that waits, torn -/
def tear (ks : List Int) (L : List (List Int)) (j : Nat) (x : Int × List Int) : List (List Int) :=
  if j < ks.length then L.set x.1.toNat (x.2.take (keepN (ks.getD j 0)) ++ (L.getD x.1.toNat []).drop (keepN (ks.getD j 0))) else L
def crashL (ks : List Int) (L : List (List Int)) (ws : List (Int × List Int)) (pre : List (Fin ws.length)) : List (List Int) := pre.foldl (fun L j => tear ks L j.1 ws[j.1]) L
theorem crashL_snoc (ks : List Int) (L : List (List Int)) (ws : List (Int × List Int)) (pre : List (Fin ws.length)) (x : Fin ws.length) : crashL ks L ws (pre ++ [x]) = tear ks (crashL ks L ws pre) x.1 ws[x.1] := by
  unfold crashL
  rw [List.foldl_append]
  rfl
theorem tear_len (ks : List Int) (L : List (List Int)) (j : Nat) (x : Int × List Int) : (tear ks L j x).length = L.length := by
  unfold tear
  split <;> simp
theorem crashL_len (ks : List Int) (ws : List (Int × List Int)) (pre : List (Fin ws.length)) : ∀ L, (crashL ks L ws pre).length = L.length := by
  induction pre with
  | nil => intro L; rfl
  | cons x pre ih => intro L; unfold crashL at *; rw [List.foldl_cons, ih, tear_len]
section
variable {P : Program} {ops : Array Oper} {o : Oper} {a : Act} {w : World} {K : Act → World → Prop} {Q : Exit → Act → World → Prop} {E : Prop}
theorem step_copy_g (hgd : o.guard = none) (d s : Operand) (dT sT : TypeId)
    (ho : o.op = .call { callee := .builtin .copy, args := #[d, s], argTypes := #[dT, sT] }) (elem : TypeId) (hu : P.underlying dT = some (.slice elem)) (hsz : (P.info? elem).map (·.size) = some 1)
    (dp sp : Option Addr) (dLen dCap sLen sCap : Nat) (hd : a.eval d = .slice dp dLen dCap) (hs : a.eval s = .slice sp sLen sCap)
    (g off : Nat) (cur : List Value) (t : TypeId) (hg : w.heap[g]? = some (.cells cur.toArray t (0, 0))) (cs : List Value) (hn : cs.length = Nat.min sLen dLen)
    (hpos : 0 < cs.length → dp = some ⟨g, off, none⟩ ∧ ∃ ad, sp = some ad ∧ ∀ j v, cs[j]? = some v → w.cell? (ad.add j) = some v)
    (hfit : off + cs.length ≤ cur.length) (h1 : ∀ v ∈ cs, v.oneCell' = true)
    (h : ∀ w', w'.heap[g]? = some (.cells (splice cur off cs).toArray t (0, 0)) → w.grownBy w' (some g) → K (a.put o.dst (goInt cs.length)) w') :
    if Region.wanted o (yielded ops a.tmps) = true then Oper.wp P o a w K Q else E := by
  have hw : Region.wanted o (yielded ops a.tmps) = true := by simp [Region.wanted, hgd]
  rw [if_pos hw]
  by_cases h0 : cs.length = 0
  · obtain rfl : cs = [] := List.eq_nil_of_length_eq_zero h0
    have hrun := run_copy_none (P := P) w dT sT o.type elem dp sp dLen dCap sLen sCap hu hsz (by simpa using hn.symm)
    unfold Oper.wp
    simp [execOp, ho, resolve, invoke, builtin, hd, hs, hrun, Result.andThen]
    exact h w (by simpa [splice] using hg) (World.grownBy.refl w _)
  · obtain ⟨rfl, ad, rfl, hsrc⟩ := hpos (by omega)
    have hrun := run_copy_row (P := P) w dT sT o.type elem g off dLen dCap ad sLen sCap cur.toArray t cs hu hsz hg hn hsrc (by simpa using hfit) h1
    unfold Oper.wp
    simp [execOp, ho, resolve, invoke, builtin, hd, hs, hrun, Result.andThen]
    exact h _ (by simpa [splice] using setRow_heap w g _ _ t _ hg) ⟨rfl, rfl, rfl, by simp [World.setRow], fun k hk hne => setRow_other w g k _ (fun e => hne (by rw [e]))⟩
end
theorem R_cur {B : Nat} {W : World} {g n cap : Nat} {ok : Nat → Prop} {L : List (List Int)} (h : Kd.R kS 95 W B ok (.slice (some ⟨g, 0, none⟩) n cap) L) : ∃ cur : List Value, W.heap[g]? = some (.cells cur.toArray 95 (0, 0)) ∧ L.length * 64 ≤ cur.length := by
  obtain ⟨inner, ho⟩ := Kd.R_own h
  have hn := (Kd.R_reads' h).1
  rcases ho.2 with ⟨hv, _⟩ | ⟨g', cap', cur, hv, _, hh, hnc, hcm, hcs, _⟩
  · cases hv
  injection hv with ha _ hc
  injection ha with ha
  injection ha with hg'
  subst hg'; subst hc
  refine ⟨cur.toList, by simpa using hh, ?_⟩
  have h1 : cur.size = cap * 64 := hcs
  have h2 : L.length * 64 ≤ cap * 64 := Nat.mul_le_mul_right _ (by omega)
  have h3 : cur.toList.length = cur.size := by simp
  omega
set_option maxRecDepth 100000 in
theorem sector_tear {B : Nat} {W W' : World} {g n cap m q : Nat} {L : List (List Int)} {b : List Int} {cur : List Value} (h : Kd.R kS 95 W B (fun _ => True) (.slice (some ⟨g, 0, none⟩) n cap) L) (hm : m < L.length) (hb : b.length = 64) (hq : q ≤ 64)
    (hc : W.heap[g]? = some (.cells cur.toArray 95 (0, 0))) (hc' : W'.heap[g]? = some (.cells (splice cur (m * 64) ((b.map (Value.int .u8)).take q)).toArray 95 (0, 0))) :
    Kd.R kS 95 W' B (fun _ => True) (.slice (some ⟨g, 0, none⟩) n cap) (L.set m (b.take q ++ (L.getD m []).drop q)) := by
  have hn := (Kd.R_reads' h).1
  obtain ⟨cs, hcl, hM, hcc⟩ := Kd.R_getA h [] (m : Int) (by omega) (by omega)
  rw [Int.toNat_natCast] at hM hcc
  have hsz : kS.sz = 64 := rfl
  obtain ⟨hl, rfl⟩ := kS_M.1 hM
  have h64 : ((b.map (Value.int .u8)).take q).length = q := by rw [List.length_take, List.length_map, hb]; omega
  have hs := Kd.R_seg (seg := (b.map (Value.int .u8)).take q) (j := 0) (x' := b.take q ++ (L.getD m []).drop q) (okp := fun _ => False) h (m : Int) (by omega) (by omega) hcl (fun j u hj => by have := hcc j u hj; rw [Addr.add_mid, Nat.zero_add] at this; rw [Int.toNat_natCast]; exact this) (by rw [h64, hsz]; omega)
    (kS_M.2 ⟨by rw [List.length_append, List.length_take, List.length_drop, hb, hl]; omega, by rw [h64, List.take_zero, List.nil_append, List.map_append, List.map_take, List.map_drop, Nat.zero_add]⟩) (fun _ hk => hk.elim)
  rw [Int.toNat_natCast, hsz, Nat.add_zero] at hs
  have hfit : m * 64 + ((b.map (Value.int .u8)).take q).length ≤ cur.toArray.size := by
    obtain ⟨cur2, hc2, hl2⟩ := R_cur h
    rw [hc] at hc2
    injection hc2 with hc2
    injection hc2 with hc2
    have hc3 : cur = cur2 := by simpa using hc2
    rw [h64]
    have : m * 64 + 64 ≤ L.length * 64 := by rw [← Nat.succ_mul]; exact Nat.mul_le_mul_right _ (by omega)
    simp
    rw [hc3]
    omega
  obtain ⟨cur', e1, e2, e3⟩ := setCells_row ((b.map (Value.int .u8)).take q) (m * 64) W cur.toArray hc hfit
  refine Kd.R_mono (Kd.R_move (Kd.R_tight rfl hs.1) (fun k hk => ?_)) (fun _ _ => trivial)
  have hk2 : k = g := by simpa [Value.ownBlock] using hk
  subst hk2
  rw [hc', e1]
  congr 2
  apply Array.toList_inj.1
  rw [e3]
  simp [splice]
theorem size24 : (Tryd.prog.info? 24).map (·.size) = some 1 := by kernel_rfl
theorem info24 : (Tryd.prog.info? 24).map (fun i => (i.zero, i.size, i.bytes)) = some (some (.pointer none), 1, 8) := by kernel_rfl
/-- the new disk while it is torn -/
structure CrI (w W0 : World) (q g6 g3 gv : Nat) (n cv : Nat) (vk : Value) (ks : List Int) (L : List (List Int)) (ws : List (Int × List Int)) (pre : List (Fin ws.length)) (W : World) : Prop where
  box : W.heap[g6]? = some (.cells #[.pointer (some ⟨q, 0, none⟩)] 24 (0, 0))
  blk : W.heap[q]? = some (.cells #[.slice (some ⟨gv, 0, none⟩) n cv, .slice none 0 0, .int .i64 0, .bool false, .int .i64 0] 58 (0, 0))
  kb : W.heap[g3]? = some (.cells #[vk] 23 (0, 0))
  rl : Kd.R kS 95 W w.heap.size (fun _ => True) (.slice (some ⟨gv, 0, none⟩) n cv) (crashL ks L ws pre)
  sz : W0.heap.size ≤ W.heap.size
  bw : Below w.heap.size w W
section
variable {w W0 : World} {q g6 g3 gv n cv : Nat} {vk : Value} {ks : List Int} {L : List (List Int)} {ws : List (Int × List Int)}
theorem CrI.own {m : Nat} (hm : w.heap.size ≤ m) : OwnFrom m (CrI w W0 q g6 g3 gv n cv vk ks L ws) := by
  rintro pre W W' row ⟨h1, h2, h3, h4, h5, h6⟩ hg hr
  exact ⟨blk_noncells h1 hg hr, blk_noncells h2 hg hr, blk_noncells h3 hg hr, R_noncells h4 hg hr, Nat.le_trans h5 hg.size, ownFrom_below (β := Unit) (Nat.le_refl _) hm () W W' row h6 hg hr⟩
theorem CrI.alloc {pre : List (Fin ws.length)} {W : World} (h : CrI w W0 q g6 g3 gv n cv vk ks L ws pre W) (o : Obj) : CrI w W0 q g6 g3 gv n cv vk ks L ws pre (W.alloc o) := by
  obtain ⟨h1, h2, h3, h4, h5, h6⟩ := h
  have hb := below_alloc (Below.refl _ W) o
  exact ⟨blk_below h1 hb, blk_below h2 hb, blk_below h3 hb, Kd.R_below h4 hb, Nat.le_trans h5 hb.size, below_step h6 hb⟩
end
section
variable {B : Nat} {w : World} {p : Nat} {L : List (List Int)} {ws : List (Int × List Int)} {st : Bool} {lf : Int}
attribute [local go_sem] Oper.semAt_some max2_int min2_int max_two min_two
set_option maxRecDepth 100000 in
set_option maxHeartbeats 8000000 in
theorem Crash_calls (h : Dk B w p L ws st lf) (hL : L.length ≤ 4096) (hL0 : 0 < L.length) (hlen : ws.length ≤ 1000) (hws : ∀ x ∈ ws, 0 ≤ x.1 ∧ x.1 < L.length ∧ x.2.length = 64) {Ak : Option Addr} {nk ck : Nat} {ks : List Int} (hk : Kd.C (Kd.int .i64) w Ak nk ks) (hkn : ks.length = nk) (hkb : nk ≤ 1000000000000000) :
    Calls Tryd.prog 11 #[.pointer (some ⟨p, 0, none⟩), .slice Ak nk ck] w (GivesDk (crashL ks L ws (List.finRange ws.length)) w) := by
  have hb := below_alloc (Below.refl _ w) (.cells #[.slice Ak nk ck] 23)
  have CS := Aside0.mk (Sectors_calls (h.below hb) hL)
  obtain ⟨hb0, vl, vw, stp, h1, h2, h3⟩ := h
  obtain ⟨A, c, rfl⟩ := Kd.R_slice h3
  obtain ⟨al, cl, rfl⟩ := Kd.R_slice1 h2 hL0
  have HB := Aside0.mk hb
  have HWS := Aside0.mk hws
  have HK := Aside0.mk hk
  have HKN := Aside0.mk hkn
  have hC2 := (Kd.R_reads' h2).2.2
  have H3 := Aside0.mk h3
  have HC2 := Aside0.mk hC2
  obtain ⟨n, hn⟩ : ∃ n, L.length = n := ⟨_, rfl⟩
  have H1 := Aside0.mk h1
  rw [hn] at CS H1 hL hL0 HC2
  have HN := Aside0.mk hn
  have hn2 : ((n : Int) == 0) = false := by simp; omega
  clear h1 h2 h3 hws hk hkn hC2 hn hb
  refine (callsIn_wide (n := 5)).1 ?_
  refine callsIn_of_wp_marks Tryd.func11 rfl trivial ?_ rfl
  simp only [Tryd.ntmps11, List.size_toArray, List.length_cons, List.length_nil, Nat.reduceAdd, Nat.reduceSub, Array.replicate_succ, Array.replicate_zero, List.push_toArray, List.append_toArray, List.nil_append, List.cons_append]
  gi_upto_region 3 with ((try refine ⟨trivial, ?_⟩); gi_at_call 15; refine (callsIn_wide.2 CS.out).mono ?_; rintro e w' ⟨rfl, rfl⟩)
  have K3 := Aside0.mk (World.alloc_heap_new w (.cells #[.slice Ak nk ck] 23))
  have K1 := Aside0.mk (blk_below H1.out HB.out)
  have KC := Aside0.mk (Kd.C_below HC2.out HB.out)
  obtain ⟨W1, hW1⟩ : ∃ W1, w.alloc (.cells #[.slice Ak nk ck] 23) = W1 := ⟨_, rfl⟩
  rw [hW1] at K3 K1 KC HB ⊢
  clear hW1
  obtain ⟨g3, hg3⟩ : ∃ g, w.heap.size = g := ⟨_, rfl⟩
  rw [show Value.pointer (some ⟨w.heap.size, 0, none⟩) = Value.pointer (some ⟨g3, 0, none⟩) from by rw [hg3]]
  rw [hg3] at K3
  have HG3 := Aside0.mk hg3
  clear hg3
  refine list_in (by rfl) ?_
  refine Kd.R_lit kS (w0 := w) w.heap.size 95 rfl (N := 12) rfl (xs := ([] : List (List Int))) (inner := []) (ok := fun _ => True) (okp := fun _ => True) ?hr (Reps.none _ _) (fun _ hk => hk) trivial HB.out HB.out.size (by simp) ?_
  case hr => first | (go_simp; done) | (go_simp; rfl)
  intro v1 w1 ho1 hb1 hg1 hn1
  obtain ⟨A1, c1, rfl⟩ := Kd.R_slice ho1
  have HO1 := Aside0.mk ho1
  have HB1 := Aside0.mk hb1
  have hb11 : Below W1.heap.size W1 w1 := ⟨hg1.os, hg1.tape, hg1.output, hg1.size, fun k hk => hg1.block k hk (by simp)⟩
  have K1b := Aside0.mk (blk_below K1.out hb11)
  have K3b := Aside0.mk (blk_below K3.out hb11)
  have KCb := Aside0.mk (Kd.C_below KC.out hb11)
  have p0 : w1.cell? ⟨p, 0, none⟩ = some (.slice (some al) n cl) := blk_cell K1b.out 0
  clear ho1 hb1 hg1 hn1 hb11
  refine lst_norm (a' := ?_) ?_ ?_
  rotate_left
  · simp only [Act.put, List.setIfInBounds_toArray, List.set_cons_zero, List.set_cons_succ, i64_w, i32_w]
    rfl
  refine lst_ (v := ?_) (w' := ?_) (a' := ?_) rfl rfl ?_ ?_ ?_
  rotate_left 3
  · go_simp
    exact ⟨by with_reducible rfl, by with_reducible rfl⟩
  · simp only [Act.put, List.setIfInBounds_toArray, List.set_cons_zero, List.set_cons_succ, i64_w, i32_w]
    rfl
  refine lst_ (v := ?_) (w' := ?_) (a' := ?_) rfl rfl ?_ ?_ ?_
  rotate_left 3
  · go_simp
    exact ⟨by with_reducible rfl, by with_reducible rfl⟩
  · simp only [Act.put, List.setIfInBounds_toArray, List.set_cons_zero, List.set_cons_succ, i64_w, i32_w]
    rfl
  refine lst_ (v := ?_) (w' := ?_) (a' := ?_) rfl rfl ?_ ?_ ?_
  rotate_left 3
  · go_simp
    exact ⟨by with_reducible rfl, by with_reducible rfl⟩
  · simp only [Act.put, List.setIfInBounds_toArray, List.set_cons_zero, List.set_cons_succ, i64_w, i32_w]
    rfl
  refine lst_ (v := ?_) (w' := ?_) (a' := ?_) rfl rfl ?_ ?_ ?_
  rotate_left 3
  · go_simp
    exact ⟨by with_reducible rfl, by with_reducible rfl⟩
  · simp only [Act.put, List.setIfInBounds_toArray, List.set_cons_zero, List.set_cons_succ, i64_w, i32_w]
    rfl
  refine Kd.R_append_rows kS (w0 := w) (Rr := kS.K w1) w.heap.size rfl (.tmp 12) (.tmp 16) 55 95 (.agg (List.replicate 64 (Value.int .u8 0)).toArray) 64 rfl u55 info95 rfl (by decide) (by decide) (.slice A1 0 c1) [] L _ _ _ (fun _ => True) (fun _ => False) rfl rfl HO1.out KCb.out (fun x cs hh => by have := Kd.arr_cells hh; exact kS_M.2 this) (fun _ h => h.elim) (fun _ _ => trivial) HB1.out HB1.out.size (by simp; omega) ?_
  intro v2 w2 ho2 hb2 hg2 hn2
  rw [List.nil_append] at ho2
  obtain ⟨A2, c2, rfl⟩ := Kd.R_slice1 ho2 (by rw [HN.out]; omega)
  obtain ⟨gv, rfl⟩ := Kd.R_head ho2
  rw [HN.out] at ho2 ⊢
  have K3c := Aside0.mk (blk_grown K3b.out hg2 (Kd.R_ne HO1.out K3b.out (by decide)))
  have HO2 := Aside0.mk ho2
  have HB2 := Aside0.mk hb2
  clear ho2 hb2 hg2 hn2 p0
  refine lst_norm (a' := ?_) ?_ ?_
  rotate_left
  · simp only [Act.put, List.setIfInBounds_toArray, List.set_cons_zero, List.set_cons_succ, i64_w, i32_w]
    rfl
  refine lst_ (v := ?_) (w' := ?_) (a' := ?_) rfl rfl ?_ ?_ ?_
  rotate_left 3
  · go_simp
    exact ⟨by with_reducible rfl, by with_reducible rfl⟩
  · simp only [Act.put, List.setIfInBounds_toArray, List.set_cons_zero, List.set_cons_succ, i64_w, i32_w]
    rfl
  refine lst_ (v := ?_) (w' := ?_) (a' := ?_) rfl rfl ?_ ?_ ?_
  rotate_left 3
  · go_simp
    exact ⟨by with_reducible rfl, by with_reducible rfl⟩
  · simp only [Act.put, List.setIfInBounds_toArray, List.set_cons_zero, List.set_cons_succ, i64_w, i32_w]
    rfl
  have kq := World.alloc_heap_new w2 (.cells #[.slice (some ⟨gv, 0, none⟩) n c2, .slice none 0 0, .int .i64 0, .bool false, .int .i64 0] 58)
  have hbq := below_alloc (Below.refl _ w2) (.cells #[.slice (some ⟨gv, 0, none⟩) n c2, .slice none 0 0, .int .i64 0, .bool false, .int .i64 0] 58)
  have K3d := Aside0.mk (blk_below K3c.out hbq)
  have HO3 := Aside0.mk (Kd.R_below HO2.out hbq)
  have HB3 := Aside0.mk (below_step HB2.out hbq)
  have KQ := Aside0.mk kq
  have hqB := HB2.out.size
  clear kq hbq
  generalize w2.alloc (.cells #[.slice (some ⟨gv, 0, none⟩) n c2, .slice none 0 0, .int .i64 0, .bool false, .int .i64 0] 58) = w3 at K3d HO3 HB3 KQ ⊢
  generalize w2.heap.size = q at KQ hqB ⊢
  refine lst_ (a' := ?_) rfl rfl (exec_alloc rfl info24) ?_ ?_
  rotate_left
  · simp only [Act.put, List.setIfInBounds_toArray, List.set_cons_zero, List.set_cons_succ, i64_w, i32_w]
    rfl
  skip
  have k6 := World.alloc_heap_new w3 (.cells (Value.pointer none).cells 24)
  refine lst_store rfl rfl rfl rfl rfl (run_store_run 24 (.pointer (some ⟨q, 0, none⟩)) [.pointer (some ⟨q, 0, none⟩)] k6 rfl size24 (by simp [Value.cells]) (fun v hv => by rw [List.mem_singleton.1 hv]; rfl)) ?_
  refine ⟨rfl, ?_⟩
  have hb6 := below_alloc (Below.refl _ w3) (.cells (Value.pointer none).cells 24)
  have e6 : ((w3.alloc (.cells (Value.pointer none).cells 24)).setCells w3.heap.size 0 [.pointer (some ⟨q, 0, none⟩)]) = ((w3.alloc (.cells (Value.pointer none).cells 24)).setCell ⟨w3.heap.size, 0, none⟩ (.pointer (some ⟨q, 0, none⟩))) := rfl
  have hb6' : Below w3.heap.size w3 ((w3.alloc (.cells (Value.pointer none).cells 24)).setCell ⟨w3.heap.size, 0, none⟩ (.pointer (some ⟨q, 0, none⟩))) := hb6.setCell (p := ⟨w3.heap.size, 0, none⟩) (Nat.le_refl _) _
  have k6' := blk_put (cs := #[.pointer none]) k6 0 (.pointer (some ⟨q, 0, none⟩)) rfl
  rw [e6]
  have HB4 := Aside0.mk (below_step HB3.out hb6')
  have K34 := Aside0.mk (blk_below K3d.out hb6')
  have KQ4 := Aside0.mk (blk_below KQ.out hb6')
  have HO4 := Aside0.mk (Kd.R_below HO3.out hb6')
  have K64 := Aside0.mk k6'
  clear hb6 e6 hb6' k6' k6
  generalize (w3.alloc (.cells (Value.pointer none).cells 24)).setCell ⟨w3.heap.size, 0, none⟩ (.pointer (some ⟨q, 0, none⟩)) = W2 at HB4 K34 KQ4 HO4 K64 ⊢
  generalize w3.heap.size = g6 at K64 ⊢
  gi_wp2_with ((try refine ⟨trivial, ?_⟩); gi_at_call 39; refine (all_in _ _ _).mono ?_; rintro e w' ⟨rfl, rfl⟩)
  have hbz := below_alloc (Below.refl _ W2) (.cells #[.pointer (some ⟨p, 0, none⟩)] 24)
  have kz := World.alloc_heap_new W2 (.cells #[.pointer (some ⟨p, 0, none⟩)] 24)
  have Z3 := blk_below K34.out hbz
  have ZQ := blk_below KQ4.out hbz
  have Z6 := blk_below K64.out hbz
  have ZO := Kd.R_below HO4.out hbz
  have HBZ := Aside0.mk (below_step HB4.out hbz)
  generalize W2.alloc (.cells #[.pointer (some ⟨p, 0, none⟩)] 24) = W3 at kz Z3 ZQ Z6 ZO HBZ ⊢
  generalize W2.heap.size = gz at kz ⊢
  have hcz := blk_cell kz 0
  have hc1 := blk_cell (blk_below H1.out HBZ.out) 1
  have hw3 := Kd.R_below H3.out HBZ.out
  have hAlt0 := R_alt H3.out
  have hAlt : ∀ k, A.map (·.block) = some k → k < W3.heap.size := fun k hk => Nat.lt_of_lt_of_le (hAlt0 k hk) HBZ.out.size
  have hvB : w.heap.size ≤ gv := (R_row ZO gv rfl).1
  have hI0 : CrI w W3 q g6 g3 gv n c2 (.slice Ak nk ck) ks L ws [] W3 := ⟨Z6, ZQ, Z3, ZO, Nat.le_refl _, HBZ.out⟩
  have hwW3 := HBZ.out.size
  refine wpIn_rangeFunc_ownH rfl (by omega) (gf := 69) (lb := #[.pointer (some ⟨gz, 0, none⟩)]) rfl trivial (enters_of Tryd.func69 (by kernel_rfl) rfl)
    (all_stops _ gz p B c A ws W3 hlen hcz hc1 hw3) (fun {_ _ _} h k => h.trans k) (kpS_b hAlt) (Below.refl _ _) (fun _ => rfl)
    (CrI w W3 q g6 g3 gv n c2 (.slice Ak nk ck) ks L ws) (fun _ _ _ => False) (CrI.own hwW3) (fun _ _ _ _ _ h _ _ => h) hI0
    (fun x a' W => ∃ g8, a' = { tmps := #[Value.pointer (some ⟨p, 0, none⟩), Value.slice Ak nk ck, undef, Value.pointer (some ⟨g3, 0, none⟩), Value.pointer none, Value.int .i64 0, Value.pointer (some ⟨g6, 0, none⟩), Value.int .i64 (x.1 : Int), Value.pointer (some ⟨g8, 0, none⟩), Value.pointer (some ⟨p, 0, none⟩), Value.int .i64 (n : Int), Value.bool false, Value.slice A1 ([] : List (List Int)).length c1, Value.pointer (some ⟨p, 0, none⟩), Value.pointer (some ⟨p, 0, none⟩), Value.pointer (some ⟨p, 0, none⟩), Value.slice (some al) n cl, Value.slice (some ⟨gv, 0, none⟩) n c2, Value.agg #[Value.slice (some ⟨gv, 0, none⟩) n c2, Value.slice none 0 0, Value.int .i64 0, Value.bool false, Value.int .i64 0], Value.pointer (some ⟨q, 0, none⟩), Value.pointer (some ⟨p, 0, none⟩), Value.func (Fn.func 69) #[] #[Value.pointer (some ⟨gz, 0, none⟩)], Value.int .i64 (x.1 : Int), Value.agg (wC ws[x.1]).toArray, undef, undef, undef, undef, undef, undef, undef, undef, undef, undef, undef, undef, undef, undef, undef, undef, undef, undef, undef, undef, undef, undef], defers := [] } ∧ W3.heap.size ≤ g8 ∧ W.heap[g8]? = some (.cells (wC ws[x.1]).toArray 97 (0, 0)))
    ?hAx ?assign ?body ?done ?stop
  case hAx =>
    rintro x a' _ W W' row ⟨g8, h1, h2, h3⟩ hg hr
    exact ⟨g8, h1, h2, blk_noncells h3 hg hr⟩
  case stop =>
    rintro D cd pre W _ _ h _
    exact h.elim
  case assign =>
    intro lp pre x W K hI hK
    have h64 := (HWS.out ws[x.1] (List.getElem_mem _)).2.2
    dsimp only [encW]
    gi_upto_region 6 with (fail)
    refine list_in (by rfl) ?_
    refine lst_ (a' := ?_) rfl rfl (exec_alloc rfl info97) ?_ ?_
    rotate_left
    · simp only [Act.put, List.setIfInBounds_toArray, List.set_cons_zero, List.set_cons_succ, i64_w, i32_w]
      rfl
    skip
    refine lst_store rfl rfl rfl rfl rfl (store97 (wC_len h64) (wC_one _) _) ?_
    refine ⟨rfl, ?_⟩
    exact hK _ _ ((KeepsOthers.alloc W _).from _) (fun k hk => Below.heap_alloc W _ k (by have := hAlt k hk; have := hI.sz; omega)) (hI.alloc _) ⟨W.heap.size, rfl, hI.sz, World.alloc_heap_new W _⟩
  case body =>
    rintro lp pre x a' W hlp hloop hI ⟨g8, rfl, hg8, hx8⟩ hlt
    dsimp only
    have hxw := HWS.out ws[x.1] (List.getElem_mem _)
    have hcr := crashL_snoc ks L ws pre x
    have hfm : (crashL ks L ws pre).length = n := by rw [crashL_len]; exact HN.out
    obtain ⟨i1, i2, i3, i4, i5, i6⟩ := hI
    rw [HN.out] at hxw
    have hck := Kd.C_below HK.out i6
    generalize crashL ks L ws pre = Lp at hcr hfm i4
    have HPO := Aside0.mk (fun W' h1 h2 h3 (h4 : Kd.R kS 95 W' w.heap.size (fun _ => True) (.slice (some ⟨gv, 0, none⟩) n c2) (tear ks Lp x.1 ws[x.1])) h5 h6 => (⟨h1, h2, h3, by rw [hcr]; exact h4, h5, h6⟩ : CrI w W3 q g6 g3 gv n c2 (.slice Ak nk ck) ks L ws (pre ++ [x]) W'))
    generalize CrI w W3 q g6 g3 gv n c2 (.slice Ak nk ck) ks L ws = FI at HPO ⊢
    generalize ws[x.1] = y at hx8 hxw HPO ⊢
    obtain ⟨yi, yb⟩ := y
    dsimp only at hxw HPO
    obtain ⟨mi, rfl⟩ : ∃ mi : Nat, yi = (mi : Int) := ⟨yi.toNat, by omega⟩
    have hml : mi < n := by omega
    have hmli : (mi : Int) < (n : Int) := by omega
    obtain ⟨xi, hxi⟩ : ∃ xi, x.1 = xi := ⟨_, rfl⟩
    rw [hxi] at HPO ⊢
    have hxi1 : xi ≤ 1000 := by have := x.2; omega
    clear hcr hxi
    have HB6 := Aside0.mk i1
    have HBQ := Aside0.mk i2
    have HB3 := Aside0.mk i3
    have HRL := Aside0.mk i4
    have HSZ := Aside0.mk i5
    have HBW := Aside0.mk i6
    have HX8 := Aside0.mk hx8
    have c3 := blk_cell i3 0
    clear i1 i2 i3 i4 i5 i6 hx8
    by_cases hj : xi < nk
    · have hjj : (xi : Int) < (nk : Int) := by omega
      obtain ⟨kv, hkv⟩ : ∃ kv, ks.getD xi 0 = kv := ⟨_, rfl⟩
      obtain ⟨ak, hAk, hcell⟩ := Kd.at_int hck (xi : Int) (by omega) hjj
      subst hAk
      rw [Int.toNat_natCast] at hcell
      have hrd : rd ks (xi : Int) = kv := by unfold rd; rw [Int.toNat_natCast]; exact hkv
      rw [hrd] at hcell
      obtain ⟨qn, hqn⟩ : ∃ qn, keepN kv = qn := ⟨_, rfl⟩
      have hq64 : qn ≤ 64 := by rw [← hqn]; exact keepN_le kv
      have hmn : (if 64 < kv then (64 : Int) else kv) = min kv 64 := by split <;> omega
      have hmx : (if 0 < min kv 64 then min kv 64 else 0) = (qn : Int) := by rw [← hqn]; unfold keepN; split <;> omega
      have hte : tear ks Lp xi ((mi : Int), yb) = Lp.set mi (yb.take qn ++ (Lp.getD mi []).drop qn) := by
        unfold tear
        rw [if_pos (by rw [HKN.out]; exact hj), hkv, hqn, Int.toNat_natCast]
      rw [hte] at HPO
      obtain ⟨X, hX⟩ : ∃ X, yb.map (Value.int .u8) = X := ⟨_, rfl⟩
      have hXl : X.length = 64 := by rw [← hX, List.length_map]; exact hxw.2.2
      have hX1 : ∀ v ∈ X, v.oneCell' = true := by rw [← hX]; exact one_nums yb
      have hwc : wC ((mi : Int), yb) = Value.int .i64 (mi : Int) :: X := by unfold wC; rw [hX]
      rw [hwc] at HX8 ⊢
      obtain ⟨mn, hmne⟩ : ∃ mn, min kv 64 = mn := ⟨_, rfl⟩
      rw [hmne] at hmn hmx
      obtain ⟨cur, hcur, hcurl⟩ := R_cur HRL.out
      have hxl := hxw.2.2
      have hfit : mi * 64 + 64 ≤ cur.length := by
        have h8 : mi * 64 + 64 ≤ n * 64 := by rw [← Nat.succ_mul]; exact Nat.mul_le_mul_right _ (by omega)
        rw [hfm] at hcurl
        omega
      have hq0 : (0 : Int) ≤ (qn : Int) := by omega
      have hq1 : (qn : Int) ≤ 64 := by omega
      have HX := Aside0.mk hX
      have HX1 := Aside0.mk hX1
      have HCUR := Aside0.mk hcur
      clear hkv hrd hqn hte hwc hmne hX hX1 hcur hck hxw
      refine wpIn_block ?_
      gi_upto_region 8 with (fail)
      refine start_in (m := 17) (S := fun w' => w'.cell? ⟨g6, 0, none⟩ = some (.pointer (some ⟨q, 0, none⟩)) ∧ w'.cell? ⟨q, 0, none⟩ = some (.slice (some ⟨gv, 0, none⟩) n c2) ∧ w'.cell? ⟨g8, 0, none⟩ = some (.int .i64 (mi : Int)) ∧ w'.cell? ⟨g3, 0, none⟩ = some (.slice (some ak) nk ck) ∧ w'.cell? (ak.add xi) = some (.int .i64 kv)) (ds := [16]) #[false, false, false, false, false, false, false, false, false, false, false, false, false, false, false, false, false] (by kernel_rfl) (by kernel_rfl) rfl rfl ⟨by rw [World.cell?_drew]; exact blk_cell HB6.out 0, by rw [World.cell?_drew]; exact blk_cell HBQ.out 0, by rw [World.cell?_drew]; exact blk_cell HX8.out 0, by rw [World.cell?_drew]; exact blk_cell HB3.out 0, by rw [World.cell?_drew]; exact hcell⟩ (fun hHeld => ?_)
      refine take_ (i := 0) (N := some 28) (v := ?_) (a' := ?_) #[true, false, false, false, false, false, false, false, false, false, false, false, false, false, false, false, false] rfl rfl (by kernel_rfl) (fun _ _ _ h => (by cases h.1)) (Or.inl ⟨by rfl, ?_⟩) hHeld ?_ ?_
      rotate_left
      · rintro w' ⟨c1, _, _, _, _⟩
        go_simp
        with_reducible rfl
      rotate_left
      · simp only [Act.put, List.setIfInBounds_toArray, List.set_cons_zero, List.set_cons_succ, i64_w, i32_w]
        rfl
      refine pure_ (i := 1) (N := some 29) (v := ?_) (a' := ?_) #[true, true, false, false, false, false, false, false, false, false, false, false, false, false, false, false, false] rfl rfl (by kernel_rfl) (fun _ _ _ h => (by cases h.1)) (Or.inl ⟨by rfl, ?_⟩) ?_ ?_
      rotate_left
      · intro w'
        go_simp
        with_reducible rfl
      rotate_left
      · simp only [Act.put, List.setIfInBounds_toArray, List.set_cons_zero, List.set_cons_succ, i64_w, i32_w]
        rfl
      refine pure_ (i := 2) (N := some 30) (v := ?_) (a' := ?_) #[true, true, true, false, false, false, false, false, false, false, false, false, false, false, false, false, false] rfl rfl (by kernel_rfl) (fun _ _ _ h => (by cases h.1)) (Or.inl ⟨by rfl, ?_⟩) ?_ ?_
      rotate_left
      · intro w'
        go_simp
        with_reducible rfl
      rotate_left
      · simp only [Act.put, List.setIfInBounds_toArray, List.set_cons_zero, List.set_cons_succ, i64_w, i32_w]
        rfl
      refine take_ (i := 3) (N := some 31) (v := ?_) (a' := ?_) #[true, true, true, true, false, false, false, false, false, false, false, false, false, false, false, false, false] rfl rfl (by kernel_rfl) (fun _ _ _ h => (by cases h.1)) (Or.inl ⟨by rfl, ?_⟩) hHeld ?_ ?_
      rotate_left
      · rintro w' ⟨_, c1, _, _, _⟩
        go_simp
        with_reducible rfl
      rotate_left
      · simp only [Act.put, List.setIfInBounds_toArray, List.set_cons_zero, List.set_cons_succ, i64_w, i32_w]
        rfl
      refine pure_ (i := 4) (N := some 32) (v := ?_) (a' := ?_) #[true, true, true, true, true, false, false, false, false, false, false, false, false, false, false, false, false] rfl rfl (by kernel_rfl) (fun _ _ _ h => (by cases h.1)) (Or.inl ⟨by rfl, ?_⟩) ?_ ?_
      rotate_left
      · intro w'
        go_simp
        with_reducible rfl
      rotate_left
      · simp only [Act.put, List.setIfInBounds_toArray, List.set_cons_zero, List.set_cons_succ, i64_w, i32_w]
        rfl
      refine take_ (i := 5) (N := some 33) (v := ?_) (a' := ?_) #[true, true, true, true, true, true, false, false, false, false, false, false, false, false, false, false, false] rfl rfl (by kernel_rfl) (fun _ _ _ h => (by cases h.1)) (Or.inl ⟨by rfl, ?_⟩) hHeld ?_ ?_
      rotate_left
      · rintro w' ⟨_, _, c1, _, _⟩
        go_simp
        with_reducible rfl
      rotate_left
      · simp only [Act.put, List.setIfInBounds_toArray, List.set_cons_zero, List.set_cons_succ, i64_w, i32_w]
        rfl
      refine pure_ (i := 6) (N := some 34) (v := ?_) (a' := ?_) #[true, true, true, true, true, true, true, false, false, false, false, false, false, false, false, false, false] rfl rfl (by kernel_rfl) (fun _ _ _ h => (by cases h.1)) (Or.inl ⟨by rfl, ?_⟩) ?_ ?_
      rotate_left
      · intro w'
        go_simp
        with_reducible rfl
      rotate_left
      · simp only [Act.put, List.setIfInBounds_toArray, List.set_cons_zero, List.set_cons_succ, i64_w, i32_w]
        rfl
      refine pure_ (i := 7) (N := some 35) (v := ?_) (a' := ?_) #[true, true, true, true, true, true, true, true, false, false, false, false, false, false, false, false, false] rfl rfl (by kernel_rfl) (fun _ _ _ h => (by cases h.1)) (Or.inl ⟨by rfl, ?_⟩) ?_ ?_
      rotate_left
      · intro w'
        go_simp
        with_reducible rfl
      rotate_left
      · simp only [Act.put, List.setIfInBounds_toArray, List.set_cons_zero, List.set_cons_succ, i64_w, i32_w]
        rfl
      refine pure_ (i := 8) (N := some 36) (v := ?_) (a' := ?_) #[true, true, true, true, true, true, true, true, true, false, false, false, false, false, false, false, false] rfl rfl (by kernel_rfl) (fun _ _ _ h => (by cases h.1)) (Or.inl ⟨by rfl, ?_⟩) ?_ ?_
      rotate_left
      · intro w'
        go_simp
        with_reducible rfl
      rotate_left
      · simp only [Act.put, List.setIfInBounds_toArray, List.set_cons_zero, List.set_cons_succ, i64_w, i32_w]
        rfl
      refine take_ (i := 9) (N := some 37) (v := ?_) (a' := ?_) #[true, true, true, true, true, true, true, true, true, true, false, false, false, false, false, false, false] rfl rfl (by kernel_rfl) (fun _ _ _ h => (by cases h.1)) (Or.inl ⟨by rfl, ?_⟩) hHeld ?_ ?_
      rotate_left
      · rintro w' ⟨_, _, _, c1, _⟩
        go_simp
        with_reducible rfl
      rotate_left
      · simp only [Act.put, List.setIfInBounds_toArray, List.set_cons_zero, List.set_cons_succ, i64_w, i32_w]
        rfl
      refine pure_ (i := 10) (N := some 38) (v := ?_) (a' := ?_) #[true, true, true, true, true, true, true, true, true, true, true, false, false, false, false, false, false] rfl rfl (by kernel_rfl) (fun _ _ _ h => (by cases h.1)) (Or.inl ⟨by rfl, ?_⟩) ?_ ?_
      rotate_left
      · intro w'
        go_simp
        with_reducible rfl
      rotate_left
      · simp only [Act.put, List.setIfInBounds_toArray, List.set_cons_zero, List.set_cons_succ, i64_w, i32_w]
        rfl
      refine pure_ (i := 11) (N := some 39) (v := ?_) (a' := ?_) #[true, true, true, true, true, true, true, true, true, true, true, true, false, false, false, false, false] rfl rfl (by kernel_rfl) (fun _ _ _ h => (by cases h.1)) (Or.inl ⟨by rfl, ?_⟩) ?_ ?_
      rotate_left
      · intro w'
        go_simp
        with_reducible rfl
      rotate_left
      · simp only [Act.put, List.setIfInBounds_toArray, List.set_cons_zero, List.set_cons_succ, i64_w, i32_w]
        rfl
      refine take_ (i := 12) (N := some 40) (v := ?_) (a' := ?_) #[true, true, true, true, true, true, true, true, true, true, true, true, true, false, false, false, false] rfl rfl (by kernel_rfl) (fun _ _ _ h => (by cases h.1)) (Or.inl ⟨by rfl, ?_⟩) hHeld ?_ ?_
      rotate_left
      · rintro w' ⟨_, _, _, _, c1⟩
        go_simp
        with_reducible rfl
      rotate_left
      · simp only [Act.put, List.setIfInBounds_toArray, List.set_cons_zero, List.set_cons_succ, i64_w, i32_w]
        rfl
      refine pure_ (i := 13) (N := some 41) (v := ?_) (a' := ?_) #[true, true, true, true, true, true, true, true, true, true, true, true, true, true, false, false, false] rfl rfl (by kernel_rfl) (fun _ _ _ h => (by cases h.1)) (Or.inl ⟨by rfl, ?_⟩) ?_ ?_
      rotate_left
      · intro w'
        go_simp
        with_reducible rfl
      rotate_left
      · simp only [Act.put, List.setIfInBounds_toArray, List.set_cons_zero, List.set_cons_succ, i64_w, i32_w]
        rfl
      refine pure_ (i := 14) (N := some 42) (v := ?_) (a' := ?_) #[true, true, true, true, true, true, true, true, true, true, true, true, true, true, true, false, false] rfl rfl (by kernel_rfl) (fun _ _ _ h => (by cases h.1)) (Or.inl ⟨by rfl, ?_⟩) ?_ ?_
      rotate_left
      · intro w'
        go_simp
        with_reducible rfl
      rotate_left
      · simp only [Act.put, List.setIfInBounds_toArray, List.set_cons_zero, List.set_cons_succ, i64_w, i32_w]
        rfl
      refine pure_ (i := 15) (N := some 43) (v := ?_) (a' := ?_) #[true, true, true, true, true, true, true, true, true, true, true, true, true, true, true, true, false] rfl rfl (by kernel_rfl) (fun _ _ _ h => (by cases h.1)) (Or.inl ⟨by rfl, ?_⟩) ?_ ?_
      rotate_left
      · intro w'
        go_simp
        with_reducible rfl
      rotate_left
      · simp only [Act.put, List.setIfInBounds_toArray, List.set_cons_zero, List.set_cons_succ, i64_w, i32_w]
        rfl
      refine last_ (i := 16) (N := some 44) #[true, true, true, true, true, true, true, true, true, true, true, true, true, true, true, true, true] rfl rfl (by kernel_rfl) (by decide) (fun K hK => ?_)
      refine step_copy_g rfl (.tmp 35) (.tmp 43) 40 40 rfl 5 Tryd.underlying40 size5 (some ⟨gv, mi * 64, none⟩) (some ⟨g8, 1, none⟩) 64 64 qn 64 rfl rfl gv (mi * 64) cur 95 HCUR.out (X.take qn) (by rw [List.length_take, hXl]; try rfl) (fun _ => ⟨rfl, _, rfl, fun j v hj => ?_⟩) (by rw [List.length_take, hXl]; omega) (fun v hv => HX1.out v (List.mem_of_mem_take hv)) ?_
      · rw [Addr.add_mid, World.cell?_drew, blk_cell HX8.out (1 + j), List.getElem?_toArray, Nat.add_comm 1 j, List.getElem?_cons_succ]
        rw [List.getElem?_take] at hj
        split at hj
        · exact hj
        · cases hj
      intro w9 hc9 hg9
      have HC9 := Aside0.mk hc9
      have HG9 := Aside0.mk hg9
      clear hc9 hg9
      refine hK.out _ _ ?_
      clear hK K
      refine norm_ (a' := ?_) ?_ ?_
      rotate_left
      · show Act.put _ (some 44) _ = _
        simp only [Act.put, List.setIfInBounds_toArray, List.set_cons_zero, List.set_cons_succ, i64_w, i32_w]
        rfl
      refine done_ (by kernel_rfl) ?_
      have hgr : W.grownBy w9 (some gv) := ⟨HG9.out.os, HG9.out.tape, HG9.out.output, HG9.out.size, HG9.out.block⟩
      have hKO : KeepsOthers W w9 := KeepsOthers.of_grownBy hgr (fun j o e ho => by
        injection e with e
        subst e
        rw [HCUR.out] at ho
        injection ho with ho
        subst ho
        rfl)
      refine ⟨rfl, hKO.from _, fun k hk => ?_, HPO.out w9 ?_ ?_ ?_ ?_ ?_ ?_⟩
      · refine hgr.block k (Nat.lt_of_lt_of_le (hAlt k hk) HSZ.out) (fun he => ?_)
        injection he with he
        have := hAlt0 k hk
        omega
      · exact blk_grown HB6.out hgr (Kd.R_ne HRL.out HB6.out (by decide))
      · exact blk_grown HBQ.out hgr (Kd.R_ne HRL.out HBQ.out (by decide))
      · exact blk_grown HB3.out hgr (Kd.R_ne HRL.out HB3.out (by decide))
      · refine sector_tear HRL.out (by omega) hxl hq64 HCUR.out ?_
        rw [HX.out]
        exact HC9.out
      · exact Nat.le_trans HSZ.out hgr.size
      · exact HBW.out.grown hgr HBW.out.size (fun k e => by injection e with e; omega)
    · have hjj : ¬ (xi : Int) < (nk : Int) := by omega
      have hte : tear ks Lp xi ((mi : Int), yb) = Lp := by
        unfold tear
        rw [if_neg (by rw [HKN.out]; exact hj)]
      rw [hte] at HPO
      clear hte hck hxw
      gi_wp2
      exact ⟨KeepsFrom.refl _ _, KpS.refl _ _, HPO.out W HB6.out HBQ.out HB3.out HRL.out HSZ.out HBW.out⟩
  case done =>
    rintro D ys W hD rfl hI hK
    obtain ⟨i1, i2, i3, i4, i5, i6⟩ := hI
    have c6 := blk_cell i1 0
    have H2 := Aside0.mk i2
    have H4 := Aside0.mk i4
    have H6 := Aside0.mk i6
    have HKD := Aside0.mk hK
    clear i1 i2 i3 i4 i5 i6 hK
    gi_wp2
    have hgq := grownBy_putObj' W D (.deferred none)
    have hrq : ∀ r, some D = some r → w.heap.size ≤ r ∧ ∃ o : Obj, W.heap[r]? = some o ∧ o.isCells = false := fun r e => by
      cases e
      exact ⟨Nat.le_trans hwW3 hD, _, HKD.out, rfl⟩
    refine ⟨by simp, .inl ⟨_, _, rfl, run_takeDeferred HKD.out, ?_⟩⟩
    refine ⟨_, results_tmp2 rfl _ _ _, q, rfl, ⟨?_, _, _, _, blk_noncells H2.out hgq hrq, R_noncells H4.out hgq hrq, Kd.R_nil _ _ _ _ _⟩, ownFrom_below (β := Unit) (Nat.le_refl _) (Nat.le_refl _) () _ _ _ H6.out hgq hrq⟩
    exact hqB

end
end Go.Proofs.YtenjldfflkinkaaDoor.Sav

namespace Go.Proofs.YtenjldfflkinkaaDoor.Sav
set_option linter.unusedVariables false
set_option linter.unusedSimpArgs false
open Go.RowKit Go.Proofs.YtenjldfflkinkaaDoor.F Go.Proofs.YtenjldfflkinkaaDoorW.PrintWords Go.Proofs.YtenjldfflkinkaaDoorW.PrintLast Go.Proofs.YtenjldfflkinkaaDoorW.PrintMore
/-- what is known of a slot -/
structure Slt where
  s : Bool
  e : Int
  b : List Int
/-- two slots lie at q, over the disk at p -/
structure SlAt (B : Nat) (W : World) (q p : Nat) (x0 x1 : Slt) : Prop where
  hB : B ≤ q
  blk : ∃ v0 v1, W.heap[q]? = some (.cells #[.pointer (some ⟨p, 0, none⟩), .int .i64 0, .int .i64 60, .bool x0.s, .int .i64 x0.e, v0, .bool x1.s, .int .i64 x1.e, v1] 64 (0, 0)) ∧ Kd.R (Kd.int .u8) 5 W B (fun _ => True) v0 x0.b ∧ Kd.R (Kd.int .u8) 5 W B (fun _ => True) v1 x1.b
theorem SlAt.below {B : Nat} {W W' : World} {q p : Nat} {x0 x1 : Slt} (h : SlAt B W q p x0 x1) (hb : Below W.heap.size W W') : SlAt B W' q p x0 x1 := by
  obtain ⟨h0, v0, v1, h1, h2, h3⟩ := h
  exact ⟨h0, v0, v1, blk_below h1 hb, Kd.R_below h2 hb, Kd.R_below h3 hb⟩
theorem SlAt.mv {B B' : Nat} {W W' : World} {q p : Nat} {x0 x1 : Slt} (h : SlAt B W q p x0 x1) (hb : Mv B' DT W W') : SlAt B W' q p x0 x1 := by
  obtain ⟨h0, v0, v1, h1, h2, h3⟩ := h
  exact ⟨h0, v0, v1, hb.blk h1 (by decide), hb.R h2 (kB_E1 (by decide)), hb.R h3 (kB_E1 (by decide))⟩
section
variable {B : Nat} {w : World} {q p : Nat}
set_option maxRecDepth 100000 in
theorem begin_calls (c1 : w.cell? ⟨q, 1, none⟩ = some (.int .i64 0)) (c2 : w.cell? ⟨q, 2, none⟩ = some (.int .i64 60)) {k : Nat} (hk : k ≤ 1) : Calls Tryd.prog 33 #[.pointer (some ⟨q, 0, none⟩), .int .i64 (k : Int)] w fun e w' => e = .returned (.int .i64 ((61 * k : Nat) : Int)) ∧ Drawn0 w w' := by
  have hm : IntKind.i64.wrap ((k : Int) * 61) = ((61 * k : Nat) : Int) := by rw [IntKind.wrap_i64]; omega
  go_enter Tryd.func33, Tryd.ntmps33
  go_wp2
  go_quiet (fail)
  go_wp2
  go_ret
  exact ⟨by rw [Int.natCast_mul]; rfl, ⟨⟨_, rfl⟩⟩⟩
/-- the slot of the latest text -/
def whichP (x0 x1 : Slt) : Int := if x1.s = true ∧ (x0.s = true → x0.e < x1.e) then 1 else if x0.s = true then 0 else -1
set_option maxRecDepth 100000 in
set_option maxHeartbeats 4000000 in
theorem Which_calls {x0 x1 : Slt} (h : SlAt B w q p x0 x1) : Calls Tryd.prog 31 #[.pointer (some ⟨q, 0, none⟩)] w fun e w' => e = .returned (.int .i64 (whichP x0 x1)) ∧ Below w.heap.size w w' := by
  obtain ⟨h0, v0, v1, h1, h2, h3⟩ := h
  obtain ⟨s0, e0, b0⟩ := x0
  obtain ⟨s1, e1, b1⟩ := x1
  dsimp only at h1
  obtain ⟨A0, c0, rfl⟩ := Kd.R_slice h2
  obtain ⟨A1, c1, rfl⟩ := Kd.R_slice h3
  obtain ⟨n0, hn0⟩ : ∃ n0, b0.length = n0 := ⟨_, rfl⟩
  obtain ⟨n1, hn1⟩ : ∃ n1, b1.length = n1 := ⟨_, rfl⟩
  dsimp only at h1
  rw [hn0, hn1] at h1
  have H1 := Aside0.mk h1
  have hql := blk_lt h1
  have p0 := blk_cell h1 0
  have p3 := blk_cell h1 3
  have p4 := blk_cell h1 4
  have p5 := blk_cell h1 5
  have p6 := blk_cell h1 6
  have p7 := blk_cell h1 7
  have p8 := blk_cell h1 8
  have hix0 : ∀ W : World, (Instr.index 62 (.agg #[.bool s0, .int .i64 e0, .slice A0 n0 c0, .bool s1, .int .i64 e1, .slice A1 n1 c1]) (.int .i64 0)).run Tryd.prog W = .ok (.agg #[.bool s0, .int .i64 e0, .slice A0 n0 c0]) W := fun W => by kernel_rfl
  have hix1 : ∀ W : World, (Instr.index 62 (.agg #[.bool s0, .int .i64 e0, .slice A0 n0 c0, .bool s1, .int .i64 e1, .slice A1 n1 c1]) (.int .i64 1)).run Tryd.prog W = .ok (.agg #[.bool s1, .int .i64 e1, .slice A1 n1 c1]) W := fun W => by kernel_rfl
  clear h1 h2 h3 hn0 hn1
  have HBEL : Aside0 (∀ (o1 o2 : Obj) (n1 n2 : Nat), Below w.heap.size w ((((w.alloc o1).drewN n1).alloc o2).drewN n2)) := ⟨fun o1 o2 n1 n2 => pw_below_drewN ((pw_below_drewN ((Below.refl _ w).alloc (Nat.le_refl _) o1) n1).alloc (by simp) o2) n2⟩
  cases s0
  · cases s1
    · rw [show whichP ⟨false, e0, b0⟩ ⟨false, e1, b1⟩ = -1 by simp [whichP]]
      go_enter Tryd.func31, Tryd.ntmps31
      go_wp2
      refine wp_loop_rounds 3 ?_
      rw [rounds_succ]
      go_wp2
      go_quiet (fail)
      go_wp2
      rw [rounds_succ]
      go_wp2
      go_quiet (fail)
      go_wp2
      rw [rounds_succ]
      go_wp2
      go_ret
      refine ⟨rfl, ?_⟩
      exact HBEL.out _ _ _ _
    · rw [show whichP ⟨false, e0, b0⟩ ⟨true, e1, b1⟩ = 1 by simp [whichP]]
      go_enter Tryd.func31, Tryd.ntmps31
      go_wp2
      refine wp_loop_rounds 3 ?_
      rw [rounds_succ]
      go_wp2
      go_quiet (fail)
      go_wp2
      rw [rounds_succ]
      go_wp2
      go_quiet (fail)
      go_wp2
      rw [rounds_succ]
      go_wp2
      go_ret
      refine ⟨rfl, ?_⟩
      exact HBEL.out _ _ _ _
  · cases s1
    · rw [show whichP ⟨true, e0, b0⟩ ⟨false, e1, b1⟩ = 0 by simp [whichP]]
      go_enter Tryd.func31, Tryd.ntmps31
      go_wp2
      refine wp_loop_rounds 3 ?_
      rw [rounds_succ]
      go_wp2
      go_quiet (fail)
      go_wp2
      rw [rounds_succ]
      go_wp2
      go_quiet (fail)
      go_wp2
      rw [rounds_succ]
      go_wp2
      go_ret
      refine ⟨rfl, ?_⟩
      exact HBEL.out _ _ _ _
    · by_cases he : e0 < e1
      · rw [show whichP ⟨true, e0, b0⟩ ⟨true, e1, b1⟩ = 1 by simp [whichP, he]]
        have hd := decide_eq_true he
        clear he
        go_enter Tryd.func31, Tryd.ntmps31
        go_wp2
        refine wp_loop_rounds 3 ?_
        rw [rounds_succ]
        go_wp2
        go_quiet (fail)
        go_wp2
        rw [rounds_succ]
        go_wp2
        go_quiet (fail)
        go_wp2
        rw [rounds_succ]
        go_wp2
        go_ret
        refine ⟨rfl, ?_⟩
        exact HBEL.out _ _ _ _
      · rw [show whichP ⟨true, e0, b0⟩ ⟨true, e1, b1⟩ = 0 by simp [whichP, he]]
        have hd := decide_eq_false he
        clear he
        go_enter Tryd.func31, Tryd.ntmps31
        go_wp2
        refine wp_loop_rounds 3 ?_
        rw [rounds_succ]
        go_wp2
        go_quiet (fail)
        go_wp2
        rw [rounds_succ]
        go_wp2
        go_quiet (fail)
        go_wp2
        rw [rounds_succ]
        go_wp2
        go_ret
        refine ⟨rfl, ?_⟩
        exact HBEL.out _ _ _ _
end
end Go.Proofs.YtenjldfflkinkaaDoor.Sav
