-- PRINTED by print.py (a twelfth state) out of the translation. Not trusted: Lean checks it.
import Derived.Test.YtccleelhheilnaaFx5w
import Derived.Test.YtccleelhheilnaaFx0
import Derived.Test.YtccleelhheilnaaFx5
import Derived.Test.YtccleelhheilnaaFGLine
namespace Go.Proofs.Ytccleelhheilnaa.F
open Go.RowKit Go.Proofs.YtccleelhheilnaaW.PrintWords Go.Proofs.YtccleelhheilnaaW.PrintLast Go.Proofs.YtccleelhheilnaaW.PrintMore
attribute [local go_sem] max2_int min2_int max_two min_two max_three min_three max_four min_four   -- for this text's walks alone
set_option linter.unusedVariables false
set_option linter.unusedSimpArgs false

/-! ### colophonlaw13_OrderCuts: function 19 -/
mutual
def colophonlaw13_OrderCuts.l0 : Nat → List Int → List Int → Int → Int → List Int → List Int → Int → Int → Int → Option (Bool)
  | 0, _, _, _, _, _, _, _, _, _ => none
  | k + 1, x3, x40, x41, x42, x314000, x314001, x314002, x314003, x314004 => if x42 < x41 then (if 0 ≤ x42 then (if x42 < (x40.length : Int) then (if 0 ≤ (wrap64 (x314003 + x42)) then (if (wrap64 (x314003 + x42)) < (x314001.length : Int) then (if (wrap64 (x314003 + x42)) < (x314000.length : Int) then (if (rd x40 x42) = (rd x314001 (wrap64 (x314003 + x42))) then (colophonlaw13_OrderCuts.j1 k x3 x42 (rd x40 x42) (rd x314001 (wrap64 (x314003 + x42))) (rd x314000 (wrap64 (x314003 + x42))) x40 x41 x42 false x314000 x314001 x314002 x314003 x314004) else (if (rd x40 x42) = x314002 then (colophonlaw13_OrderCuts.j1 k x3 x42 (rd x40 x42) (rd x314001 (wrap64 (x314003 + x42))) (rd x314000 (wrap64 (x314003 + x42))) x40 x41 x42 (decide ((rd x314001 (wrap64 (x314003 + x42))) < 0)) x314000 x314001 x314002 x314003 x314004) else (colophonlaw13_OrderCuts.j1 k x3 x42 (rd x40 x42) (rd x314001 (wrap64 (x314003 + x42))) (rd x314000 (wrap64 (x314003 + x42))) x40 x41 x42 true x314000 x314001 x314002 x314003 x314004))) else (none)) else (none)) else (none)) else (none)) else (none)) else (some true)
def colophonlaw13_OrderCuts.j1 : Nat → List Int → Int → Int → Int → Int → List Int → Int → Int → Bool → List Int → List Int → Int → Int → Int → Option (Bool)
  | 0, _, _, _, _, _, _, _, _, _, _, _, _, _, _ => none
  | k + 1, x3, x5, x6, x7, x8, x40, x41, x42, x75, x314000, x314001, x314002, x314003, x314004 => if x75 = true then (some false) else (if x8 = 13 then (if x8 = 12 then (if x7 ≥ 0 then (if x6 = x314002 then (if x5 = (wrap64 ((x3.length : Int) - 1)) then (colophonlaw13_OrderCuts.l0 k x3 x40 x41 (wrap64 (x42 + 1)) x314000 x314001 x314002 x314003 x314004) else (colophonlaw13_OrderCuts.l0 k x3 x40 x41 (wrap64 (x42 + 1)) x314000 x314001 x314002 x314003 x314004)) else (some false)) else (if x5 = (wrap64 ((x3.length : Int) - 1)) then (colophonlaw13_OrderCuts.l0 k x3 x40 x41 (wrap64 (x42 + 1)) x314000 x314001 x314002 x314003 x314004) else (colophonlaw13_OrderCuts.l0 k x3 x40 x41 (wrap64 (x42 + 1)) x314000 x314001 x314002 x314003 x314004))) else (if x8 = 11 then (if x7 ≥ 0 then (if x6 = x314002 then (if x5 = (wrap64 ((x3.length : Int) - 1)) then (colophonlaw13_OrderCuts.l0 k x3 x40 x41 (wrap64 (x42 + 1)) x314000 x314001 x314002 x314003 x314004) else (colophonlaw13_OrderCuts.l0 k x3 x40 x41 (wrap64 (x42 + 1)) x314000 x314001 x314002 x314003 x314004)) else (some false)) else (if x5 = (wrap64 ((x3.length : Int) - 1)) then (colophonlaw13_OrderCuts.l0 k x3 x40 x41 (wrap64 (x42 + 1)) x314000 x314001 x314002 x314003 x314004) else (colophonlaw13_OrderCuts.l0 k x3 x40 x41 (wrap64 (x42 + 1)) x314000 x314001 x314002 x314003 x314004))) else (if x5 = (wrap64 ((x3.length : Int) - 1)) then (if x7 ≥ 0 then (if x6 = x314002 then (colophonlaw13_OrderCuts.l0 k x3 x40 x41 (wrap64 (x42 + 1)) x314000 x314001 x314002 x314003 x314004) else (some false)) else (colophonlaw13_OrderCuts.l0 k x3 x40 x41 (wrap64 (x42 + 1)) x314000 x314001 x314002 x314003 x314004)) else (colophonlaw13_OrderCuts.l0 k x3 x40 x41 (wrap64 (x42 + 1)) x314000 x314001 x314002 x314003 x314004)))) else (if x8 ≥ 20 then (if x8 = 12 then (if x8 ≤ 23 then (if x7 ≥ 0 then (if x6 = x314002 then (if x5 = (wrap64 ((x3.length : Int) - 1)) then (colophonlaw13_OrderCuts.l0 k x3 x40 x41 (wrap64 (x42 + 1)) x314000 x314001 x314002 x314003 x314004) else (colophonlaw13_OrderCuts.l0 k x3 x40 x41 (wrap64 (x42 + 1)) x314000 x314001 x314002 x314003 x314004)) else (some false)) else (if x5 = (wrap64 ((x3.length : Int) - 1)) then (colophonlaw13_OrderCuts.l0 k x3 x40 x41 (wrap64 (x42 + 1)) x314000 x314001 x314002 x314003 x314004) else (colophonlaw13_OrderCuts.l0 k x3 x40 x41 (wrap64 (x42 + 1)) x314000 x314001 x314002 x314003 x314004))) else (if x7 ≥ 0 then (if x6 = x314002 then (colophonlaw13_OrderCuts.l0 k x3 x40 x41 (wrap64 (x42 + 1)) x314000 x314001 x314002 x314003 x314004) else (some false)) else (colophonlaw13_OrderCuts.l0 k x3 x40 x41 (wrap64 (x42 + 1)) x314000 x314001 x314002 x314003 x314004))) else (if x8 ≤ 23 then (if x8 = 11 then (if x7 ≥ 0 then (if x6 = x314002 then (if x5 = (wrap64 ((x3.length : Int) - 1)) then (colophonlaw13_OrderCuts.l0 k x3 x40 x41 (wrap64 (x42 + 1)) x314000 x314001 x314002 x314003 x314004) else (colophonlaw13_OrderCuts.l0 k x3 x40 x41 (wrap64 (x42 + 1)) x314000 x314001 x314002 x314003 x314004)) else (some false)) else (if x5 = (wrap64 ((x3.length : Int) - 1)) then (colophonlaw13_OrderCuts.l0 k x3 x40 x41 (wrap64 (x42 + 1)) x314000 x314001 x314002 x314003 x314004) else (colophonlaw13_OrderCuts.l0 k x3 x40 x41 (wrap64 (x42 + 1)) x314000 x314001 x314002 x314003 x314004))) else (if x5 = (wrap64 ((x3.length : Int) - 1)) then (if x7 ≥ 0 then (if x6 = x314002 then (colophonlaw13_OrderCuts.l0 k x3 x40 x41 (wrap64 (x42 + 1)) x314000 x314001 x314002 x314003 x314004) else (some false)) else (colophonlaw13_OrderCuts.l0 k x3 x40 x41 (wrap64 (x42 + 1)) x314000 x314001 x314002 x314003 x314004)) else (colophonlaw13_OrderCuts.l0 k x3 x40 x41 (wrap64 (x42 + 1)) x314000 x314001 x314002 x314003 x314004))) else (if x8 = 11 then (if x7 ≥ 0 then (if x6 = x314002 then (colophonlaw13_OrderCuts.l0 k x3 x40 x41 (wrap64 (x42 + 1)) x314000 x314001 x314002 x314003 x314004) else (some false)) else (colophonlaw13_OrderCuts.l0 k x3 x40 x41 (wrap64 (x42 + 1)) x314000 x314001 x314002 x314003 x314004)) else (if x6 = x7 then (colophonlaw13_OrderCuts.l0 k x3 x40 x41 (wrap64 (x42 + 1)) x314000 x314001 x314002 x314003 x314004) else (some false))))) else (if x8 = 12 then (if x7 ≥ 0 then (if x6 = x314002 then (colophonlaw13_OrderCuts.l0 k x3 x40 x41 (wrap64 (x42 + 1)) x314000 x314001 x314002 x314003 x314004) else (some false)) else (colophonlaw13_OrderCuts.l0 k x3 x40 x41 (wrap64 (x42 + 1)) x314000 x314001 x314002 x314003 x314004)) else (if x8 = 11 then (if x7 ≥ 0 then (if x6 = x314002 then (colophonlaw13_OrderCuts.l0 k x3 x40 x41 (wrap64 (x42 + 1)) x314000 x314001 x314002 x314003 x314004) else (some false)) else (colophonlaw13_OrderCuts.l0 k x3 x40 x41 (wrap64 (x42 + 1)) x314000 x314001 x314002 x314003 x314004)) else (if x6 = x7 then (colophonlaw13_OrderCuts.l0 k x3 x40 x41 (wrap64 (x42 + 1)) x314000 x314001 x314002 x314003 x314004) else (some false))))))
end
def colophonlaw13_OrderCuts.f (k : Nat) (l0_0 : List Int) (l0_1 : List Int) (a0_2 : Int) (a0_3 : Int) (a0_4 : Int) : Option (Bool) := (colophonlaw13_works.f k).bind fun t314 => (if t314 = true then ((order_Line.f l0_0 l0_1 a0_2 a0_3 a0_4).bind fun bt315 => (if bt315.2 = 0 then (if (bt315.1.length : Int) = (wrap64 (a0_4 - a0_3)) then (colophonlaw13_OrderCuts.l0 k bt315.1 bt315.1 (bt315.1.length : Int) 0 l0_0 l0_1 a0_2 a0_3 a0_4) else (some false)) else (some ((bt315.1.length : Int) == 0)))) else (some false))
theorem colophonlaw13_OrderCuts.mono_l : ∀ k, (∀ y0 y1 y2 y3 y4 y5 y6 y7 y8, LeO (colophonlaw13_OrderCuts.l0 k y0 y1 y2 y3 y4 y5 y6 y7 y8) (colophonlaw13_OrderCuts.l0 (k + 1) y0 y1 y2 y3 y4 y5 y6 y7 y8)) ∧ (∀ y0 y1 y2 y3 y4 y5 y6 y7 y8 y9 y10 y11 y12 y13, LeO (colophonlaw13_OrderCuts.j1 k y0 y1 y2 y3 y4 y5 y6 y7 y8 y9 y10 y11 y12 y13) (colophonlaw13_OrderCuts.j1 (k + 1) y0 y1 y2 y3 y4 y5 y6 y7 y8 y9 y10 y11 y12 y13))
  | 0 => ⟨fun _ _ _ _ _ _ _ _ _ r h => by simp [colophonlaw13_OrderCuts.l0] at h, fun _ _ _ _ _ _ _ _ _ _ _ _ _ _ r h => by simp [colophonlaw13_OrderCuts.j1] at h⟩
  | k + 1 => by
    obtain ⟨ih0, ih1⟩ := colophonlaw13_OrderCuts.mono_l k
    refine ⟨?_, ?_⟩
    · intro y0 y1 y2 y3 y4 y5 y6 y7 y8
      unfold colophonlaw13_OrderCuts.l0
      repeat' first
      | (with_reducible exact ih0 _ _ _ _ _ _ _ _ _)
      | (with_reducible exact ih1 _ _ _ _ _ _ _ _ _ _ _ _ _ _)
      | (with_reducible exact colophonlaw13_works.mono _)
      | (with_reducible exact LeO.refl _)
      | (with_reducible exact LeO.none _)
      | (with_reducible refine LeO.ite ?_ ?_)
      | (with_reducible refine LeO.bind ?_ (fun _ => ?_))
      | exact ih0 _ _ _ _ _ _ _ _ _
      | exact ih1 _ _ _ _ _ _ _ _ _ _ _ _ _ _
      | exact colophonlaw13_works.mono _
      | exact LeO.none _
      | refine LeO.ite ?_ ?_
      | refine LeO.bind ?_ (fun _ => ?_)
    · intro y0 y1 y2 y3 y4 y5 y6 y7 y8 y9 y10 y11 y12 y13
      unfold colophonlaw13_OrderCuts.j1
      repeat' first
      | (with_reducible exact ih0 _ _ _ _ _ _ _ _ _)
      | (with_reducible exact ih1 _ _ _ _ _ _ _ _ _ _ _ _ _ _)
      | (with_reducible exact colophonlaw13_works.mono _)
      | (with_reducible exact LeO.refl _)
      | (with_reducible exact LeO.none _)
      | (with_reducible refine LeO.ite ?_ ?_)
      | (with_reducible refine LeO.bind ?_ (fun _ => ?_))
      | exact ih0 _ _ _ _ _ _ _ _ _
      | exact ih1 _ _ _ _ _ _ _ _ _ _ _ _ _ _
      | exact colophonlaw13_works.mono _
      | exact LeO.none _
      | refine LeO.ite ?_ ?_
      | refine LeO.bind ?_ (fun _ => ?_)
theorem colophonlaw13_OrderCuts.mono : ∀ a0 a1 a2 a3 a4 k, LeO (colophonlaw13_OrderCuts.f k a0 a1 a2 a3 a4) (colophonlaw13_OrderCuts.f (k + 1) a0 a1 a2 a3 a4) := by
  intro a0 a1 a2 a3 a4 k
  obtain ⟨ih0, ih1⟩ := colophonlaw13_OrderCuts.mono_l k
  unfold colophonlaw13_OrderCuts.f
  repeat' first
      | (with_reducible exact ih0 _ _ _ _ _ _ _ _ _)
      | (with_reducible exact ih1 _ _ _ _ _ _ _ _ _ _ _ _ _ _)
      | (with_reducible exact colophonlaw13_works.mono _)
      | (with_reducible exact LeO.refl _)
      | (with_reducible exact LeO.none _)
      | (with_reducible refine LeO.ite ?_ ?_)
      | (with_reducible refine LeO.bind ?_ (fun _ => ?_))
      | exact ih0 _ _ _ _ _ _ _ _ _
      | exact ih1 _ _ _ _ _ _ _ _ _ _ _ _ _ _
      | exact colophonlaw13_works.mono _
      | exact LeO.none _
      | refine LeO.ite ?_ ?_
      | refine LeO.bind ?_ (fun _ => ?_)
set_option maxHeartbeats 8000000 in
set_option maxRecDepth 100000 in
theorem colophonlaw13_OrderCuts.calls (k : Nat) (A0_0 : Option Addr) (c0_0 : Nat) (l0_0 : List Int) (A0_1 : Option Addr) (c0_1 : Nat) (l0_1 : List Int) (a0_2 : Int) (a0_3 : Int) (a0_4 : Int) (r : Bool) (w : World) (hr0_0 : Kd.C (Kd.int .i64) w A0_0 l0_0.length l0_0) (hc0_0 : l0_0.length ≤ c0_0) (hr0_1 : Kd.C (Kd.int .i64) w A0_1 l0_1.length l0_1) (hc0_1 : l0_1.length ≤ c0_1) (h : colophonlaw13_OrderCuts.f k l0_0 l0_1 a0_2 a0_3 a0_4 = some r) :
    Calls Try.prog 19 #[.agg #[.slice A0_0 l0_0.length c0_0, .slice A0_1 l0_1.length c0_1, .int .i64 a0_2, .int .i64 a0_3, .int .i64 a0_4]] w fun e w' => e = .returned (.bool r) ∧ Below w.heap.size w w' := by
  have hu60 := Try.underlying60
  have HR0_0 := Aside0.mk hr0_0
  have HC0_0 := Aside0.mk hc0_0
  clear hr0_0 hc0_0
  have HR0_1 := Aside0.mk hr0_1
  have HC0_1 := Aside0.mk hc0_1
  clear hr0_1 hc0_1
  have HB := Aside0.mk (Below.refl w.heap.size w)
  have H : ((colophonlaw13_works.f k).bind fun t314 => (if t314 = true then ((order_Line.f l0_0 l0_1 a0_2 a0_3 a0_4).bind fun bt315 => (if bt315.2 = 0 then (if (bt315.1.length : Int) = (wrap64 (a0_4 - a0_3)) then (colophonlaw13_OrderCuts.l0 k bt315.1 bt315.1 (bt315.1.length : Int) 0 l0_0 l0_1 a0_2 a0_3 a0_4) else (some false)) else (some ((bt315.1.length : Int) == 0)))) else (some false))) = some r := h
  clear h
  replace H := Option.bind_eq_some_iff.mp H
  obtain ⟨t314, A20, H⟩ := H
  replace H : (if t314 = true then ((order_Line.f l0_0 l0_1 a0_2 a0_3 a0_4).bind fun bt315 => (if bt315.2 = 0 then (if (bt315.1.length : Int) = (wrap64 (a0_4 - a0_3)) then (colophonlaw13_OrderCuts.l0 k bt315.1 bt315.1 (bt315.1.length : Int) 0 l0_0 l0_1 a0_2 a0_3 a0_4) else (some false)) else (some ((bt315.1.length : Int) == 0)))) else (some false)) = some r := H
  have A2 := Aside0.mk A20
  clear A20
  by_cases c3 : t314 = true
  · subst c3
    have H1 : ((order_Line.f l0_0 l0_1 a0_2 a0_3 a0_4).bind fun bt315 => (if bt315.2 = 0 then (if (bt315.1.length : Int) = (wrap64 (a0_4 - a0_3)) then (colophonlaw13_OrderCuts.l0 k bt315.1 bt315.1 (bt315.1.length : Int) 0 l0_0 l0_1 a0_2 a0_3 a0_4) else (some false)) else (some ((bt315.1.length : Int) == 0)))) = some r := by rw [if_pos rfl] at H; exact H
    clear H
    have H := H1
    clear H1
    replace H := Option.bind_eq_some_iff.mp H
    obtain ⟨⟨t315, t316⟩, A40, H⟩ := H
    replace H : (if t316 = 0 then (if (t315.length : Int) = (wrap64 (a0_4 - a0_3)) then (colophonlaw13_OrderCuts.l0 k t315 t315 (t315.length : Int) 0 l0_0 l0_1 a0_2 a0_3 a0_4) else (some false)) else (some ((t315.length : Int) == 0))) = some r := H
    have A4 := Aside0.mk A40
    clear A40
    by_cases c5 : t316 = 0
    · rw [if_pos c5] at H
      have c5b0 : (t316 == 0) = true := beq_iff_eq.mpr c5
      have c5b1 : (t316 != 0) = false := bne_eq_false_iff_eq.mpr c5
      clear c5
      by_cases c6 : (t315.length : Int) = (wrap64 (a0_4 - a0_3))
      · rw [if_pos c6] at H
        have c6b0 : ((t315.length : Int) == (wrap64 (a0_4 - a0_3))) = true := beq_iff_eq.mpr c6
        have c6b1 : ((t315.length : Int) != (wrap64 (a0_4 - a0_3))) = false := bne_eq_false_iff_eq.mpr c6
        clear c6
        have H' := Aside0.mk H
        clear H
        go_enter Try.func19, Try.ntmps19
        go_wp2_with (first | ((with_reducible refine gate_dst (N := 1) rfl ?_); (try (refine gate_guard (by rfl) ?_; dsimp only)); refine box_event ?hg (N := 1) ?hd (cs := #[.slice A0_0 l0_0.length c0_0, .slice A0_1 l0_1.length c0_1, .int .i64 a0_2, .int .i64 a0_3, .int .i64 a0_4]) (t := 60) ?hr ?_; (case hd => rfl); (case hg => rfl); (case hr => first | (go_simp; done) | (go_simp; rfl)); intro gb313 hg w7 hbox hb; have n0_ := Aside0.mk (below_step (by repeat (first | (with_reducible first | exact HB.out | apply below_alloc | apply pw_below_drewN | apply below_drew1) | exact HB.out)) hb); have n1_ := Aside0.mk (hbox); have n2_ := Aside0.mk ((by rw [hg]; exact (below_size (by repeat (first | (with_reducible first | exact HB.out | apply below_alloc | apply pw_below_drewN | apply below_drew1) | exact HB.out))) : w.heap.size ≤ gb313)); have n3_ := Aside0.mk ((by rw [hg]; exact (below_size (by repeat (first | (with_reducible first | exact HB.out | apply below_alloc | apply pw_below_drewN | apply below_drew1) | exact HB.out))) : w.heap.size ≤ gb313)); clear HB; have HB := n0_; have BK313 := n1_; have GW313 := n2_; have GE313 := n3_; clear n0_ n1_ n2_ n3_; clear hb hbox hg) | (go_at_call 44; (with_reducible refine (colophonlaw13_works.calls k  true _ A2.out).mono ?_); rintro e w8 ⟨rfl, hb⟩; have n0_ := Aside0.mk (blk_below (g := gb313) (o := .cells #[.slice A0_0 l0_0.length c0_0, .slice A0_1 l0_1.length c0_1, .int .i64 a0_2, .int .i64 a0_3, .int .i64 a0_4] 60 (0, 0)) (by (with_reducible repeat (first | refine blk_drewN ?_ _ | refine blk_drew ?_ | refine blk_alloc ?_ _)); exact BK313.out) hb); have n1_ := Aside0.mk (below_step (by repeat (first | (with_reducible first | exact HB.out | apply below_alloc | apply pw_below_drewN | apply below_drew1 | refine below_set ?_ GE313.out) | exact HB.out)) hb); clear BK313; clear HB; have BK313 := n0_; have HB := n1_; clear n0_ n1_; (try clear hb); (try clear hb2); (try clear hk); (try clear hi); have hcz9_0 : w8.cell? ⟨gb313, 0, none⟩ = some (.slice A0_0 l0_0.length c0_0) := (blk_cell BK313.out 0).trans rfl; have hcz9_1 : w8.cell? ⟨gb313, 1, none⟩ = some (.slice A0_1 l0_1.length c0_1) := (blk_cell BK313.out 1).trans rfl; have hcz9_2 : w8.cell? ⟨gb313, 2, none⟩ = some (.int .i64 a0_2) := (blk_cell BK313.out 2).trans rfl; have hcz9_3 : w8.cell? ⟨gb313, 3, none⟩ = some (.int .i64 a0_3) := (blk_cell BK313.out 3).trans rfl; have hcz9_4 : w8.cell? ⟨gb313, 4, none⟩ = some (.int .i64 a0_4) := (blk_cell BK313.out 4).trans rfl; have hfz9_0 := blk_frozen BK313.out 0; have hfz9_1 := blk_frozen BK313.out 1; have hfz9_2 := blk_frozen BK313.out 2; have hfz9_3 := blk_frozen BK313.out 3; have hfz9_4 := blk_frozen BK313.out 4) | (go_at_call 45; (with_reducible refine (order_Line.calls _ _ l0_0 _ _ l0_1 a0_2 a0_3 a0_4 t315 t316 _ ?side1 ?side2 ?side3 ?side4 A4.out).mono ?_); (case side1 => repeat (first | exact (Kd.C_below HR0_0.out HB.out) | (with_reducible refine Kd.C_alloc ?_ _) | (with_reducible refine Kd.C_drewN ?_ _) | (with_reducible refine Kd.C_drew ?_))); (case side2 => exact HC0_0.out); (case side3 => repeat (first | exact (Kd.C_below HR0_1.out HB.out) | (with_reducible refine Kd.C_alloc ?_ _) | (with_reducible refine Kd.C_drewN ?_ _) | (with_reducible refine Kd.C_drew ?_))); (case side4 => exact HC0_1.out); rintro e w10 ⟨v317, rfl, ho0, hb⟩; have n0_ := Aside0.mk (Kd.R_lower ho0 (below_size (by repeat (first | (with_reducible first | exact HB.out | apply below_alloc | apply pw_below_drewN | apply below_drew1 | refine below_set ?_ GE313.out) | exact HB.out)))); have n1_ := Aside0.mk (blk_below (g := gb313) (o := .cells #[.slice A0_0 l0_0.length c0_0, .slice A0_1 l0_1.length c0_1, .int .i64 a0_2, .int .i64 a0_3, .int .i64 a0_4] 60 (0, 0)) (by (with_reducible repeat (first | refine blk_drewN ?_ _ | refine blk_drew ?_ | refine blk_alloc ?_ _)); exact BK313.out) hb); have n2_ := Aside0.mk (below_step (by repeat (first | (with_reducible first | exact HB.out | apply below_alloc | apply pw_below_drewN | apply below_drew1 | refine below_set ?_ GE313.out) | exact HB.out)) hb); clear BK313; clear HB; have HO318 := n0_; have BK313 := n1_; have HB := n2_; clear n0_ n1_ n2_; (try clear hb); (try clear hb2); (try clear hk); (try clear hi); (try clear ho0); obtain ⟨Ao11, co11, eo11⟩ := Kd.R_slice HO318.out; subst eo11; have hcz12_0 : w10.cell? ⟨gb313, 0, none⟩ = some (.slice A0_0 l0_0.length c0_0) := (blk_cell BK313.out 0).trans rfl; have hcz12_1 : w10.cell? ⟨gb313, 1, none⟩ = some (.slice A0_1 l0_1.length c0_1) := (blk_cell BK313.out 1).trans rfl; have hcz12_2 : w10.cell? ⟨gb313, 2, none⟩ = some (.int .i64 a0_2) := (blk_cell BK313.out 2).trans rfl; have hcz12_3 : w10.cell? ⟨gb313, 3, none⟩ = some (.int .i64 a0_3) := (blk_cell BK313.out 3).trans rfl; have hcz12_4 : w10.cell? ⟨gb313, 4, none⟩ = some (.int .i64 a0_4) := (blk_cell BK313.out 4).trans rfl; have hfz12_0 := blk_frozen BK313.out 0; have hfz12_1 := blk_frozen BK313.out 1; have hfz12_2 := blk_frozen BK313.out 2; have hfz12_3 := blk_frozen BK313.out 3; have hfz12_4 := blk_frozen BK313.out 4))
        repeat (go_quiet (first | ((with_reducible refine gate_dst (N := 1) rfl ?_); (try (refine gate_guard (by rfl) ?_; dsimp only)); refine box_event ?hg (N := 1) ?hd (cs := #[.slice A0_0 l0_0.length c0_0, .slice A0_1 l0_1.length c0_1, .int .i64 a0_2, .int .i64 a0_3, .int .i64 a0_4]) (t := 60) ?hr ?_; (case hd => rfl); (case hg => rfl); (case hr => first | (go_simp; done) | (go_simp; rfl)); intro gb313 hg w7 hbox hb; have n0_ := Aside0.mk (below_step (by repeat (first | (with_reducible first | exact HB.out | apply below_alloc | apply pw_below_drewN | apply below_drew1) | exact HB.out)) hb); have n1_ := Aside0.mk (hbox); have n2_ := Aside0.mk ((by rw [hg]; exact (below_size (by repeat (first | (with_reducible first | exact HB.out | apply below_alloc | apply pw_below_drewN | apply below_drew1) | exact HB.out))) : w.heap.size ≤ gb313)); have n3_ := Aside0.mk ((by rw [hg]; exact (below_size (by repeat (first | (with_reducible first | exact HB.out | apply below_alloc | apply pw_below_drewN | apply below_drew1) | exact HB.out))) : w.heap.size ≤ gb313)); clear HB; have HB := n0_; have BK313 := n1_; have GW313 := n2_; have GE313 := n3_; clear n0_ n1_ n2_ n3_; clear hb hbox hg) | (go_at_call 44; (with_reducible refine (colophonlaw13_works.calls k  true _ A2.out).mono ?_); rintro e w8 ⟨rfl, hb⟩; have n0_ := Aside0.mk (blk_below (g := gb313) (o := .cells #[.slice A0_0 l0_0.length c0_0, .slice A0_1 l0_1.length c0_1, .int .i64 a0_2, .int .i64 a0_3, .int .i64 a0_4] 60 (0, 0)) (by (with_reducible repeat (first | refine blk_drewN ?_ _ | refine blk_drew ?_ | refine blk_alloc ?_ _)); exact BK313.out) hb); have n1_ := Aside0.mk (below_step (by repeat (first | (with_reducible first | exact HB.out | apply below_alloc | apply pw_below_drewN | apply below_drew1 | refine below_set ?_ GE313.out) | exact HB.out)) hb); clear BK313; clear HB; have BK313 := n0_; have HB := n1_; clear n0_ n1_; (try clear hb); (try clear hb2); (try clear hk); (try clear hi); have hcz9_0 : w8.cell? ⟨gb313, 0, none⟩ = some (.slice A0_0 l0_0.length c0_0) := (blk_cell BK313.out 0).trans rfl; have hcz9_1 : w8.cell? ⟨gb313, 1, none⟩ = some (.slice A0_1 l0_1.length c0_1) := (blk_cell BK313.out 1).trans rfl; have hcz9_2 : w8.cell? ⟨gb313, 2, none⟩ = some (.int .i64 a0_2) := (blk_cell BK313.out 2).trans rfl; have hcz9_3 : w8.cell? ⟨gb313, 3, none⟩ = some (.int .i64 a0_3) := (blk_cell BK313.out 3).trans rfl; have hcz9_4 : w8.cell? ⟨gb313, 4, none⟩ = some (.int .i64 a0_4) := (blk_cell BK313.out 4).trans rfl; have hfz9_0 := blk_frozen BK313.out 0; have hfz9_1 := blk_frozen BK313.out 1; have hfz9_2 := blk_frozen BK313.out 2; have hfz9_3 := blk_frozen BK313.out 3; have hfz9_4 := blk_frozen BK313.out 4) | (go_at_call 45; (with_reducible refine (order_Line.calls _ _ l0_0 _ _ l0_1 a0_2 a0_3 a0_4 t315 t316 _ ?side1 ?side2 ?side3 ?side4 A4.out).mono ?_); (case side1 => repeat (first | exact (Kd.C_below HR0_0.out HB.out) | (with_reducible refine Kd.C_alloc ?_ _) | (with_reducible refine Kd.C_drewN ?_ _) | (with_reducible refine Kd.C_drew ?_))); (case side2 => exact HC0_0.out); (case side3 => repeat (first | exact (Kd.C_below HR0_1.out HB.out) | (with_reducible refine Kd.C_alloc ?_ _) | (with_reducible refine Kd.C_drewN ?_ _) | (with_reducible refine Kd.C_drew ?_))); (case side4 => exact HC0_1.out); rintro e w10 ⟨v317, rfl, ho0, hb⟩; have n0_ := Aside0.mk (Kd.R_lower ho0 (below_size (by repeat (first | (with_reducible first | exact HB.out | apply below_alloc | apply pw_below_drewN | apply below_drew1 | refine below_set ?_ GE313.out) | exact HB.out)))); have n1_ := Aside0.mk (blk_below (g := gb313) (o := .cells #[.slice A0_0 l0_0.length c0_0, .slice A0_1 l0_1.length c0_1, .int .i64 a0_2, .int .i64 a0_3, .int .i64 a0_4] 60 (0, 0)) (by (with_reducible repeat (first | refine blk_drewN ?_ _ | refine blk_drew ?_ | refine blk_alloc ?_ _)); exact BK313.out) hb); have n2_ := Aside0.mk (below_step (by repeat (first | (with_reducible first | exact HB.out | apply below_alloc | apply pw_below_drewN | apply below_drew1 | refine below_set ?_ GE313.out) | exact HB.out)) hb); clear BK313; clear HB; have HO318 := n0_; have BK313 := n1_; have HB := n2_; clear n0_ n1_ n2_; (try clear hb); (try clear hb2); (try clear hk); (try clear hi); (try clear ho0); obtain ⟨Ao11, co11, eo11⟩ := Kd.R_slice HO318.out; subst eo11; have hcz12_0 : w10.cell? ⟨gb313, 0, none⟩ = some (.slice A0_0 l0_0.length c0_0) := (blk_cell BK313.out 0).trans rfl; have hcz12_1 : w10.cell? ⟨gb313, 1, none⟩ = some (.slice A0_1 l0_1.length c0_1) := (blk_cell BK313.out 1).trans rfl; have hcz12_2 : w10.cell? ⟨gb313, 2, none⟩ = some (.int .i64 a0_2) := (blk_cell BK313.out 2).trans rfl; have hcz12_3 : w10.cell? ⟨gb313, 3, none⟩ = some (.int .i64 a0_3) := (blk_cell BK313.out 3).trans rfl; have hcz12_4 : w10.cell? ⟨gb313, 4, none⟩ = some (.int .i64 a0_4) := (blk_cell BK313.out 4).trans rfl; have hfz12_0 := blk_frozen BK313.out 0; have hfz12_1 := blk_frozen BK313.out 1; have hfz12_2 := blk_frozen BK313.out 2; have hfz12_3 := blk_frozen BK313.out 3; have hfz12_4 := blk_frozen BK313.out 4)); try go_wp2_with (first | ((with_reducible refine gate_dst (N := 1) rfl ?_); (try (refine gate_guard (by rfl) ?_; dsimp only)); refine box_event ?hg (N := 1) ?hd (cs := #[.slice A0_0 l0_0.length c0_0, .slice A0_1 l0_1.length c0_1, .int .i64 a0_2, .int .i64 a0_3, .int .i64 a0_4]) (t := 60) ?hr ?_; (case hd => rfl); (case hg => rfl); (case hr => first | (go_simp; done) | (go_simp; rfl)); intro gb313 hg w7 hbox hb; have n0_ := Aside0.mk (below_step (by repeat (first | (with_reducible first | exact HB.out | apply below_alloc | apply pw_below_drewN | apply below_drew1) | exact HB.out)) hb); have n1_ := Aside0.mk (hbox); have n2_ := Aside0.mk ((by rw [hg]; exact (below_size (by repeat (first | (with_reducible first | exact HB.out | apply below_alloc | apply pw_below_drewN | apply below_drew1) | exact HB.out))) : w.heap.size ≤ gb313)); have n3_ := Aside0.mk ((by rw [hg]; exact (below_size (by repeat (first | (with_reducible first | exact HB.out | apply below_alloc | apply pw_below_drewN | apply below_drew1) | exact HB.out))) : w.heap.size ≤ gb313)); clear HB; have HB := n0_; have BK313 := n1_; have GW313 := n2_; have GE313 := n3_; clear n0_ n1_ n2_ n3_; clear hb hbox hg) | (go_at_call 44; (with_reducible refine (colophonlaw13_works.calls k  true _ A2.out).mono ?_); rintro e w8 ⟨rfl, hb⟩; have n0_ := Aside0.mk (blk_below (g := gb313) (o := .cells #[.slice A0_0 l0_0.length c0_0, .slice A0_1 l0_1.length c0_1, .int .i64 a0_2, .int .i64 a0_3, .int .i64 a0_4] 60 (0, 0)) (by (with_reducible repeat (first | refine blk_drewN ?_ _ | refine blk_drew ?_ | refine blk_alloc ?_ _)); exact BK313.out) hb); have n1_ := Aside0.mk (below_step (by repeat (first | (with_reducible first | exact HB.out | apply below_alloc | apply pw_below_drewN | apply below_drew1 | refine below_set ?_ GE313.out) | exact HB.out)) hb); clear BK313; clear HB; have BK313 := n0_; have HB := n1_; clear n0_ n1_; (try clear hb); (try clear hb2); (try clear hk); (try clear hi); have hcz9_0 : w8.cell? ⟨gb313, 0, none⟩ = some (.slice A0_0 l0_0.length c0_0) := (blk_cell BK313.out 0).trans rfl; have hcz9_1 : w8.cell? ⟨gb313, 1, none⟩ = some (.slice A0_1 l0_1.length c0_1) := (blk_cell BK313.out 1).trans rfl; have hcz9_2 : w8.cell? ⟨gb313, 2, none⟩ = some (.int .i64 a0_2) := (blk_cell BK313.out 2).trans rfl; have hcz9_3 : w8.cell? ⟨gb313, 3, none⟩ = some (.int .i64 a0_3) := (blk_cell BK313.out 3).trans rfl; have hcz9_4 : w8.cell? ⟨gb313, 4, none⟩ = some (.int .i64 a0_4) := (blk_cell BK313.out 4).trans rfl; have hfz9_0 := blk_frozen BK313.out 0; have hfz9_1 := blk_frozen BK313.out 1; have hfz9_2 := blk_frozen BK313.out 2; have hfz9_3 := blk_frozen BK313.out 3; have hfz9_4 := blk_frozen BK313.out 4) | (go_at_call 45; (with_reducible refine (order_Line.calls _ _ l0_0 _ _ l0_1 a0_2 a0_3 a0_4 t315 t316 _ ?side1 ?side2 ?side3 ?side4 A4.out).mono ?_); (case side1 => repeat (first | exact (Kd.C_below HR0_0.out HB.out) | (with_reducible refine Kd.C_alloc ?_ _) | (with_reducible refine Kd.C_drewN ?_ _) | (with_reducible refine Kd.C_drew ?_))); (case side2 => exact HC0_0.out); (case side3 => repeat (first | exact (Kd.C_below HR0_1.out HB.out) | (with_reducible refine Kd.C_alloc ?_ _) | (with_reducible refine Kd.C_drewN ?_ _) | (with_reducible refine Kd.C_drew ?_))); (case side4 => exact HC0_1.out); rintro e w10 ⟨v317, rfl, ho0, hb⟩; have n0_ := Aside0.mk (Kd.R_lower ho0 (below_size (by repeat (first | (with_reducible first | exact HB.out | apply below_alloc | apply pw_below_drewN | apply below_drew1 | refine below_set ?_ GE313.out) | exact HB.out)))); have n1_ := Aside0.mk (blk_below (g := gb313) (o := .cells #[.slice A0_0 l0_0.length c0_0, .slice A0_1 l0_1.length c0_1, .int .i64 a0_2, .int .i64 a0_3, .int .i64 a0_4] 60 (0, 0)) (by (with_reducible repeat (first | refine blk_drewN ?_ _ | refine blk_drew ?_ | refine blk_alloc ?_ _)); exact BK313.out) hb); have n2_ := Aside0.mk (below_step (by repeat (first | (with_reducible first | exact HB.out | apply below_alloc | apply pw_below_drewN | apply below_drew1 | refine below_set ?_ GE313.out) | exact HB.out)) hb); clear BK313; clear HB; have HO318 := n0_; have BK313 := n1_; have HB := n2_; clear n0_ n1_ n2_; (try clear hb); (try clear hb2); (try clear hk); (try clear hi); (try clear ho0); obtain ⟨Ao11, co11, eo11⟩ := Kd.R_slice HO318.out; subst eo11; have hcz12_0 : w10.cell? ⟨gb313, 0, none⟩ = some (.slice A0_0 l0_0.length c0_0) := (blk_cell BK313.out 0).trans rfl; have hcz12_1 : w10.cell? ⟨gb313, 1, none⟩ = some (.slice A0_1 l0_1.length c0_1) := (blk_cell BK313.out 1).trans rfl; have hcz12_2 : w10.cell? ⟨gb313, 2, none⟩ = some (.int .i64 a0_2) := (blk_cell BK313.out 2).trans rfl; have hcz12_3 : w10.cell? ⟨gb313, 3, none⟩ = some (.int .i64 a0_3) := (blk_cell BK313.out 3).trans rfl; have hcz12_4 : w10.cell? ⟨gb313, 4, none⟩ = some (.int .i64 a0_4) := (blk_cell BK313.out 4).trans rfl; have hfz12_0 := blk_frozen BK313.out 0; have hfz12_1 := blk_frozen BK313.out 1; have hfz12_2 := blk_frozen BK313.out 2; have hfz12_3 := blk_frozen BK313.out 3; have hfz12_4 := blk_frozen BK313.out 4)))
        go_loopg [42] k (fun kq v42 w' => ∃ (x42_1 : Int), v42 = .int .i64 x42_1 ∧ Aside0 (colophonlaw13_OrderCuts.l0 kq t315 t315 (t315.length : Int) x42_1 l0_0 l0_1 a0_2 a0_3 a0_4 = some r) ∧ Aside0 (kq ≤ k) ∧ Aside0 (Kd.R (Kd.int .i64) 3 w' w.heap.size (fun _ => True) (.slice Ao11 t315.length co11) t315) ∧ Aside0 (Kd.R (Kd.int .i64) 3 w' w.heap.size (fun _ => True) (.slice Ao11 t315.length co11) t315) ∧ Aside0 (w'.heap[gb313]? = some (.cells #[(.slice A0_0 l0_0.length c0_0), (.slice A0_1 l0_1.length c0_1), .int .i64 a0_2, .int .i64 a0_3, .int .i64 a0_4] 60 (0, 0))) ∧ Aside0 (Below w.heap.size w w'))
        case atStart => exact ⟨(0), (by first | rfl | (simp; done) | (simp [*]; done)), H', ⟨Nat.le_refl _⟩, ⟨by (with_reducible repeat (first | apply Kd.R_alloc | apply Kd.R_drewN | apply Kd.R_drew)); exact HO318.out⟩, ⟨by (with_reducible repeat (first | apply Kd.R_alloc | apply Kd.R_drewN | apply Kd.R_drew)); exact HO318.out⟩, ⟨by (with_reducible repeat (first | refine blk_drewN ?_ _ | refine blk_drew ?_ | refine blk_alloc ?_ _)); exact BK313.out⟩, ⟨by repeat (first | (with_reducible first | exact HB.out | apply below_alloc | apply pw_below_drewN | apply below_drew1 | refine below_set ?_ GE313.out) | exact HB.out)⟩⟩
        case round =>
          clear H'
          try clear c1
          try clear p2
          try clear c3
          try clear c5
          try clear c5b0
          try clear c5b1
          try clear c6
          try clear c6b0
          try clear c6b1
          try clear p6
          try clear hcz12_0
          try clear hcz12_1
          try clear hcz12_2
          try clear hcz12_3
          try clear hcz12_4
          try clear hcz9_0
          try clear hcz9_1
          try clear hcz9_2
          try clear hcz9_3
          try clear hcz9_4
          try clear hfz12_0
          try clear hfz12_1
          try clear hfz12_2
          try clear hfz12_3
          try clear hfz12_4
          try clear hfz9_0
          try clear hfz9_1
          try clear hfz9_2
          try clear hfz9_3
          try clear hfz9_4
          obtain ⟨x42_1, rfl, HA, HK1, HO_3, HO_40, BK313, HB⟩ := hrel
          cases gk with
          | zero => exact absurd HA.out (by simp [colophonlaw13_OrderCuts.l0])
          | succ k1 =>
            have H := HA.out
            clear HA
            simp only [colophonlaw13_OrderCuts.l0] at H
            by_cases c13 : x42_1 < (t315.length : Int)
            · rw [if_pos c13] at H
              have c13b0 : decide (x42_1 < (t315.length : Int)) = true := decide_eq_true c13
              clear c13
              by_cases c14 : 0 ≤ x42_1
              · rw [if_pos c14] at H
                have c14b0 : decide (0 ≤ x42_1) = true := decide_eq_true c14
                clear c14
                by_cases c15 : x42_1 < (t315.length : Int)
                · rw [if_pos c15] at H
                  have c15b0 : decide (x42_1 < (t315.length : Int)) = true := decide_eq_true c15
                  clear c15
                  obtain ⟨ji16, hji16⟩ : ∃ j_ : Int, (wrap64 (a0_3 + x42_1)) = j_ := ⟨_, rfl⟩
                  replace H : (if 0 ≤ (ji16) then (if (ji16) < (l0_1.length : Int) then (if (ji16) < (l0_0.length : Int) then (if (rd t315 x42_1) = (rd l0_1 (ji16)) then (colophonlaw13_OrderCuts.j1 k1 t315 x42_1 (rd t315 x42_1) (rd l0_1 (ji16)) (rd l0_0 (ji16)) t315 (t315.length : Int) x42_1 false l0_0 l0_1 a0_2 a0_3 a0_4) else (if (rd t315 x42_1) = a0_2 then (colophonlaw13_OrderCuts.j1 k1 t315 x42_1 (rd t315 x42_1) (rd l0_1 (ji16)) (rd l0_0 (ji16)) t315 (t315.length : Int) x42_1 (decide ((rd l0_1 (ji16)) < 0)) l0_0 l0_1 a0_2 a0_3 a0_4) else (colophonlaw13_OrderCuts.j1 k1 t315 x42_1 (rd t315 x42_1) (rd l0_1 (ji16)) (rd l0_0 (ji16)) t315 (t315.length : Int) x42_1 true l0_0 l0_1 a0_2 a0_3 a0_4))) else (none)) else (none)) else (none)) = some r := by first | (rw [hji16] at H; exact H) | (simp only [hji16] at H ⊢; exact H)
                  have hji16w : (IntKind.i64.wrap (a0_3 + x42_1)) = ji16 := (i64_w _).trans hji16
                  by_cases c17 : 0 ≤ (ji16)
                  · rw [if_pos c17] at H
                    have c17b0 : decide (0 ≤ (ji16)) = true := decide_eq_true c17
                    clear c17
                    by_cases c18 : (ji16) < (l0_1.length : Int)
                    · rw [if_pos c18] at H
                      have c18b0 : decide ((ji16) < (l0_1.length : Int)) = true := decide_eq_true c18
                      clear c18
                      by_cases c19 : (ji16) < (l0_0.length : Int)
                      · rw [if_pos c19] at H
                        have c19b0 : decide ((ji16) < (l0_0.length : Int)) = true := decide_eq_true c19
                        clear c19
                        have HC20 := Aside0.mk H
                        clear H
                        have p319 : 0 ≤ (x42_1 : Int) := of_decide_eq_true (by first | (with_reducible assumption) | assumption)
                        have q319 : x42_1 < (t315.length : Int) := of_decide_eq_true (by first | (with_reducible assumption) | assumption)
                        obtain ⟨ad319, e319, hx319_0⟩ := Kd.at_int (Kd.R_reads' HO_40.out).2.2 x42_1 p319 q319
                        cases e319
                        replace p319 := eq_true p319
                        replace q319 := eq_true q319
                        have hcz21_0 : wr.cell? ⟨gb313, 0, none⟩ = some (.slice A0_0 l0_0.length c0_0) := (blk_cell BK313.out 0).trans rfl
                        have hcz21_1 : wr.cell? ⟨gb313, 1, none⟩ = some (.slice A0_1 l0_1.length c0_1) := (blk_cell BK313.out 1).trans rfl
                        have hcz21_2 : wr.cell? ⟨gb313, 2, none⟩ = some (.int .i64 a0_2) := (blk_cell BK313.out 2).trans rfl
                        have hcz21_3 : wr.cell? ⟨gb313, 3, none⟩ = some (.int .i64 a0_3) := (blk_cell BK313.out 3).trans rfl
                        have hcz21_4 : wr.cell? ⟨gb313, 4, none⟩ = some (.int .i64 a0_4) := (blk_cell BK313.out 4).trans rfl
                        have hfz21_0 := blk_frozen BK313.out 0
                        have hfz21_1 := blk_frozen BK313.out 1
                        have hfz21_2 := blk_frozen BK313.out 2
                        have hfz21_3 := blk_frozen BK313.out 3
                        have hfz21_4 := blk_frozen BK313.out 4
                        have p320 : 0 ≤ ((ji16) : Int) := of_decide_eq_true (by first | (with_reducible assumption) | assumption)
                        have q320 : (ji16) < (l0_1.length : Int) := of_decide_eq_true (by first | (with_reducible assumption) | assumption)
                        obtain ⟨ad320, e320, hx320_0⟩ := Kd.at_int HR0_1.out (ji16) p320 q320
                        cases e320
                        replace hx320_0 := (HB.out.cell (World.block_lt_of_cell? w _ hx320_0)).trans hx320_0
                        replace p320 := eq_true p320
                        replace q320 := eq_true q320
                        have p321 : 0 ≤ ((ji16) : Int) := of_decide_eq_true (by first | (with_reducible assumption) | assumption)
                        have q321 : (ji16) < (l0_0.length : Int) := of_decide_eq_true (by first | (with_reducible assumption) | assumption)
                        obtain ⟨ad321, e321, hx321_0⟩ := Kd.at_int HR0_0.out (ji16) p321 q321
                        cases e321
                        replace hx321_0 := (HB.out.cell (World.block_lt_of_cell? w _ hx321_0)).trans hx321_0
                        replace p321 := eq_true p321
                        replace q321 := eq_true q321
                        go_upto_region 12 with (fail)
                        repeat (go_quiet (fail); go_upto_region 12 with (fail))
                        go_cut [75] (fun v75 wc => ∃ (kq : Nat) (x75_19 : Bool), v75 = .bool x75_19 ∧ Aside0 (colophonlaw13_OrderCuts.j1 kq t315 x42_1 (rd t315 x42_1) (rd l0_1 (ji16)) (rd l0_0 (ji16)) t315 (t315.length : Int) x42_1 x75_19 l0_0 l0_1 a0_2 a0_3 a0_4 = some r) ∧ Aside0 (kq ≤ k1) ∧ Aside0 (Kd.R (Kd.int .i64) 3 wc w.heap.size (fun _ => True) (.slice (some ad319) t315.length co11) t315) ∧ Aside0 (Kd.R (Kd.int .i64) 3 wc w.heap.size (fun _ => True) (.slice (some ad319) t315.length co11) t315) ∧ Aside0 (wc.heap[gb313]? = some (.cells #[(.slice (some ad321) l0_0.length c0_0), (.slice (some ad320) l0_1.length c0_1), .int .i64 a0_2, .int .i64 a0_3, .int .i64 a0_4] 60 (0, 0))) ∧ Aside0 (Below w.heap.size w wc))
                        case first =>
                          have H := HC20.out
                          clear HC20
                          by_cases c22 : (rd t315 x42_1) = (rd l0_1 (ji16))
                          · rw [if_pos c22] at H
                            have c22b0 : ((rd t315 x42_1) == (rd l0_1 (ji16))) = true := beq_iff_eq.mpr c22
                            have c22b1 : ((rd t315 x42_1) != (rd l0_1 (ji16))) = false := bne_eq_false_iff_eq.mpr c22
                            clear c22
                            (first | rw [c22b0] | (simp only [i64_w, i32_w]; rw [c22b0]) | skip)
                            have H' := Aside0.mk H
                            clear H
                            go_wp2
                            repeat (go_quiet (fail); try go_wp2)
                            go_meet
                            case rel => exact ⟨_, (false), (by first | rfl | (simp; done) | (simp [*]; done)), H', ⟨by have := HK1.out; first | omega | exact Nat.le_refl _⟩, ⟨by (with_reducible repeat (first | apply Kd.R_alloc | apply Kd.R_drewN | apply Kd.R_drew)); exact HO_3.out⟩, ⟨by (with_reducible repeat (first | apply Kd.R_alloc | apply Kd.R_drewN | apply Kd.R_drew)); exact HO_40.out⟩, ⟨by (with_reducible repeat (first | refine blk_drewN ?_ _ | refine blk_drew ?_ | refine blk_alloc ?_ _)); exact BK313.out⟩, ⟨by repeat (first | (with_reducible first | exact HB.out | apply below_alloc | apply pw_below_drewN | apply below_drew1 | refine below_set ?_ GE313.out) | exact HB.out)⟩⟩
                          · rw [if_neg c22] at H
                            have c22b0 : ((rd t315 x42_1) == (rd l0_1 (ji16))) = false := beq_eq_false_iff_ne.mpr c22
                            have c22b1 : ((rd t315 x42_1) != (rd l0_1 (ji16))) = true := bne_iff_ne.mpr c22
                            (first | rw [c22b0] | (simp only [i64_w, i32_w]; rw [c22b0]) | skip)
                            by_cases c23 : (rd t315 x42_1) = a0_2
                            · rw [if_pos c23] at H
                              have c23b0 : ((rd t315 x42_1) == a0_2) = true := beq_iff_eq.mpr c23
                              have c23b1 : ((rd t315 x42_1) != a0_2) = false := bne_eq_false_iff_eq.mpr c23
                              clear c23
                              have H' := Aside0.mk H
                              clear H
                              have hcz24_0 : wr.cell? ⟨gb313, 0, none⟩ = some (.slice (some ad321) l0_0.length c0_0) := (blk_cell BK313.out 0).trans rfl
                              have hcz24_1 : wr.cell? ⟨gb313, 1, none⟩ = some (.slice (some ad320) l0_1.length c0_1) := (blk_cell BK313.out 1).trans rfl
                              have hcz24_2 : wr.cell? ⟨gb313, 2, none⟩ = some (.int .i64 a0_2) := (blk_cell BK313.out 2).trans rfl
                              have hcz24_3 : wr.cell? ⟨gb313, 3, none⟩ = some (.int .i64 a0_3) := (blk_cell BK313.out 3).trans rfl
                              have hcz24_4 : wr.cell? ⟨gb313, 4, none⟩ = some (.int .i64 a0_4) := (blk_cell BK313.out 4).trans rfl
                              have hfz24_0 := blk_frozen BK313.out 0
                              have hfz24_1 := blk_frozen BK313.out 1
                              have hfz24_2 := blk_frozen BK313.out 2
                              have hfz24_3 := blk_frozen BK313.out 3
                              have hfz24_4 := blk_frozen BK313.out 4
                              go_wp2
                              repeat (go_quiet (fail); try go_wp2)
                              go_meet
                              case rel => exact ⟨_, (decide ((rd l0_1 (ji16)) < 0)), (by first | rfl | (simp; done) | (simp only [← hji16] <;> (first | rfl | simp)) | (simp [*]; done)), H', ⟨by have := HK1.out; first | omega | exact Nat.le_refl _⟩, ⟨by (with_reducible repeat (first | apply Kd.R_alloc | apply Kd.R_drewN | apply Kd.R_drew)); exact HO_3.out⟩, ⟨by (with_reducible repeat (first | apply Kd.R_alloc | apply Kd.R_drewN | apply Kd.R_drew)); exact HO_40.out⟩, ⟨by (with_reducible repeat (first | refine blk_drewN ?_ _ | refine blk_drew ?_ | refine blk_alloc ?_ _)); exact BK313.out⟩, ⟨by repeat (first | (with_reducible first | exact HB.out | apply below_alloc | apply pw_below_drewN | apply below_drew1 | refine below_set ?_ GE313.out) | exact HB.out)⟩⟩
                            · rw [if_neg c23] at H
                              have c23b0 : ((rd t315 x42_1) == a0_2) = false := beq_eq_false_iff_ne.mpr c23
                              have c23b1 : ((rd t315 x42_1) != a0_2) = true := bne_iff_ne.mpr c23
                              have H' := Aside0.mk H
                              clear H
                              have hcz25_0 : wr.cell? ⟨gb313, 0, none⟩ = some (.slice (some ad321) l0_0.length c0_0) := (blk_cell BK313.out 0).trans rfl
                              have hcz25_1 : wr.cell? ⟨gb313, 1, none⟩ = some (.slice (some ad320) l0_1.length c0_1) := (blk_cell BK313.out 1).trans rfl
                              have hcz25_2 : wr.cell? ⟨gb313, 2, none⟩ = some (.int .i64 a0_2) := (blk_cell BK313.out 2).trans rfl
                              have hcz25_3 : wr.cell? ⟨gb313, 3, none⟩ = some (.int .i64 a0_3) := (blk_cell BK313.out 3).trans rfl
                              have hcz25_4 : wr.cell? ⟨gb313, 4, none⟩ = some (.int .i64 a0_4) := (blk_cell BK313.out 4).trans rfl
                              have hfz25_0 := blk_frozen BK313.out 0
                              have hfz25_1 := blk_frozen BK313.out 1
                              have hfz25_2 := blk_frozen BK313.out 2
                              have hfz25_3 := blk_frozen BK313.out 3
                              have hfz25_4 := blk_frozen BK313.out 4
                              go_wp2
                              repeat (go_quiet (fail); try go_wp2)
                              go_meet
                              case rel => exact ⟨_, (true), (by first | rfl | (simp; done) | (simp [*]; done)), H', ⟨by have := HK1.out; first | omega | exact Nat.le_refl _⟩, ⟨by (with_reducible repeat (first | apply Kd.R_alloc | apply Kd.R_drewN | apply Kd.R_drew)); exact HO_3.out⟩, ⟨by (with_reducible repeat (first | apply Kd.R_alloc | apply Kd.R_drewN | apply Kd.R_drew)); exact HO_40.out⟩, ⟨by (with_reducible repeat (first | refine blk_drewN ?_ _ | refine blk_drew ?_ | refine blk_alloc ?_ _)); exact BK313.out⟩, ⟨by repeat (first | (with_reducible first | exact HB.out | apply below_alloc | apply pw_below_drewN | apply below_drew1 | refine below_set ?_ GE313.out) | exact HB.out)⟩⟩
                        case rest =>
                          clear HC20
                          try clear c1
                          try clear c2
                          try clear p2
                          try clear c3
                          try clear p3
                          try clear q3
                          try clear hx3
                          try clear c5
                          try clear c5b0
                          try clear c5b1
                          try clear c6
                          try clear c6b0
                          try clear c6b1
                          try clear p6
                          try clear c13
                          try clear c13b0
                          try clear c14
                          try clear c14b0
                          try clear c15
                          try clear c15b0
                          try clear c17
                          try clear c17b0
                          try clear c18
                          try clear c18b0
                          try clear c19
                          try clear c19b0
                          try clear c22
                          try clear c22b0
                          try clear c22b1
                          try clear c23
                          try clear c23b0
                          try clear c23b1
                          try clear hcz12_0
                          try clear hcz12_1
                          try clear hcz12_2
                          try clear hcz12_3
                          try clear hcz12_4
                          try clear hcz21_0
                          try clear hcz21_1
                          try clear hcz21_2
                          try clear hcz21_3
                          try clear hcz21_4
                          try clear hcz24_0
                          try clear hcz24_1
                          try clear hcz24_2
                          try clear hcz24_3
                          try clear hcz24_4
                          try clear hcz25_0
                          try clear hcz25_1
                          try clear hcz25_2
                          try clear hcz25_3
                          try clear hcz25_4
                          try clear hcz9_0
                          try clear hcz9_1
                          try clear hcz9_2
                          try clear hcz9_3
                          try clear hcz9_4
                          try clear hfz12_0
                          try clear hfz12_1
                          try clear hfz12_2
                          try clear hfz12_3
                          try clear hfz12_4
                          try clear hfz21_0
                          try clear hfz21_1
                          try clear hfz21_2
                          try clear hfz21_3
                          try clear hfz21_4
                          try clear hfz24_0
                          try clear hfz24_1
                          try clear hfz24_2
                          try clear hfz24_3
                          try clear hfz24_4
                          try clear hfz25_0
                          try clear hfz25_1
                          try clear hfz25_2
                          try clear hfz25_3
                          try clear hfz25_4
                          try clear hfz9_0
                          try clear hfz9_1
                          try clear hfz9_2
                          try clear hfz9_3
                          try clear hfz9_4
                          try clear hx319_0
                          try clear hx320_0
                          try clear hx321_0
                          try clear p2
                          try clear p319
                          try clear p320
                          try clear p321
                          try clear p6
                          try clear q319
                          try clear q320
                          try clear q321
                          obtain ⟨kq, x75_19, rfl, HA, HJ19, HO_3, HO_40, BK313, HB⟩ := hcut
                          cases kq with
                          | zero => exact absurd HA.out (by simp [colophonlaw13_OrderCuts.j1])
                          | succ kj19 =>
                            have H := HA.out
                            clear HA
                            simp only [colophonlaw13_OrderCuts.j1] at H
                            by_cases c26 : x75_19 = true
                            · subst c26
                              have H1 : (some false) = some r := by rw [if_pos rfl] at H; exact H
                              clear H
                              have H := H1
                              clear H1
                              obtain rfl := Option.some.inj H
                              go_wp2
                              repeat (go_quiet (fail); try go_wp2)
                              go_ret
                              exact ⟨by first | rfl | (simp [errW_none, errW_some] <;> rfl) | (simp only [← hji16]; first | rfl | (simp [errW_none, errW_some] <;> rfl)) | (simp [*, errW_none, errW_some] <;> rfl), by repeat (first | (with_reducible first | exact HB.out | apply below_alloc | apply pw_below_drewN | apply below_drew1 | refine below_set ?_ GE313.out) | exact HB.out)⟩
                            · replace c26 := Bool.eq_false_iff.mpr c26
                              subst c26
                              have H1 : (if (rd l0_0 (ji16)) = 13 then (if (rd l0_0 (ji16)) = 12 then (if (rd l0_1 (ji16)) ≥ 0 then (if (rd t315 x42_1) = a0_2 then (if x42_1 = (wrap64 ((t315.length : Int) - 1)) then (colophonlaw13_OrderCuts.l0 kj19 t315 t315 (t315.length : Int) (wrap64 (x42_1 + 1)) l0_0 l0_1 a0_2 a0_3 a0_4) else (colophonlaw13_OrderCuts.l0 kj19 t315 t315 (t315.length : Int) (wrap64 (x42_1 + 1)) l0_0 l0_1 a0_2 a0_3 a0_4)) else (some false)) else (if x42_1 = (wrap64 ((t315.length : Int) - 1)) then (colophonlaw13_OrderCuts.l0 kj19 t315 t315 (t315.length : Int) (wrap64 (x42_1 + 1)) l0_0 l0_1 a0_2 a0_3 a0_4) else (colophonlaw13_OrderCuts.l0 kj19 t315 t315 (t315.length : Int) (wrap64 (x42_1 + 1)) l0_0 l0_1 a0_2 a0_3 a0_4))) else (if (rd l0_0 (ji16)) = 11 then (if (rd l0_1 (ji16)) ≥ 0 then (if (rd t315 x42_1) = a0_2 then (if x42_1 = (wrap64 ((t315.length : Int) - 1)) then (colophonlaw13_OrderCuts.l0 kj19 t315 t315 (t315.length : Int) (wrap64 (x42_1 + 1)) l0_0 l0_1 a0_2 a0_3 a0_4) else (colophonlaw13_OrderCuts.l0 kj19 t315 t315 (t315.length : Int) (wrap64 (x42_1 + 1)) l0_0 l0_1 a0_2 a0_3 a0_4)) else (some false)) else (if x42_1 = (wrap64 ((t315.length : Int) - 1)) then (colophonlaw13_OrderCuts.l0 kj19 t315 t315 (t315.length : Int) (wrap64 (x42_1 + 1)) l0_0 l0_1 a0_2 a0_3 a0_4) else (colophonlaw13_OrderCuts.l0 kj19 t315 t315 (t315.length : Int) (wrap64 (x42_1 + 1)) l0_0 l0_1 a0_2 a0_3 a0_4))) else (if x42_1 = (wrap64 ((t315.length : Int) - 1)) then (if (rd l0_1 (ji16)) ≥ 0 then (if (rd t315 x42_1) = a0_2 then (colophonlaw13_OrderCuts.l0 kj19 t315 t315 (t315.length : Int) (wrap64 (x42_1 + 1)) l0_0 l0_1 a0_2 a0_3 a0_4) else (some false)) else (colophonlaw13_OrderCuts.l0 kj19 t315 t315 (t315.length : Int) (wrap64 (x42_1 + 1)) l0_0 l0_1 a0_2 a0_3 a0_4)) else (colophonlaw13_OrderCuts.l0 kj19 t315 t315 (t315.length : Int) (wrap64 (x42_1 + 1)) l0_0 l0_1 a0_2 a0_3 a0_4)))) else (if (rd l0_0 (ji16)) ≥ 20 then (if (rd l0_0 (ji16)) = 12 then (if (rd l0_0 (ji16)) ≤ 23 then (if (rd l0_1 (ji16)) ≥ 0 then (if (rd t315 x42_1) = a0_2 then (if x42_1 = (wrap64 ((t315.length : Int) - 1)) then (colophonlaw13_OrderCuts.l0 kj19 t315 t315 (t315.length : Int) (wrap64 (x42_1 + 1)) l0_0 l0_1 a0_2 a0_3 a0_4) else (colophonlaw13_OrderCuts.l0 kj19 t315 t315 (t315.length : Int) (wrap64 (x42_1 + 1)) l0_0 l0_1 a0_2 a0_3 a0_4)) else (some false)) else (if x42_1 = (wrap64 ((t315.length : Int) - 1)) then (colophonlaw13_OrderCuts.l0 kj19 t315 t315 (t315.length : Int) (wrap64 (x42_1 + 1)) l0_0 l0_1 a0_2 a0_3 a0_4) else (colophonlaw13_OrderCuts.l0 kj19 t315 t315 (t315.length : Int) (wrap64 (x42_1 + 1)) l0_0 l0_1 a0_2 a0_3 a0_4))) else (if (rd l0_1 (ji16)) ≥ 0 then (if (rd t315 x42_1) = a0_2 then (colophonlaw13_OrderCuts.l0 kj19 t315 t315 (t315.length : Int) (wrap64 (x42_1 + 1)) l0_0 l0_1 a0_2 a0_3 a0_4) else (some false)) else (colophonlaw13_OrderCuts.l0 kj19 t315 t315 (t315.length : Int) (wrap64 (x42_1 + 1)) l0_0 l0_1 a0_2 a0_3 a0_4))) else (if (rd l0_0 (ji16)) ≤ 23 then (if (rd l0_0 (ji16)) = 11 then (if (rd l0_1 (ji16)) ≥ 0 then (if (rd t315 x42_1) = a0_2 then (if x42_1 = (wrap64 ((t315.length : Int) - 1)) then (colophonlaw13_OrderCuts.l0 kj19 t315 t315 (t315.length : Int) (wrap64 (x42_1 + 1)) l0_0 l0_1 a0_2 a0_3 a0_4) else (colophonlaw13_OrderCuts.l0 kj19 t315 t315 (t315.length : Int) (wrap64 (x42_1 + 1)) l0_0 l0_1 a0_2 a0_3 a0_4)) else (some false)) else (if x42_1 = (wrap64 ((t315.length : Int) - 1)) then (colophonlaw13_OrderCuts.l0 kj19 t315 t315 (t315.length : Int) (wrap64 (x42_1 + 1)) l0_0 l0_1 a0_2 a0_3 a0_4) else (colophonlaw13_OrderCuts.l0 kj19 t315 t315 (t315.length : Int) (wrap64 (x42_1 + 1)) l0_0 l0_1 a0_2 a0_3 a0_4))) else (if x42_1 = (wrap64 ((t315.length : Int) - 1)) then (if (rd l0_1 (ji16)) ≥ 0 then (if (rd t315 x42_1) = a0_2 then (colophonlaw13_OrderCuts.l0 kj19 t315 t315 (t315.length : Int) (wrap64 (x42_1 + 1)) l0_0 l0_1 a0_2 a0_3 a0_4) else (some false)) else (colophonlaw13_OrderCuts.l0 kj19 t315 t315 (t315.length : Int) (wrap64 (x42_1 + 1)) l0_0 l0_1 a0_2 a0_3 a0_4)) else (colophonlaw13_OrderCuts.l0 kj19 t315 t315 (t315.length : Int) (wrap64 (x42_1 + 1)) l0_0 l0_1 a0_2 a0_3 a0_4))) else (if (rd l0_0 (ji16)) = 11 then (if (rd l0_1 (ji16)) ≥ 0 then (if (rd t315 x42_1) = a0_2 then (colophonlaw13_OrderCuts.l0 kj19 t315 t315 (t315.length : Int) (wrap64 (x42_1 + 1)) l0_0 l0_1 a0_2 a0_3 a0_4) else (some false)) else (colophonlaw13_OrderCuts.l0 kj19 t315 t315 (t315.length : Int) (wrap64 (x42_1 + 1)) l0_0 l0_1 a0_2 a0_3 a0_4)) else (if (rd t315 x42_1) = (rd l0_1 (ji16)) then (colophonlaw13_OrderCuts.l0 kj19 t315 t315 (t315.length : Int) (wrap64 (x42_1 + 1)) l0_0 l0_1 a0_2 a0_3 a0_4) else (some false))))) else (if (rd l0_0 (ji16)) = 12 then (if (rd l0_1 (ji16)) ≥ 0 then (if (rd t315 x42_1) = a0_2 then (colophonlaw13_OrderCuts.l0 kj19 t315 t315 (t315.length : Int) (wrap64 (x42_1 + 1)) l0_0 l0_1 a0_2 a0_3 a0_4) else (some false)) else (colophonlaw13_OrderCuts.l0 kj19 t315 t315 (t315.length : Int) (wrap64 (x42_1 + 1)) l0_0 l0_1 a0_2 a0_3 a0_4)) else (if (rd l0_0 (ji16)) = 11 then (if (rd l0_1 (ji16)) ≥ 0 then (if (rd t315 x42_1) = a0_2 then (colophonlaw13_OrderCuts.l0 kj19 t315 t315 (t315.length : Int) (wrap64 (x42_1 + 1)) l0_0 l0_1 a0_2 a0_3 a0_4) else (some false)) else (colophonlaw13_OrderCuts.l0 kj19 t315 t315 (t315.length : Int) (wrap64 (x42_1 + 1)) l0_0 l0_1 a0_2 a0_3 a0_4)) else (if (rd t315 x42_1) = (rd l0_1 (ji16)) then (colophonlaw13_OrderCuts.l0 kj19 t315 t315 (t315.length : Int) (wrap64 (x42_1 + 1)) l0_0 l0_1 a0_2 a0_3 a0_4) else (some false)))))) = some r := by rw [if_neg (show ¬ (false = true) by decide)] at H; exact H
                              clear H
                              have H := H1
                              clear H1
                              by_cases c27 : (rd l0_0 (ji16)) = 13
                              · rw [if_pos c27] at H
                                have c27b0 : ((rd l0_0 (ji16)) == 13) = true := beq_iff_eq.mpr c27
                                have c27b1 : ((rd l0_0 (ji16)) != 13) = false := bne_eq_false_iff_eq.mpr c27
                                clear c27
                                by_cases c28 : (rd l0_0 (ji16)) = 12
                                · rw [if_pos c28] at H
                                  have c28b0 : ((rd l0_0 (ji16)) == 12) = true := beq_iff_eq.mpr c28
                                  have c28b1 : ((rd l0_0 (ji16)) != 12) = false := bne_eq_false_iff_eq.mpr c28
                                  clear c28
                                  by_cases c29 : (rd l0_1 (ji16)) ≥ 0
                                  · rw [if_pos c29] at H
                                    have c29b0 : decide (0 ≤ (rd l0_1 (ji16))) = true := decide_eq_true c29
                                    clear c29
                                    by_cases c30 : (rd t315 x42_1) = a0_2
                                    · rw [if_pos c30] at H
                                      have c30b0 : ((rd t315 x42_1) == a0_2) = true := beq_iff_eq.mpr c30
                                      have c30b1 : ((rd t315 x42_1) != a0_2) = false := bne_eq_false_iff_eq.mpr c30
                                      clear c30
                                      by_cases c31 : x42_1 = (wrap64 ((t315.length : Int) - 1))
                                      · rw [if_pos c31] at H
                                        have c31b0 : (x42_1 == (wrap64 ((t315.length : Int) - 1))) = true := beq_iff_eq.mpr c31
                                        have c31b1 : (x42_1 != (wrap64 ((t315.length : Int) - 1))) = false := bne_eq_false_iff_eq.mpr c31
                                        clear c31
                                        have H' := Aside0.mk H
                                        clear H
                                        have hcz32_0 : wc.cell? ⟨gb313, 0, none⟩ = some (.slice (some ad321) l0_0.length c0_0) := (blk_cell BK313.out 0).trans rfl
                                        have hcz32_1 : wc.cell? ⟨gb313, 1, none⟩ = some (.slice (some ad320) l0_1.length c0_1) := (blk_cell BK313.out 1).trans rfl
                                        have hcz32_2 : wc.cell? ⟨gb313, 2, none⟩ = some (.int .i64 a0_2) := (blk_cell BK313.out 2).trans rfl
                                        have hcz32_3 : wc.cell? ⟨gb313, 3, none⟩ = some (.int .i64 a0_3) := (blk_cell BK313.out 3).trans rfl
                                        have hcz32_4 : wc.cell? ⟨gb313, 4, none⟩ = some (.int .i64 a0_4) := (blk_cell BK313.out 4).trans rfl
                                        have hfz32_0 := blk_frozen BK313.out 0
                                        have hfz32_1 := blk_frozen BK313.out 1
                                        have hfz32_2 := blk_frozen BK313.out 2
                                        have hfz32_3 := blk_frozen BK313.out 3
                                        have hfz32_4 := blk_frozen BK313.out 4
                                        go_wp2
                                        repeat (go_quiet (fail); try go_wp2)
                                        go_roundg kj19
                                        case measure => have := HK1.out; have := HJ19.out; omega
                                        case rel => exact ⟨(wrap64 (x42_1 + 1)), (by first | rfl | (simp; done) | (simp [*]; done)), H', ⟨by have := HK1.out; have := HJ19.out; omega⟩, ⟨by (with_reducible repeat (first | apply Kd.R_alloc | apply Kd.R_drewN | apply Kd.R_drew)); exact HO_3.out⟩, ⟨by (with_reducible repeat (first | apply Kd.R_alloc | apply Kd.R_drewN | apply Kd.R_drew)); exact HO_40.out⟩, ⟨by (with_reducible repeat (first | refine blk_drewN ?_ _ | refine blk_drew ?_ | refine blk_alloc ?_ _)); exact BK313.out⟩, ⟨by repeat (first | (with_reducible first | exact HB.out | apply below_alloc | apply pw_below_drewN | apply below_drew1 | refine below_set ?_ GE313.out) | exact HB.out)⟩⟩
                                      · rw [if_neg c31] at H
                                        have c31b0 : (x42_1 == (wrap64 ((t315.length : Int) - 1))) = false := beq_eq_false_iff_ne.mpr c31
                                        have c31b1 : (x42_1 != (wrap64 ((t315.length : Int) - 1))) = true := bne_iff_ne.mpr c31
                                        have H' := Aside0.mk H
                                        clear H
                                        have hcz33_0 : wc.cell? ⟨gb313, 0, none⟩ = some (.slice (some ad321) l0_0.length c0_0) := (blk_cell BK313.out 0).trans rfl
                                        have hcz33_1 : wc.cell? ⟨gb313, 1, none⟩ = some (.slice (some ad320) l0_1.length c0_1) := (blk_cell BK313.out 1).trans rfl
                                        have hcz33_2 : wc.cell? ⟨gb313, 2, none⟩ = some (.int .i64 a0_2) := (blk_cell BK313.out 2).trans rfl
                                        have hcz33_3 : wc.cell? ⟨gb313, 3, none⟩ = some (.int .i64 a0_3) := (blk_cell BK313.out 3).trans rfl
                                        have hcz33_4 : wc.cell? ⟨gb313, 4, none⟩ = some (.int .i64 a0_4) := (blk_cell BK313.out 4).trans rfl
                                        have hfz33_0 := blk_frozen BK313.out 0
                                        have hfz33_1 := blk_frozen BK313.out 1
                                        have hfz33_2 := blk_frozen BK313.out 2
                                        have hfz33_3 := blk_frozen BK313.out 3
                                        have hfz33_4 := blk_frozen BK313.out 4
                                        go_wp2
                                        repeat (go_quiet (fail); try go_wp2)
                                        go_roundg kj19
                                        case measure => have := HK1.out; have := HJ19.out; omega
                                        case rel => exact ⟨(wrap64 (x42_1 + 1)), (by first | rfl | (simp; done) | (simp [*]; done)), H', ⟨by have := HK1.out; have := HJ19.out; omega⟩, ⟨by (with_reducible repeat (first | apply Kd.R_alloc | apply Kd.R_drewN | apply Kd.R_drew)); exact HO_3.out⟩, ⟨by (with_reducible repeat (first | apply Kd.R_alloc | apply Kd.R_drewN | apply Kd.R_drew)); exact HO_40.out⟩, ⟨by (with_reducible repeat (first | refine blk_drewN ?_ _ | refine blk_drew ?_ | refine blk_alloc ?_ _)); exact BK313.out⟩, ⟨by repeat (first | (with_reducible first | exact HB.out | apply below_alloc | apply pw_below_drewN | apply below_drew1 | refine below_set ?_ GE313.out) | exact HB.out)⟩⟩
                                    · rw [if_neg c30] at H
                                      have c30b0 : ((rd t315 x42_1) == a0_2) = false := beq_eq_false_iff_ne.mpr c30
                                      have c30b1 : ((rd t315 x42_1) != a0_2) = true := bne_iff_ne.mpr c30
                                      obtain rfl := Option.some.inj H
                                      have hcz34_0 : wc.cell? ⟨gb313, 0, none⟩ = some (.slice (some ad321) l0_0.length c0_0) := (blk_cell BK313.out 0).trans rfl
                                      have hcz34_1 : wc.cell? ⟨gb313, 1, none⟩ = some (.slice (some ad320) l0_1.length c0_1) := (blk_cell BK313.out 1).trans rfl
                                      have hcz34_2 : wc.cell? ⟨gb313, 2, none⟩ = some (.int .i64 a0_2) := (blk_cell BK313.out 2).trans rfl
                                      have hcz34_3 : wc.cell? ⟨gb313, 3, none⟩ = some (.int .i64 a0_3) := (blk_cell BK313.out 3).trans rfl
                                      have hcz34_4 : wc.cell? ⟨gb313, 4, none⟩ = some (.int .i64 a0_4) := (blk_cell BK313.out 4).trans rfl
                                      have hfz34_0 := blk_frozen BK313.out 0
                                      have hfz34_1 := blk_frozen BK313.out 1
                                      have hfz34_2 := blk_frozen BK313.out 2
                                      have hfz34_3 := blk_frozen BK313.out 3
                                      have hfz34_4 := blk_frozen BK313.out 4
                                      go_wp2
                                      repeat (go_quiet (fail); try go_wp2)
                                      go_ret
                                      exact ⟨by first | rfl | (simp [errW_none, errW_some] <;> rfl) | (simp only [← hji16]; first | rfl | (simp [errW_none, errW_some] <;> rfl)) | (simp [*, errW_none, errW_some] <;> rfl), by repeat (first | (with_reducible first | exact HB.out | apply below_alloc | apply pw_below_drewN | apply below_drew1 | refine below_set ?_ GE313.out) | exact HB.out)⟩
                                  · rw [if_neg c29] at H
                                    have c29b0 : decide (0 ≤ (rd l0_1 (ji16))) = false := decide_eq_false c29
                                    clear c29
                                    by_cases c35 : x42_1 = (wrap64 ((t315.length : Int) - 1))
                                    · rw [if_pos c35] at H
                                      have c35b0 : (x42_1 == (wrap64 ((t315.length : Int) - 1))) = true := beq_iff_eq.mpr c35
                                      have c35b1 : (x42_1 != (wrap64 ((t315.length : Int) - 1))) = false := bne_eq_false_iff_eq.mpr c35
                                      clear c35
                                      have H' := Aside0.mk H
                                      clear H
                                      go_wp2
                                      repeat (go_quiet (fail); try go_wp2)
                                      go_roundg kj19
                                      case measure => have := HK1.out; have := HJ19.out; omega
                                      case rel => exact ⟨(wrap64 (x42_1 + 1)), (by first | rfl | (simp; done) | (simp [*]; done)), H', ⟨by have := HK1.out; have := HJ19.out; omega⟩, ⟨by (with_reducible repeat (first | apply Kd.R_alloc | apply Kd.R_drewN | apply Kd.R_drew)); exact HO_3.out⟩, ⟨by (with_reducible repeat (first | apply Kd.R_alloc | apply Kd.R_drewN | apply Kd.R_drew)); exact HO_40.out⟩, ⟨by (with_reducible repeat (first | refine blk_drewN ?_ _ | refine blk_drew ?_ | refine blk_alloc ?_ _)); exact BK313.out⟩, ⟨by repeat (first | (with_reducible first | exact HB.out | apply below_alloc | apply pw_below_drewN | apply below_drew1 | refine below_set ?_ GE313.out) | exact HB.out)⟩⟩
                                    · rw [if_neg c35] at H
                                      have c35b0 : (x42_1 == (wrap64 ((t315.length : Int) - 1))) = false := beq_eq_false_iff_ne.mpr c35
                                      have c35b1 : (x42_1 != (wrap64 ((t315.length : Int) - 1))) = true := bne_iff_ne.mpr c35
                                      have H' := Aside0.mk H
                                      clear H
                                      go_wp2
                                      repeat (go_quiet (fail); try go_wp2)
                                      go_roundg kj19
                                      case measure => have := HK1.out; have := HJ19.out; omega
                                      case rel => exact ⟨(wrap64 (x42_1 + 1)), (by first | rfl | (simp; done) | (simp [*]; done)), H', ⟨by have := HK1.out; have := HJ19.out; omega⟩, ⟨by (with_reducible repeat (first | apply Kd.R_alloc | apply Kd.R_drewN | apply Kd.R_drew)); exact HO_3.out⟩, ⟨by (with_reducible repeat (first | apply Kd.R_alloc | apply Kd.R_drewN | apply Kd.R_drew)); exact HO_40.out⟩, ⟨by (with_reducible repeat (first | refine blk_drewN ?_ _ | refine blk_drew ?_ | refine blk_alloc ?_ _)); exact BK313.out⟩, ⟨by repeat (first | (with_reducible first | exact HB.out | apply below_alloc | apply pw_below_drewN | apply below_drew1 | refine below_set ?_ GE313.out) | exact HB.out)⟩⟩
                                · rw [if_neg c28] at H
                                  have c28b0 : ((rd l0_0 (ji16)) == 12) = false := beq_eq_false_iff_ne.mpr c28
                                  have c28b1 : ((rd l0_0 (ji16)) != 12) = true := bne_iff_ne.mpr c28
                                  by_cases c36 : (rd l0_0 (ji16)) = 11
                                  · rw [if_pos c36] at H
                                    have c36b0 : ((rd l0_0 (ji16)) == 11) = true := beq_iff_eq.mpr c36
                                    have c36b1 : ((rd l0_0 (ji16)) != 11) = false := bne_eq_false_iff_eq.mpr c36
                                    clear c36
                                    by_cases c37 : (rd l0_1 (ji16)) ≥ 0
                                    · rw [if_pos c37] at H
                                      have c37b0 : decide (0 ≤ (rd l0_1 (ji16))) = true := decide_eq_true c37
                                      clear c37
                                      by_cases c38 : (rd t315 x42_1) = a0_2
                                      · rw [if_pos c38] at H
                                        have c38b0 : ((rd t315 x42_1) == a0_2) = true := beq_iff_eq.mpr c38
                                        have c38b1 : ((rd t315 x42_1) != a0_2) = false := bne_eq_false_iff_eq.mpr c38
                                        clear c38
                                        by_cases c39 : x42_1 = (wrap64 ((t315.length : Int) - 1))
                                        · rw [if_pos c39] at H
                                          have c39b0 : (x42_1 == (wrap64 ((t315.length : Int) - 1))) = true := beq_iff_eq.mpr c39
                                          have c39b1 : (x42_1 != (wrap64 ((t315.length : Int) - 1))) = false := bne_eq_false_iff_eq.mpr c39
                                          clear c39
                                          have H' := Aside0.mk H
                                          clear H
                                          have hcz40_0 : wc.cell? ⟨gb313, 0, none⟩ = some (.slice (some ad321) l0_0.length c0_0) := (blk_cell BK313.out 0).trans rfl
                                          have hcz40_1 : wc.cell? ⟨gb313, 1, none⟩ = some (.slice (some ad320) l0_1.length c0_1) := (blk_cell BK313.out 1).trans rfl
                                          have hcz40_2 : wc.cell? ⟨gb313, 2, none⟩ = some (.int .i64 a0_2) := (blk_cell BK313.out 2).trans rfl
                                          have hcz40_3 : wc.cell? ⟨gb313, 3, none⟩ = some (.int .i64 a0_3) := (blk_cell BK313.out 3).trans rfl
                                          have hcz40_4 : wc.cell? ⟨gb313, 4, none⟩ = some (.int .i64 a0_4) := (blk_cell BK313.out 4).trans rfl
                                          have hfz40_0 := blk_frozen BK313.out 0
                                          have hfz40_1 := blk_frozen BK313.out 1
                                          have hfz40_2 := blk_frozen BK313.out 2
                                          have hfz40_3 := blk_frozen BK313.out 3
                                          have hfz40_4 := blk_frozen BK313.out 4
                                          go_wp2
                                          repeat (go_quiet (fail); try go_wp2)
                                          go_roundg kj19
                                          case measure => have := HK1.out; have := HJ19.out; omega
                                          case rel => exact ⟨(wrap64 (x42_1 + 1)), (by first | rfl | (simp; done) | (simp [*]; done)), H', ⟨by have := HK1.out; have := HJ19.out; omega⟩, ⟨by (with_reducible repeat (first | apply Kd.R_alloc | apply Kd.R_drewN | apply Kd.R_drew)); exact HO_3.out⟩, ⟨by (with_reducible repeat (first | apply Kd.R_alloc | apply Kd.R_drewN | apply Kd.R_drew)); exact HO_40.out⟩, ⟨by (with_reducible repeat (first | refine blk_drewN ?_ _ | refine blk_drew ?_ | refine blk_alloc ?_ _)); exact BK313.out⟩, ⟨by repeat (first | (with_reducible first | exact HB.out | apply below_alloc | apply pw_below_drewN | apply below_drew1 | refine below_set ?_ GE313.out) | exact HB.out)⟩⟩
                                        · rw [if_neg c39] at H
                                          have c39b0 : (x42_1 == (wrap64 ((t315.length : Int) - 1))) = false := beq_eq_false_iff_ne.mpr c39
                                          have c39b1 : (x42_1 != (wrap64 ((t315.length : Int) - 1))) = true := bne_iff_ne.mpr c39
                                          have H' := Aside0.mk H
                                          clear H
                                          have hcz41_0 : wc.cell? ⟨gb313, 0, none⟩ = some (.slice (some ad321) l0_0.length c0_0) := (blk_cell BK313.out 0).trans rfl
                                          have hcz41_1 : wc.cell? ⟨gb313, 1, none⟩ = some (.slice (some ad320) l0_1.length c0_1) := (blk_cell BK313.out 1).trans rfl
                                          have hcz41_2 : wc.cell? ⟨gb313, 2, none⟩ = some (.int .i64 a0_2) := (blk_cell BK313.out 2).trans rfl
                                          have hcz41_3 : wc.cell? ⟨gb313, 3, none⟩ = some (.int .i64 a0_3) := (blk_cell BK313.out 3).trans rfl
                                          have hcz41_4 : wc.cell? ⟨gb313, 4, none⟩ = some (.int .i64 a0_4) := (blk_cell BK313.out 4).trans rfl
                                          have hfz41_0 := blk_frozen BK313.out 0
                                          have hfz41_1 := blk_frozen BK313.out 1
                                          have hfz41_2 := blk_frozen BK313.out 2
                                          have hfz41_3 := blk_frozen BK313.out 3
                                          have hfz41_4 := blk_frozen BK313.out 4
                                          go_wp2
                                          repeat (go_quiet (fail); try go_wp2)
                                          go_roundg kj19
                                          case measure => have := HK1.out; have := HJ19.out; omega
                                          case rel => exact ⟨(wrap64 (x42_1 + 1)), (by first | rfl | (simp; done) | (simp [*]; done)), H', ⟨by have := HK1.out; have := HJ19.out; omega⟩, ⟨by (with_reducible repeat (first | apply Kd.R_alloc | apply Kd.R_drewN | apply Kd.R_drew)); exact HO_3.out⟩, ⟨by (with_reducible repeat (first | apply Kd.R_alloc | apply Kd.R_drewN | apply Kd.R_drew)); exact HO_40.out⟩, ⟨by (with_reducible repeat (first | refine blk_drewN ?_ _ | refine blk_drew ?_ | refine blk_alloc ?_ _)); exact BK313.out⟩, ⟨by repeat (first | (with_reducible first | exact HB.out | apply below_alloc | apply pw_below_drewN | apply below_drew1 | refine below_set ?_ GE313.out) | exact HB.out)⟩⟩
                                      · rw [if_neg c38] at H
                                        have c38b0 : ((rd t315 x42_1) == a0_2) = false := beq_eq_false_iff_ne.mpr c38
                                        have c38b1 : ((rd t315 x42_1) != a0_2) = true := bne_iff_ne.mpr c38
                                        obtain rfl := Option.some.inj H
                                        have hcz42_0 : wc.cell? ⟨gb313, 0, none⟩ = some (.slice (some ad321) l0_0.length c0_0) := (blk_cell BK313.out 0).trans rfl
                                        have hcz42_1 : wc.cell? ⟨gb313, 1, none⟩ = some (.slice (some ad320) l0_1.length c0_1) := (blk_cell BK313.out 1).trans rfl
                                        have hcz42_2 : wc.cell? ⟨gb313, 2, none⟩ = some (.int .i64 a0_2) := (blk_cell BK313.out 2).trans rfl
                                        have hcz42_3 : wc.cell? ⟨gb313, 3, none⟩ = some (.int .i64 a0_3) := (blk_cell BK313.out 3).trans rfl
                                        have hcz42_4 : wc.cell? ⟨gb313, 4, none⟩ = some (.int .i64 a0_4) := (blk_cell BK313.out 4).trans rfl
                                        have hfz42_0 := blk_frozen BK313.out 0
                                        have hfz42_1 := blk_frozen BK313.out 1
                                        have hfz42_2 := blk_frozen BK313.out 2
                                        have hfz42_3 := blk_frozen BK313.out 3
                                        have hfz42_4 := blk_frozen BK313.out 4
                                        go_wp2
                                        repeat (go_quiet (fail); try go_wp2)
                                        go_ret
                                        exact ⟨by first | rfl | (simp [errW_none, errW_some] <;> rfl) | (simp only [← hji16]; first | rfl | (simp [errW_none, errW_some] <;> rfl)) | (simp [*, errW_none, errW_some] <;> rfl), by repeat (first | (with_reducible first | exact HB.out | apply below_alloc | apply pw_below_drewN | apply below_drew1 | refine below_set ?_ GE313.out) | exact HB.out)⟩
                                    · rw [if_neg c37] at H
                                      have c37b0 : decide (0 ≤ (rd l0_1 (ji16))) = false := decide_eq_false c37
                                      clear c37
                                      by_cases c43 : x42_1 = (wrap64 ((t315.length : Int) - 1))
                                      · rw [if_pos c43] at H
                                        have c43b0 : (x42_1 == (wrap64 ((t315.length : Int) - 1))) = true := beq_iff_eq.mpr c43
                                        have c43b1 : (x42_1 != (wrap64 ((t315.length : Int) - 1))) = false := bne_eq_false_iff_eq.mpr c43
                                        clear c43
                                        have H' := Aside0.mk H
                                        clear H
                                        go_wp2
                                        repeat (go_quiet (fail); try go_wp2)
                                        go_roundg kj19
                                        case measure => have := HK1.out; have := HJ19.out; omega
                                        case rel => exact ⟨(wrap64 (x42_1 + 1)), (by first | rfl | (simp; done) | (simp [*]; done)), H', ⟨by have := HK1.out; have := HJ19.out; omega⟩, ⟨by (with_reducible repeat (first | apply Kd.R_alloc | apply Kd.R_drewN | apply Kd.R_drew)); exact HO_3.out⟩, ⟨by (with_reducible repeat (first | apply Kd.R_alloc | apply Kd.R_drewN | apply Kd.R_drew)); exact HO_40.out⟩, ⟨by (with_reducible repeat (first | refine blk_drewN ?_ _ | refine blk_drew ?_ | refine blk_alloc ?_ _)); exact BK313.out⟩, ⟨by repeat (first | (with_reducible first | exact HB.out | apply below_alloc | apply pw_below_drewN | apply below_drew1 | refine below_set ?_ GE313.out) | exact HB.out)⟩⟩
                                      · rw [if_neg c43] at H
                                        have c43b0 : (x42_1 == (wrap64 ((t315.length : Int) - 1))) = false := beq_eq_false_iff_ne.mpr c43
                                        have c43b1 : (x42_1 != (wrap64 ((t315.length : Int) - 1))) = true := bne_iff_ne.mpr c43
                                        have H' := Aside0.mk H
                                        clear H
                                        go_wp2
                                        repeat (go_quiet (fail); try go_wp2)
                                        go_roundg kj19
                                        case measure => have := HK1.out; have := HJ19.out; omega
                                        case rel => exact ⟨(wrap64 (x42_1 + 1)), (by first | rfl | (simp; done) | (simp [*]; done)), H', ⟨by have := HK1.out; have := HJ19.out; omega⟩, ⟨by (with_reducible repeat (first | apply Kd.R_alloc | apply Kd.R_drewN | apply Kd.R_drew)); exact HO_3.out⟩, ⟨by (with_reducible repeat (first | apply Kd.R_alloc | apply Kd.R_drewN | apply Kd.R_drew)); exact HO_40.out⟩, ⟨by (with_reducible repeat (first | refine blk_drewN ?_ _ | refine blk_drew ?_ | refine blk_alloc ?_ _)); exact BK313.out⟩, ⟨by repeat (first | (with_reducible first | exact HB.out | apply below_alloc | apply pw_below_drewN | apply below_drew1 | refine below_set ?_ GE313.out) | exact HB.out)⟩⟩
                                  · rw [if_neg c36] at H
                                    have c36b0 : ((rd l0_0 (ji16)) == 11) = false := beq_eq_false_iff_ne.mpr c36
                                    have c36b1 : ((rd l0_0 (ji16)) != 11) = true := bne_iff_ne.mpr c36
                                    by_cases c44 : x42_1 = (wrap64 ((t315.length : Int) - 1))
                                    · rw [if_pos c44] at H
                                      have c44b0 : (x42_1 == (wrap64 ((t315.length : Int) - 1))) = true := beq_iff_eq.mpr c44
                                      have c44b1 : (x42_1 != (wrap64 ((t315.length : Int) - 1))) = false := bne_eq_false_iff_eq.mpr c44
                                      clear c44
                                      by_cases c45 : (rd l0_1 (ji16)) ≥ 0
                                      · rw [if_pos c45] at H
                                        have c45b0 : decide (0 ≤ (rd l0_1 (ji16))) = true := decide_eq_true c45
                                        clear c45
                                        by_cases c46 : (rd t315 x42_1) = a0_2
                                        · rw [if_pos c46] at H
                                          have c46b0 : ((rd t315 x42_1) == a0_2) = true := beq_iff_eq.mpr c46
                                          have c46b1 : ((rd t315 x42_1) != a0_2) = false := bne_eq_false_iff_eq.mpr c46
                                          clear c46
                                          have H' := Aside0.mk H
                                          clear H
                                          have hcz47_0 : wc.cell? ⟨gb313, 0, none⟩ = some (.slice (some ad321) l0_0.length c0_0) := (blk_cell BK313.out 0).trans rfl
                                          have hcz47_1 : wc.cell? ⟨gb313, 1, none⟩ = some (.slice (some ad320) l0_1.length c0_1) := (blk_cell BK313.out 1).trans rfl
                                          have hcz47_2 : wc.cell? ⟨gb313, 2, none⟩ = some (.int .i64 a0_2) := (blk_cell BK313.out 2).trans rfl
                                          have hcz47_3 : wc.cell? ⟨gb313, 3, none⟩ = some (.int .i64 a0_3) := (blk_cell BK313.out 3).trans rfl
                                          have hcz47_4 : wc.cell? ⟨gb313, 4, none⟩ = some (.int .i64 a0_4) := (blk_cell BK313.out 4).trans rfl
                                          have hfz47_0 := blk_frozen BK313.out 0
                                          have hfz47_1 := blk_frozen BK313.out 1
                                          have hfz47_2 := blk_frozen BK313.out 2
                                          have hfz47_3 := blk_frozen BK313.out 3
                                          have hfz47_4 := blk_frozen BK313.out 4
                                          go_wp2
                                          repeat (go_quiet (fail); try go_wp2)
                                          go_roundg kj19
                                          case measure => have := HK1.out; have := HJ19.out; omega
                                          case rel => exact ⟨(wrap64 (x42_1 + 1)), (by first | rfl | (simp; done) | (simp [*]; done)), H', ⟨by have := HK1.out; have := HJ19.out; omega⟩, ⟨by (with_reducible repeat (first | apply Kd.R_alloc | apply Kd.R_drewN | apply Kd.R_drew)); exact HO_3.out⟩, ⟨by (with_reducible repeat (first | apply Kd.R_alloc | apply Kd.R_drewN | apply Kd.R_drew)); exact HO_40.out⟩, ⟨by (with_reducible repeat (first | refine blk_drewN ?_ _ | refine blk_drew ?_ | refine blk_alloc ?_ _)); exact BK313.out⟩, ⟨by repeat (first | (with_reducible first | exact HB.out | apply below_alloc | apply pw_below_drewN | apply below_drew1 | refine below_set ?_ GE313.out) | exact HB.out)⟩⟩
                                        · rw [if_neg c46] at H
                                          have c46b0 : ((rd t315 x42_1) == a0_2) = false := beq_eq_false_iff_ne.mpr c46
                                          have c46b1 : ((rd t315 x42_1) != a0_2) = true := bne_iff_ne.mpr c46
                                          obtain rfl := Option.some.inj H
                                          have hcz48_0 : wc.cell? ⟨gb313, 0, none⟩ = some (.slice (some ad321) l0_0.length c0_0) := (blk_cell BK313.out 0).trans rfl
                                          have hcz48_1 : wc.cell? ⟨gb313, 1, none⟩ = some (.slice (some ad320) l0_1.length c0_1) := (blk_cell BK313.out 1).trans rfl
                                          have hcz48_2 : wc.cell? ⟨gb313, 2, none⟩ = some (.int .i64 a0_2) := (blk_cell BK313.out 2).trans rfl
                                          have hcz48_3 : wc.cell? ⟨gb313, 3, none⟩ = some (.int .i64 a0_3) := (blk_cell BK313.out 3).trans rfl
                                          have hcz48_4 : wc.cell? ⟨gb313, 4, none⟩ = some (.int .i64 a0_4) := (blk_cell BK313.out 4).trans rfl
                                          have hfz48_0 := blk_frozen BK313.out 0
                                          have hfz48_1 := blk_frozen BK313.out 1
                                          have hfz48_2 := blk_frozen BK313.out 2
                                          have hfz48_3 := blk_frozen BK313.out 3
                                          have hfz48_4 := blk_frozen BK313.out 4
                                          go_wp2
                                          repeat (go_quiet (fail); try go_wp2)
                                          go_ret
                                          exact ⟨by first | rfl | (simp [errW_none, errW_some] <;> rfl) | (simp only [← hji16]; first | rfl | (simp [errW_none, errW_some] <;> rfl)) | (simp [*, errW_none, errW_some] <;> rfl), by repeat (first | (with_reducible first | exact HB.out | apply below_alloc | apply pw_below_drewN | apply below_drew1 | refine below_set ?_ GE313.out) | exact HB.out)⟩
                                      · rw [if_neg c45] at H
                                        have c45b0 : decide (0 ≤ (rd l0_1 (ji16))) = false := decide_eq_false c45
                                        clear c45
                                        have H' := Aside0.mk H
                                        clear H
                                        go_wp2
                                        repeat (go_quiet (fail); try go_wp2)
                                        go_roundg kj19
                                        case measure => have := HK1.out; have := HJ19.out; omega
                                        case rel => exact ⟨(wrap64 (x42_1 + 1)), (by first | rfl | (simp; done) | (simp [*]; done)), H', ⟨by have := HK1.out; have := HJ19.out; omega⟩, ⟨by (with_reducible repeat (first | apply Kd.R_alloc | apply Kd.R_drewN | apply Kd.R_drew)); exact HO_3.out⟩, ⟨by (with_reducible repeat (first | apply Kd.R_alloc | apply Kd.R_drewN | apply Kd.R_drew)); exact HO_40.out⟩, ⟨by (with_reducible repeat (first | refine blk_drewN ?_ _ | refine blk_drew ?_ | refine blk_alloc ?_ _)); exact BK313.out⟩, ⟨by repeat (first | (with_reducible first | exact HB.out | apply below_alloc | apply pw_below_drewN | apply below_drew1 | refine below_set ?_ GE313.out) | exact HB.out)⟩⟩
                                    · rw [if_neg c44] at H
                                      have c44b0 : (x42_1 == (wrap64 ((t315.length : Int) - 1))) = false := beq_eq_false_iff_ne.mpr c44
                                      have c44b1 : (x42_1 != (wrap64 ((t315.length : Int) - 1))) = true := bne_iff_ne.mpr c44
                                      have H' := Aside0.mk H
                                      clear H
                                      go_wp2
                                      repeat (go_quiet (fail); try go_wp2)
                                      go_roundg kj19
                                      case measure => have := HK1.out; have := HJ19.out; omega
                                      case rel => exact ⟨(wrap64 (x42_1 + 1)), (by first | rfl | (simp; done) | (simp [*]; done)), H', ⟨by have := HK1.out; have := HJ19.out; omega⟩, ⟨by (with_reducible repeat (first | apply Kd.R_alloc | apply Kd.R_drewN | apply Kd.R_drew)); exact HO_3.out⟩, ⟨by (with_reducible repeat (first | apply Kd.R_alloc | apply Kd.R_drewN | apply Kd.R_drew)); exact HO_40.out⟩, ⟨by (with_reducible repeat (first | refine blk_drewN ?_ _ | refine blk_drew ?_ | refine blk_alloc ?_ _)); exact BK313.out⟩, ⟨by repeat (first | (with_reducible first | exact HB.out | apply below_alloc | apply pw_below_drewN | apply below_drew1 | refine below_set ?_ GE313.out) | exact HB.out)⟩⟩
                              · rw [if_neg c27] at H
                                have c27b0 : ((rd l0_0 (ji16)) == 13) = false := beq_eq_false_iff_ne.mpr c27
                                have c27b1 : ((rd l0_0 (ji16)) != 13) = true := bne_iff_ne.mpr c27
                                by_cases c49 : (rd l0_0 (ji16)) ≥ 20
                                · rw [if_pos c49] at H
                                  have c49b0 : decide (20 ≤ (rd l0_0 (ji16))) = true := decide_eq_true c49
                                  clear c49
                                  by_cases c50 : (rd l0_0 (ji16)) = 12
                                  · rw [if_pos c50] at H
                                    have c50b0 : ((rd l0_0 (ji16)) == 12) = true := beq_iff_eq.mpr c50
                                    have c50b1 : ((rd l0_0 (ji16)) != 12) = false := bne_eq_false_iff_eq.mpr c50
                                    clear c50
                                    by_cases c51 : (rd l0_0 (ji16)) ≤ 23
                                    · rw [if_pos c51] at H
                                      have c51b0 : decide ((rd l0_0 (ji16)) ≤ 23) = true := decide_eq_true c51
                                      clear c51
                                      by_cases c52 : (rd l0_1 (ji16)) ≥ 0
                                      · rw [if_pos c52] at H
                                        have c52b0 : decide (0 ≤ (rd l0_1 (ji16))) = true := decide_eq_true c52
                                        clear c52
                                        by_cases c53 : (rd t315 x42_1) = a0_2
                                        · rw [if_pos c53] at H
                                          have c53b0 : ((rd t315 x42_1) == a0_2) = true := beq_iff_eq.mpr c53
                                          have c53b1 : ((rd t315 x42_1) != a0_2) = false := bne_eq_false_iff_eq.mpr c53
                                          clear c53
                                          by_cases c54 : x42_1 = (wrap64 ((t315.length : Int) - 1))
                                          · rw [if_pos c54] at H
                                            have c54b0 : (x42_1 == (wrap64 ((t315.length : Int) - 1))) = true := beq_iff_eq.mpr c54
                                            have c54b1 : (x42_1 != (wrap64 ((t315.length : Int) - 1))) = false := bne_eq_false_iff_eq.mpr c54
                                            clear c54
                                            have H' := Aside0.mk H
                                            clear H
                                            have hcz55_0 : wc.cell? ⟨gb313, 0, none⟩ = some (.slice (some ad321) l0_0.length c0_0) := (blk_cell BK313.out 0).trans rfl
                                            have hcz55_1 : wc.cell? ⟨gb313, 1, none⟩ = some (.slice (some ad320) l0_1.length c0_1) := (blk_cell BK313.out 1).trans rfl
                                            have hcz55_2 : wc.cell? ⟨gb313, 2, none⟩ = some (.int .i64 a0_2) := (blk_cell BK313.out 2).trans rfl
                                            have hcz55_3 : wc.cell? ⟨gb313, 3, none⟩ = some (.int .i64 a0_3) := (blk_cell BK313.out 3).trans rfl
                                            have hcz55_4 : wc.cell? ⟨gb313, 4, none⟩ = some (.int .i64 a0_4) := (blk_cell BK313.out 4).trans rfl
                                            have hfz55_0 := blk_frozen BK313.out 0
                                            have hfz55_1 := blk_frozen BK313.out 1
                                            have hfz55_2 := blk_frozen BK313.out 2
                                            have hfz55_3 := blk_frozen BK313.out 3
                                            have hfz55_4 := blk_frozen BK313.out 4
                                            go_wp2
                                            repeat (go_quiet (fail); try go_wp2)
                                            go_roundg kj19
                                            case measure => have := HK1.out; have := HJ19.out; omega
                                            case rel => exact ⟨(wrap64 (x42_1 + 1)), (by first | rfl | (simp; done) | (simp [*]; done)), H', ⟨by have := HK1.out; have := HJ19.out; omega⟩, ⟨by (with_reducible repeat (first | apply Kd.R_alloc | apply Kd.R_drewN | apply Kd.R_drew)); exact HO_3.out⟩, ⟨by (with_reducible repeat (first | apply Kd.R_alloc | apply Kd.R_drewN | apply Kd.R_drew)); exact HO_40.out⟩, ⟨by (with_reducible repeat (first | refine blk_drewN ?_ _ | refine blk_drew ?_ | refine blk_alloc ?_ _)); exact BK313.out⟩, ⟨by repeat (first | (with_reducible first | exact HB.out | apply below_alloc | apply pw_below_drewN | apply below_drew1 | refine below_set ?_ GE313.out) | exact HB.out)⟩⟩
                                          · rw [if_neg c54] at H
                                            have c54b0 : (x42_1 == (wrap64 ((t315.length : Int) - 1))) = false := beq_eq_false_iff_ne.mpr c54
                                            have c54b1 : (x42_1 != (wrap64 ((t315.length : Int) - 1))) = true := bne_iff_ne.mpr c54
                                            have H' := Aside0.mk H
                                            clear H
                                            have hcz56_0 : wc.cell? ⟨gb313, 0, none⟩ = some (.slice (some ad321) l0_0.length c0_0) := (blk_cell BK313.out 0).trans rfl
                                            have hcz56_1 : wc.cell? ⟨gb313, 1, none⟩ = some (.slice (some ad320) l0_1.length c0_1) := (blk_cell BK313.out 1).trans rfl
                                            have hcz56_2 : wc.cell? ⟨gb313, 2, none⟩ = some (.int .i64 a0_2) := (blk_cell BK313.out 2).trans rfl
                                            have hcz56_3 : wc.cell? ⟨gb313, 3, none⟩ = some (.int .i64 a0_3) := (blk_cell BK313.out 3).trans rfl
                                            have hcz56_4 : wc.cell? ⟨gb313, 4, none⟩ = some (.int .i64 a0_4) := (blk_cell BK313.out 4).trans rfl
                                            have hfz56_0 := blk_frozen BK313.out 0
                                            have hfz56_1 := blk_frozen BK313.out 1
                                            have hfz56_2 := blk_frozen BK313.out 2
                                            have hfz56_3 := blk_frozen BK313.out 3
                                            have hfz56_4 := blk_frozen BK313.out 4
                                            go_wp2
                                            repeat (go_quiet (fail); try go_wp2)
                                            go_roundg kj19
                                            case measure => have := HK1.out; have := HJ19.out; omega
                                            case rel => exact ⟨(wrap64 (x42_1 + 1)), (by first | rfl | (simp; done) | (simp [*]; done)), H', ⟨by have := HK1.out; have := HJ19.out; omega⟩, ⟨by (with_reducible repeat (first | apply Kd.R_alloc | apply Kd.R_drewN | apply Kd.R_drew)); exact HO_3.out⟩, ⟨by (with_reducible repeat (first | apply Kd.R_alloc | apply Kd.R_drewN | apply Kd.R_drew)); exact HO_40.out⟩, ⟨by (with_reducible repeat (first | refine blk_drewN ?_ _ | refine blk_drew ?_ | refine blk_alloc ?_ _)); exact BK313.out⟩, ⟨by repeat (first | (with_reducible first | exact HB.out | apply below_alloc | apply pw_below_drewN | apply below_drew1 | refine below_set ?_ GE313.out) | exact HB.out)⟩⟩
                                        · rw [if_neg c53] at H
                                          have c53b0 : ((rd t315 x42_1) == a0_2) = false := beq_eq_false_iff_ne.mpr c53
                                          have c53b1 : ((rd t315 x42_1) != a0_2) = true := bne_iff_ne.mpr c53
                                          obtain rfl := Option.some.inj H
                                          have hcz57_0 : wc.cell? ⟨gb313, 0, none⟩ = some (.slice (some ad321) l0_0.length c0_0) := (blk_cell BK313.out 0).trans rfl
                                          have hcz57_1 : wc.cell? ⟨gb313, 1, none⟩ = some (.slice (some ad320) l0_1.length c0_1) := (blk_cell BK313.out 1).trans rfl
                                          have hcz57_2 : wc.cell? ⟨gb313, 2, none⟩ = some (.int .i64 a0_2) := (blk_cell BK313.out 2).trans rfl
                                          have hcz57_3 : wc.cell? ⟨gb313, 3, none⟩ = some (.int .i64 a0_3) := (blk_cell BK313.out 3).trans rfl
                                          have hcz57_4 : wc.cell? ⟨gb313, 4, none⟩ = some (.int .i64 a0_4) := (blk_cell BK313.out 4).trans rfl
                                          have hfz57_0 := blk_frozen BK313.out 0
                                          have hfz57_1 := blk_frozen BK313.out 1
                                          have hfz57_2 := blk_frozen BK313.out 2
                                          have hfz57_3 := blk_frozen BK313.out 3
                                          have hfz57_4 := blk_frozen BK313.out 4
                                          go_wp2
                                          repeat (go_quiet (fail); try go_wp2)
                                          go_ret
                                          exact ⟨by first | rfl | (simp [errW_none, errW_some] <;> rfl) | (simp only [← hji16]; first | rfl | (simp [errW_none, errW_some] <;> rfl)) | (simp [*, errW_none, errW_some] <;> rfl), by repeat (first | (with_reducible first | exact HB.out | apply below_alloc | apply pw_below_drewN | apply below_drew1 | refine below_set ?_ GE313.out) | exact HB.out)⟩
                                      · rw [if_neg c52] at H
                                        have c52b0 : decide (0 ≤ (rd l0_1 (ji16))) = false := decide_eq_false c52
                                        clear c52
                                        by_cases c58 : x42_1 = (wrap64 ((t315.length : Int) - 1))
                                        · rw [if_pos c58] at H
                                          have c58b0 : (x42_1 == (wrap64 ((t315.length : Int) - 1))) = true := beq_iff_eq.mpr c58
                                          have c58b1 : (x42_1 != (wrap64 ((t315.length : Int) - 1))) = false := bne_eq_false_iff_eq.mpr c58
                                          clear c58
                                          have H' := Aside0.mk H
                                          clear H
                                          go_wp2
                                          repeat (go_quiet (fail); try go_wp2)
                                          go_roundg kj19
                                          case measure => have := HK1.out; have := HJ19.out; omega
                                          case rel => exact ⟨(wrap64 (x42_1 + 1)), (by first | rfl | (simp; done) | (simp [*]; done)), H', ⟨by have := HK1.out; have := HJ19.out; omega⟩, ⟨by (with_reducible repeat (first | apply Kd.R_alloc | apply Kd.R_drewN | apply Kd.R_drew)); exact HO_3.out⟩, ⟨by (with_reducible repeat (first | apply Kd.R_alloc | apply Kd.R_drewN | apply Kd.R_drew)); exact HO_40.out⟩, ⟨by (with_reducible repeat (first | refine blk_drewN ?_ _ | refine blk_drew ?_ | refine blk_alloc ?_ _)); exact BK313.out⟩, ⟨by repeat (first | (with_reducible first | exact HB.out | apply below_alloc | apply pw_below_drewN | apply below_drew1 | refine below_set ?_ GE313.out) | exact HB.out)⟩⟩
                                        · rw [if_neg c58] at H
                                          have c58b0 : (x42_1 == (wrap64 ((t315.length : Int) - 1))) = false := beq_eq_false_iff_ne.mpr c58
                                          have c58b1 : (x42_1 != (wrap64 ((t315.length : Int) - 1))) = true := bne_iff_ne.mpr c58
                                          have H' := Aside0.mk H
                                          clear H
                                          go_wp2
                                          repeat (go_quiet (fail); try go_wp2)
                                          go_roundg kj19
                                          case measure => have := HK1.out; have := HJ19.out; omega
                                          case rel => exact ⟨(wrap64 (x42_1 + 1)), (by first | rfl | (simp; done) | (simp [*]; done)), H', ⟨by have := HK1.out; have := HJ19.out; omega⟩, ⟨by (with_reducible repeat (first | apply Kd.R_alloc | apply Kd.R_drewN | apply Kd.R_drew)); exact HO_3.out⟩, ⟨by (with_reducible repeat (first | apply Kd.R_alloc | apply Kd.R_drewN | apply Kd.R_drew)); exact HO_40.out⟩, ⟨by (with_reducible repeat (first | refine blk_drewN ?_ _ | refine blk_drew ?_ | refine blk_alloc ?_ _)); exact BK313.out⟩, ⟨by repeat (first | (with_reducible first | exact HB.out | apply below_alloc | apply pw_below_drewN | apply below_drew1 | refine below_set ?_ GE313.out) | exact HB.out)⟩⟩
                                    · rw [if_neg c51] at H
                                      have c51b0 : decide ((rd l0_0 (ji16)) ≤ 23) = false := decide_eq_false c51
                                      clear c51
                                      by_cases c59 : (rd l0_1 (ji16)) ≥ 0
                                      · rw [if_pos c59] at H
                                        have c59b0 : decide (0 ≤ (rd l0_1 (ji16))) = true := decide_eq_true c59
                                        clear c59
                                        by_cases c60 : (rd t315 x42_1) = a0_2
                                        · rw [if_pos c60] at H
                                          have c60b0 : ((rd t315 x42_1) == a0_2) = true := beq_iff_eq.mpr c60
                                          have c60b1 : ((rd t315 x42_1) != a0_2) = false := bne_eq_false_iff_eq.mpr c60
                                          clear c60
                                          have H' := Aside0.mk H
                                          clear H
                                          have hcz61_0 : wc.cell? ⟨gb313, 0, none⟩ = some (.slice (some ad321) l0_0.length c0_0) := (blk_cell BK313.out 0).trans rfl
                                          have hcz61_1 : wc.cell? ⟨gb313, 1, none⟩ = some (.slice (some ad320) l0_1.length c0_1) := (blk_cell BK313.out 1).trans rfl
                                          have hcz61_2 : wc.cell? ⟨gb313, 2, none⟩ = some (.int .i64 a0_2) := (blk_cell BK313.out 2).trans rfl
                                          have hcz61_3 : wc.cell? ⟨gb313, 3, none⟩ = some (.int .i64 a0_3) := (blk_cell BK313.out 3).trans rfl
                                          have hcz61_4 : wc.cell? ⟨gb313, 4, none⟩ = some (.int .i64 a0_4) := (blk_cell BK313.out 4).trans rfl
                                          have hfz61_0 := blk_frozen BK313.out 0
                                          have hfz61_1 := blk_frozen BK313.out 1
                                          have hfz61_2 := blk_frozen BK313.out 2
                                          have hfz61_3 := blk_frozen BK313.out 3
                                          have hfz61_4 := blk_frozen BK313.out 4
                                          go_wp2
                                          repeat (go_quiet (fail); try go_wp2)
                                          go_roundg kj19
                                          case measure => have := HK1.out; have := HJ19.out; omega
                                          case rel => exact ⟨(wrap64 (x42_1 + 1)), (by first | rfl | (simp; done) | (simp [*]; done)), H', ⟨by have := HK1.out; have := HJ19.out; omega⟩, ⟨by (with_reducible repeat (first | apply Kd.R_alloc | apply Kd.R_drewN | apply Kd.R_drew)); exact HO_3.out⟩, ⟨by (with_reducible repeat (first | apply Kd.R_alloc | apply Kd.R_drewN | apply Kd.R_drew)); exact HO_40.out⟩, ⟨by (with_reducible repeat (first | refine blk_drewN ?_ _ | refine blk_drew ?_ | refine blk_alloc ?_ _)); exact BK313.out⟩, ⟨by repeat (first | (with_reducible first | exact HB.out | apply below_alloc | apply pw_below_drewN | apply below_drew1 | refine below_set ?_ GE313.out) | exact HB.out)⟩⟩
                                        · rw [if_neg c60] at H
                                          have c60b0 : ((rd t315 x42_1) == a0_2) = false := beq_eq_false_iff_ne.mpr c60
                                          have c60b1 : ((rd t315 x42_1) != a0_2) = true := bne_iff_ne.mpr c60
                                          obtain rfl := Option.some.inj H
                                          have hcz62_0 : wc.cell? ⟨gb313, 0, none⟩ = some (.slice (some ad321) l0_0.length c0_0) := (blk_cell BK313.out 0).trans rfl
                                          have hcz62_1 : wc.cell? ⟨gb313, 1, none⟩ = some (.slice (some ad320) l0_1.length c0_1) := (blk_cell BK313.out 1).trans rfl
                                          have hcz62_2 : wc.cell? ⟨gb313, 2, none⟩ = some (.int .i64 a0_2) := (blk_cell BK313.out 2).trans rfl
                                          have hcz62_3 : wc.cell? ⟨gb313, 3, none⟩ = some (.int .i64 a0_3) := (blk_cell BK313.out 3).trans rfl
                                          have hcz62_4 : wc.cell? ⟨gb313, 4, none⟩ = some (.int .i64 a0_4) := (blk_cell BK313.out 4).trans rfl
                                          have hfz62_0 := blk_frozen BK313.out 0
                                          have hfz62_1 := blk_frozen BK313.out 1
                                          have hfz62_2 := blk_frozen BK313.out 2
                                          have hfz62_3 := blk_frozen BK313.out 3
                                          have hfz62_4 := blk_frozen BK313.out 4
                                          go_wp2
                                          repeat (go_quiet (fail); try go_wp2)
                                          go_ret
                                          exact ⟨by first | rfl | (simp [errW_none, errW_some] <;> rfl) | (simp only [← hji16]; first | rfl | (simp [errW_none, errW_some] <;> rfl)) | (simp [*, errW_none, errW_some] <;> rfl), by repeat (first | (with_reducible first | exact HB.out | apply below_alloc | apply pw_below_drewN | apply below_drew1 | refine below_set ?_ GE313.out) | exact HB.out)⟩
                                      · rw [if_neg c59] at H
                                        have c59b0 : decide (0 ≤ (rd l0_1 (ji16))) = false := decide_eq_false c59
                                        clear c59
                                        have H' := Aside0.mk H
                                        clear H
                                        go_wp2
                                        repeat (go_quiet (fail); try go_wp2)
                                        go_roundg kj19
                                        case measure => have := HK1.out; have := HJ19.out; omega
                                        case rel => exact ⟨(wrap64 (x42_1 + 1)), (by first | rfl | (simp; done) | (simp [*]; done)), H', ⟨by have := HK1.out; have := HJ19.out; omega⟩, ⟨by (with_reducible repeat (first | apply Kd.R_alloc | apply Kd.R_drewN | apply Kd.R_drew)); exact HO_3.out⟩, ⟨by (with_reducible repeat (first | apply Kd.R_alloc | apply Kd.R_drewN | apply Kd.R_drew)); exact HO_40.out⟩, ⟨by (with_reducible repeat (first | refine blk_drewN ?_ _ | refine blk_drew ?_ | refine blk_alloc ?_ _)); exact BK313.out⟩, ⟨by repeat (first | (with_reducible first | exact HB.out | apply below_alloc | apply pw_below_drewN | apply below_drew1 | refine below_set ?_ GE313.out) | exact HB.out)⟩⟩
                                  · rw [if_neg c50] at H
                                    have c50b0 : ((rd l0_0 (ji16)) == 12) = false := beq_eq_false_iff_ne.mpr c50
                                    have c50b1 : ((rd l0_0 (ji16)) != 12) = true := bne_iff_ne.mpr c50
                                    by_cases c63 : (rd l0_0 (ji16)) ≤ 23
                                    · rw [if_pos c63] at H
                                      have c63b0 : decide ((rd l0_0 (ji16)) ≤ 23) = true := decide_eq_true c63
                                      clear c63
                                      by_cases c64 : (rd l0_0 (ji16)) = 11
                                      · rw [if_pos c64] at H
                                        have c64b0 : ((rd l0_0 (ji16)) == 11) = true := beq_iff_eq.mpr c64
                                        have c64b1 : ((rd l0_0 (ji16)) != 11) = false := bne_eq_false_iff_eq.mpr c64
                                        clear c64
                                        by_cases c65 : (rd l0_1 (ji16)) ≥ 0
                                        · rw [if_pos c65] at H
                                          have c65b0 : decide (0 ≤ (rd l0_1 (ji16))) = true := decide_eq_true c65
                                          clear c65
                                          by_cases c66 : (rd t315 x42_1) = a0_2
                                          · rw [if_pos c66] at H
                                            have c66b0 : ((rd t315 x42_1) == a0_2) = true := beq_iff_eq.mpr c66
                                            have c66b1 : ((rd t315 x42_1) != a0_2) = false := bne_eq_false_iff_eq.mpr c66
                                            clear c66
                                            by_cases c67 : x42_1 = (wrap64 ((t315.length : Int) - 1))
                                            · rw [if_pos c67] at H
                                              have c67b0 : (x42_1 == (wrap64 ((t315.length : Int) - 1))) = true := beq_iff_eq.mpr c67
                                              have c67b1 : (x42_1 != (wrap64 ((t315.length : Int) - 1))) = false := bne_eq_false_iff_eq.mpr c67
                                              clear c67
                                              have H' := Aside0.mk H
                                              clear H
                                              have hcz68_0 : wc.cell? ⟨gb313, 0, none⟩ = some (.slice (some ad321) l0_0.length c0_0) := (blk_cell BK313.out 0).trans rfl
                                              have hcz68_1 : wc.cell? ⟨gb313, 1, none⟩ = some (.slice (some ad320) l0_1.length c0_1) := (blk_cell BK313.out 1).trans rfl
                                              have hcz68_2 : wc.cell? ⟨gb313, 2, none⟩ = some (.int .i64 a0_2) := (blk_cell BK313.out 2).trans rfl
                                              have hcz68_3 : wc.cell? ⟨gb313, 3, none⟩ = some (.int .i64 a0_3) := (blk_cell BK313.out 3).trans rfl
                                              have hcz68_4 : wc.cell? ⟨gb313, 4, none⟩ = some (.int .i64 a0_4) := (blk_cell BK313.out 4).trans rfl
                                              have hfz68_0 := blk_frozen BK313.out 0
                                              have hfz68_1 := blk_frozen BK313.out 1
                                              have hfz68_2 := blk_frozen BK313.out 2
                                              have hfz68_3 := blk_frozen BK313.out 3
                                              have hfz68_4 := blk_frozen BK313.out 4
                                              go_wp2
                                              repeat (go_quiet (fail); try go_wp2)
                                              go_roundg kj19
                                              case measure => have := HK1.out; have := HJ19.out; omega
                                              case rel => exact ⟨(wrap64 (x42_1 + 1)), (by first | rfl | (simp; done) | (simp [*]; done)), H', ⟨by have := HK1.out; have := HJ19.out; omega⟩, ⟨by (with_reducible repeat (first | apply Kd.R_alloc | apply Kd.R_drewN | apply Kd.R_drew)); exact HO_3.out⟩, ⟨by (with_reducible repeat (first | apply Kd.R_alloc | apply Kd.R_drewN | apply Kd.R_drew)); exact HO_40.out⟩, ⟨by (with_reducible repeat (first | refine blk_drewN ?_ _ | refine blk_drew ?_ | refine blk_alloc ?_ _)); exact BK313.out⟩, ⟨by repeat (first | (with_reducible first | exact HB.out | apply below_alloc | apply pw_below_drewN | apply below_drew1 | refine below_set ?_ GE313.out) | exact HB.out)⟩⟩
                                            · rw [if_neg c67] at H
                                              have c67b0 : (x42_1 == (wrap64 ((t315.length : Int) - 1))) = false := beq_eq_false_iff_ne.mpr c67
                                              have c67b1 : (x42_1 != (wrap64 ((t315.length : Int) - 1))) = true := bne_iff_ne.mpr c67
                                              have H' := Aside0.mk H
                                              clear H
                                              have hcz69_0 : wc.cell? ⟨gb313, 0, none⟩ = some (.slice (some ad321) l0_0.length c0_0) := (blk_cell BK313.out 0).trans rfl
                                              have hcz69_1 : wc.cell? ⟨gb313, 1, none⟩ = some (.slice (some ad320) l0_1.length c0_1) := (blk_cell BK313.out 1).trans rfl
                                              have hcz69_2 : wc.cell? ⟨gb313, 2, none⟩ = some (.int .i64 a0_2) := (blk_cell BK313.out 2).trans rfl
                                              have hcz69_3 : wc.cell? ⟨gb313, 3, none⟩ = some (.int .i64 a0_3) := (blk_cell BK313.out 3).trans rfl
                                              have hcz69_4 : wc.cell? ⟨gb313, 4, none⟩ = some (.int .i64 a0_4) := (blk_cell BK313.out 4).trans rfl
                                              have hfz69_0 := blk_frozen BK313.out 0
                                              have hfz69_1 := blk_frozen BK313.out 1
                                              have hfz69_2 := blk_frozen BK313.out 2
                                              have hfz69_3 := blk_frozen BK313.out 3
                                              have hfz69_4 := blk_frozen BK313.out 4
                                              go_wp2
                                              repeat (go_quiet (fail); try go_wp2)
                                              go_roundg kj19
                                              case measure => have := HK1.out; have := HJ19.out; omega
                                              case rel => exact ⟨(wrap64 (x42_1 + 1)), (by first | rfl | (simp; done) | (simp [*]; done)), H', ⟨by have := HK1.out; have := HJ19.out; omega⟩, ⟨by (with_reducible repeat (first | apply Kd.R_alloc | apply Kd.R_drewN | apply Kd.R_drew)); exact HO_3.out⟩, ⟨by (with_reducible repeat (first | apply Kd.R_alloc | apply Kd.R_drewN | apply Kd.R_drew)); exact HO_40.out⟩, ⟨by (with_reducible repeat (first | refine blk_drewN ?_ _ | refine blk_drew ?_ | refine blk_alloc ?_ _)); exact BK313.out⟩, ⟨by repeat (first | (with_reducible first | exact HB.out | apply below_alloc | apply pw_below_drewN | apply below_drew1 | refine below_set ?_ GE313.out) | exact HB.out)⟩⟩
                                          · rw [if_neg c66] at H
                                            have c66b0 : ((rd t315 x42_1) == a0_2) = false := beq_eq_false_iff_ne.mpr c66
                                            have c66b1 : ((rd t315 x42_1) != a0_2) = true := bne_iff_ne.mpr c66
                                            obtain rfl := Option.some.inj H
                                            have hcz70_0 : wc.cell? ⟨gb313, 0, none⟩ = some (.slice (some ad321) l0_0.length c0_0) := (blk_cell BK313.out 0).trans rfl
                                            have hcz70_1 : wc.cell? ⟨gb313, 1, none⟩ = some (.slice (some ad320) l0_1.length c0_1) := (blk_cell BK313.out 1).trans rfl
                                            have hcz70_2 : wc.cell? ⟨gb313, 2, none⟩ = some (.int .i64 a0_2) := (blk_cell BK313.out 2).trans rfl
                                            have hcz70_3 : wc.cell? ⟨gb313, 3, none⟩ = some (.int .i64 a0_3) := (blk_cell BK313.out 3).trans rfl
                                            have hcz70_4 : wc.cell? ⟨gb313, 4, none⟩ = some (.int .i64 a0_4) := (blk_cell BK313.out 4).trans rfl
                                            have hfz70_0 := blk_frozen BK313.out 0
                                            have hfz70_1 := blk_frozen BK313.out 1
                                            have hfz70_2 := blk_frozen BK313.out 2
                                            have hfz70_3 := blk_frozen BK313.out 3
                                            have hfz70_4 := blk_frozen BK313.out 4
                                            go_wp2
                                            repeat (go_quiet (fail); try go_wp2)
                                            go_ret
                                            exact ⟨by first | rfl | (simp [errW_none, errW_some] <;> rfl) | (simp only [← hji16]; first | rfl | (simp [errW_none, errW_some] <;> rfl)) | (simp [*, errW_none, errW_some] <;> rfl), by repeat (first | (with_reducible first | exact HB.out | apply below_alloc | apply pw_below_drewN | apply below_drew1 | refine below_set ?_ GE313.out) | exact HB.out)⟩
                                        · rw [if_neg c65] at H
                                          have c65b0 : decide (0 ≤ (rd l0_1 (ji16))) = false := decide_eq_false c65
                                          clear c65
                                          by_cases c71 : x42_1 = (wrap64 ((t315.length : Int) - 1))
                                          · rw [if_pos c71] at H
                                            have c71b0 : (x42_1 == (wrap64 ((t315.length : Int) - 1))) = true := beq_iff_eq.mpr c71
                                            have c71b1 : (x42_1 != (wrap64 ((t315.length : Int) - 1))) = false := bne_eq_false_iff_eq.mpr c71
                                            clear c71
                                            have H' := Aside0.mk H
                                            clear H
                                            go_wp2
                                            repeat (go_quiet (fail); try go_wp2)
                                            go_roundg kj19
                                            case measure => have := HK1.out; have := HJ19.out; omega
                                            case rel => exact ⟨(wrap64 (x42_1 + 1)), (by first | rfl | (simp; done) | (simp [*]; done)), H', ⟨by have := HK1.out; have := HJ19.out; omega⟩, ⟨by (with_reducible repeat (first | apply Kd.R_alloc | apply Kd.R_drewN | apply Kd.R_drew)); exact HO_3.out⟩, ⟨by (with_reducible repeat (first | apply Kd.R_alloc | apply Kd.R_drewN | apply Kd.R_drew)); exact HO_40.out⟩, ⟨by (with_reducible repeat (first | refine blk_drewN ?_ _ | refine blk_drew ?_ | refine blk_alloc ?_ _)); exact BK313.out⟩, ⟨by repeat (first | (with_reducible first | exact HB.out | apply below_alloc | apply pw_below_drewN | apply below_drew1 | refine below_set ?_ GE313.out) | exact HB.out)⟩⟩
                                          · rw [if_neg c71] at H
                                            have c71b0 : (x42_1 == (wrap64 ((t315.length : Int) - 1))) = false := beq_eq_false_iff_ne.mpr c71
                                            have c71b1 : (x42_1 != (wrap64 ((t315.length : Int) - 1))) = true := bne_iff_ne.mpr c71
                                            have H' := Aside0.mk H
                                            clear H
                                            go_wp2
                                            repeat (go_quiet (fail); try go_wp2)
                                            go_roundg kj19
                                            case measure => have := HK1.out; have := HJ19.out; omega
                                            case rel => exact ⟨(wrap64 (x42_1 + 1)), (by first | rfl | (simp; done) | (simp [*]; done)), H', ⟨by have := HK1.out; have := HJ19.out; omega⟩, ⟨by (with_reducible repeat (first | apply Kd.R_alloc | apply Kd.R_drewN | apply Kd.R_drew)); exact HO_3.out⟩, ⟨by (with_reducible repeat (first | apply Kd.R_alloc | apply Kd.R_drewN | apply Kd.R_drew)); exact HO_40.out⟩, ⟨by (with_reducible repeat (first | refine blk_drewN ?_ _ | refine blk_drew ?_ | refine blk_alloc ?_ _)); exact BK313.out⟩, ⟨by repeat (first | (with_reducible first | exact HB.out | apply below_alloc | apply pw_below_drewN | apply below_drew1 | refine below_set ?_ GE313.out) | exact HB.out)⟩⟩
                                      · rw [if_neg c64] at H
                                        have c64b0 : ((rd l0_0 (ji16)) == 11) = false := beq_eq_false_iff_ne.mpr c64
                                        have c64b1 : ((rd l0_0 (ji16)) != 11) = true := bne_iff_ne.mpr c64
                                        by_cases c72 : x42_1 = (wrap64 ((t315.length : Int) - 1))
                                        · rw [if_pos c72] at H
                                          have c72b0 : (x42_1 == (wrap64 ((t315.length : Int) - 1))) = true := beq_iff_eq.mpr c72
                                          have c72b1 : (x42_1 != (wrap64 ((t315.length : Int) - 1))) = false := bne_eq_false_iff_eq.mpr c72
                                          clear c72
                                          by_cases c73 : (rd l0_1 (ji16)) ≥ 0
                                          · rw [if_pos c73] at H
                                            have c73b0 : decide (0 ≤ (rd l0_1 (ji16))) = true := decide_eq_true c73
                                            clear c73
                                            by_cases c74 : (rd t315 x42_1) = a0_2
                                            · rw [if_pos c74] at H
                                              have c74b0 : ((rd t315 x42_1) == a0_2) = true := beq_iff_eq.mpr c74
                                              have c74b1 : ((rd t315 x42_1) != a0_2) = false := bne_eq_false_iff_eq.mpr c74
                                              clear c74
                                              have H' := Aside0.mk H
                                              clear H
                                              have hcz75_0 : wc.cell? ⟨gb313, 0, none⟩ = some (.slice (some ad321) l0_0.length c0_0) := (blk_cell BK313.out 0).trans rfl
                                              have hcz75_1 : wc.cell? ⟨gb313, 1, none⟩ = some (.slice (some ad320) l0_1.length c0_1) := (blk_cell BK313.out 1).trans rfl
                                              have hcz75_2 : wc.cell? ⟨gb313, 2, none⟩ = some (.int .i64 a0_2) := (blk_cell BK313.out 2).trans rfl
                                              have hcz75_3 : wc.cell? ⟨gb313, 3, none⟩ = some (.int .i64 a0_3) := (blk_cell BK313.out 3).trans rfl
                                              have hcz75_4 : wc.cell? ⟨gb313, 4, none⟩ = some (.int .i64 a0_4) := (blk_cell BK313.out 4).trans rfl
                                              have hfz75_0 := blk_frozen BK313.out 0
                                              have hfz75_1 := blk_frozen BK313.out 1
                                              have hfz75_2 := blk_frozen BK313.out 2
                                              have hfz75_3 := blk_frozen BK313.out 3
                                              have hfz75_4 := blk_frozen BK313.out 4
                                              go_wp2
                                              repeat (go_quiet (fail); try go_wp2)
                                              go_roundg kj19
                                              case measure => have := HK1.out; have := HJ19.out; omega
                                              case rel => exact ⟨(wrap64 (x42_1 + 1)), (by first | rfl | (simp; done) | (simp [*]; done)), H', ⟨by have := HK1.out; have := HJ19.out; omega⟩, ⟨by (with_reducible repeat (first | apply Kd.R_alloc | apply Kd.R_drewN | apply Kd.R_drew)); exact HO_3.out⟩, ⟨by (with_reducible repeat (first | apply Kd.R_alloc | apply Kd.R_drewN | apply Kd.R_drew)); exact HO_40.out⟩, ⟨by (with_reducible repeat (first | refine blk_drewN ?_ _ | refine blk_drew ?_ | refine blk_alloc ?_ _)); exact BK313.out⟩, ⟨by repeat (first | (with_reducible first | exact HB.out | apply below_alloc | apply pw_below_drewN | apply below_drew1 | refine below_set ?_ GE313.out) | exact HB.out)⟩⟩
                                            · rw [if_neg c74] at H
                                              have c74b0 : ((rd t315 x42_1) == a0_2) = false := beq_eq_false_iff_ne.mpr c74
                                              have c74b1 : ((rd t315 x42_1) != a0_2) = true := bne_iff_ne.mpr c74
                                              obtain rfl := Option.some.inj H
                                              have hcz76_0 : wc.cell? ⟨gb313, 0, none⟩ = some (.slice (some ad321) l0_0.length c0_0) := (blk_cell BK313.out 0).trans rfl
                                              have hcz76_1 : wc.cell? ⟨gb313, 1, none⟩ = some (.slice (some ad320) l0_1.length c0_1) := (blk_cell BK313.out 1).trans rfl
                                              have hcz76_2 : wc.cell? ⟨gb313, 2, none⟩ = some (.int .i64 a0_2) := (blk_cell BK313.out 2).trans rfl
                                              have hcz76_3 : wc.cell? ⟨gb313, 3, none⟩ = some (.int .i64 a0_3) := (blk_cell BK313.out 3).trans rfl
                                              have hcz76_4 : wc.cell? ⟨gb313, 4, none⟩ = some (.int .i64 a0_4) := (blk_cell BK313.out 4).trans rfl
                                              have hfz76_0 := blk_frozen BK313.out 0
                                              have hfz76_1 := blk_frozen BK313.out 1
                                              have hfz76_2 := blk_frozen BK313.out 2
                                              have hfz76_3 := blk_frozen BK313.out 3
                                              have hfz76_4 := blk_frozen BK313.out 4
                                              go_wp2
                                              repeat (go_quiet (fail); try go_wp2)
                                              go_ret
                                              exact ⟨by first | rfl | (simp [errW_none, errW_some] <;> rfl) | (simp only [← hji16]; first | rfl | (simp [errW_none, errW_some] <;> rfl)) | (simp [*, errW_none, errW_some] <;> rfl), by repeat (first | (with_reducible first | exact HB.out | apply below_alloc | apply pw_below_drewN | apply below_drew1 | refine below_set ?_ GE313.out) | exact HB.out)⟩
                                          · rw [if_neg c73] at H
                                            have c73b0 : decide (0 ≤ (rd l0_1 (ji16))) = false := decide_eq_false c73
                                            clear c73
                                            have H' := Aside0.mk H
                                            clear H
                                            go_wp2
                                            repeat (go_quiet (fail); try go_wp2)
                                            go_roundg kj19
                                            case measure => have := HK1.out; have := HJ19.out; omega
                                            case rel => exact ⟨(wrap64 (x42_1 + 1)), (by first | rfl | (simp; done) | (simp [*]; done)), H', ⟨by have := HK1.out; have := HJ19.out; omega⟩, ⟨by (with_reducible repeat (first | apply Kd.R_alloc | apply Kd.R_drewN | apply Kd.R_drew)); exact HO_3.out⟩, ⟨by (with_reducible repeat (first | apply Kd.R_alloc | apply Kd.R_drewN | apply Kd.R_drew)); exact HO_40.out⟩, ⟨by (with_reducible repeat (first | refine blk_drewN ?_ _ | refine blk_drew ?_ | refine blk_alloc ?_ _)); exact BK313.out⟩, ⟨by repeat (first | (with_reducible first | exact HB.out | apply below_alloc | apply pw_below_drewN | apply below_drew1 | refine below_set ?_ GE313.out) | exact HB.out)⟩⟩
                                        · rw [if_neg c72] at H
                                          have c72b0 : (x42_1 == (wrap64 ((t315.length : Int) - 1))) = false := beq_eq_false_iff_ne.mpr c72
                                          have c72b1 : (x42_1 != (wrap64 ((t315.length : Int) - 1))) = true := bne_iff_ne.mpr c72
                                          have H' := Aside0.mk H
                                          clear H
                                          go_wp2
                                          repeat (go_quiet (fail); try go_wp2)
                                          go_roundg kj19
                                          case measure => have := HK1.out; have := HJ19.out; omega
                                          case rel => exact ⟨(wrap64 (x42_1 + 1)), (by first | rfl | (simp; done) | (simp [*]; done)), H', ⟨by have := HK1.out; have := HJ19.out; omega⟩, ⟨by (with_reducible repeat (first | apply Kd.R_alloc | apply Kd.R_drewN | apply Kd.R_drew)); exact HO_3.out⟩, ⟨by (with_reducible repeat (first | apply Kd.R_alloc | apply Kd.R_drewN | apply Kd.R_drew)); exact HO_40.out⟩, ⟨by (with_reducible repeat (first | refine blk_drewN ?_ _ | refine blk_drew ?_ | refine blk_alloc ?_ _)); exact BK313.out⟩, ⟨by repeat (first | (with_reducible first | exact HB.out | apply below_alloc | apply pw_below_drewN | apply below_drew1 | refine below_set ?_ GE313.out) | exact HB.out)⟩⟩
                                    · rw [if_neg c63] at H
                                      have c63b0 : decide ((rd l0_0 (ji16)) ≤ 23) = false := decide_eq_false c63
                                      clear c63
                                      by_cases c77 : (rd l0_0 (ji16)) = 11
                                      · rw [if_pos c77] at H
                                        have c77b0 : ((rd l0_0 (ji16)) == 11) = true := beq_iff_eq.mpr c77
                                        have c77b1 : ((rd l0_0 (ji16)) != 11) = false := bne_eq_false_iff_eq.mpr c77
                                        clear c77
                                        by_cases c78 : (rd l0_1 (ji16)) ≥ 0
                                        · rw [if_pos c78] at H
                                          have c78b0 : decide (0 ≤ (rd l0_1 (ji16))) = true := decide_eq_true c78
                                          clear c78
                                          by_cases c79 : (rd t315 x42_1) = a0_2
                                          · rw [if_pos c79] at H
                                            have c79b0 : ((rd t315 x42_1) == a0_2) = true := beq_iff_eq.mpr c79
                                            have c79b1 : ((rd t315 x42_1) != a0_2) = false := bne_eq_false_iff_eq.mpr c79
                                            clear c79
                                            have H' := Aside0.mk H
                                            clear H
                                            have hcz80_0 : wc.cell? ⟨gb313, 0, none⟩ = some (.slice (some ad321) l0_0.length c0_0) := (blk_cell BK313.out 0).trans rfl
                                            have hcz80_1 : wc.cell? ⟨gb313, 1, none⟩ = some (.slice (some ad320) l0_1.length c0_1) := (blk_cell BK313.out 1).trans rfl
                                            have hcz80_2 : wc.cell? ⟨gb313, 2, none⟩ = some (.int .i64 a0_2) := (blk_cell BK313.out 2).trans rfl
                                            have hcz80_3 : wc.cell? ⟨gb313, 3, none⟩ = some (.int .i64 a0_3) := (blk_cell BK313.out 3).trans rfl
                                            have hcz80_4 : wc.cell? ⟨gb313, 4, none⟩ = some (.int .i64 a0_4) := (blk_cell BK313.out 4).trans rfl
                                            have hfz80_0 := blk_frozen BK313.out 0
                                            have hfz80_1 := blk_frozen BK313.out 1
                                            have hfz80_2 := blk_frozen BK313.out 2
                                            have hfz80_3 := blk_frozen BK313.out 3
                                            have hfz80_4 := blk_frozen BK313.out 4
                                            go_wp2
                                            repeat (go_quiet (fail); try go_wp2)
                                            go_roundg kj19
                                            case measure => have := HK1.out; have := HJ19.out; omega
                                            case rel => exact ⟨(wrap64 (x42_1 + 1)), (by first | rfl | (simp; done) | (simp [*]; done)), H', ⟨by have := HK1.out; have := HJ19.out; omega⟩, ⟨by (with_reducible repeat (first | apply Kd.R_alloc | apply Kd.R_drewN | apply Kd.R_drew)); exact HO_3.out⟩, ⟨by (with_reducible repeat (first | apply Kd.R_alloc | apply Kd.R_drewN | apply Kd.R_drew)); exact HO_40.out⟩, ⟨by (with_reducible repeat (first | refine blk_drewN ?_ _ | refine blk_drew ?_ | refine blk_alloc ?_ _)); exact BK313.out⟩, ⟨by repeat (first | (with_reducible first | exact HB.out | apply below_alloc | apply pw_below_drewN | apply below_drew1 | refine below_set ?_ GE313.out) | exact HB.out)⟩⟩
                                          · rw [if_neg c79] at H
                                            have c79b0 : ((rd t315 x42_1) == a0_2) = false := beq_eq_false_iff_ne.mpr c79
                                            have c79b1 : ((rd t315 x42_1) != a0_2) = true := bne_iff_ne.mpr c79
                                            obtain rfl := Option.some.inj H
                                            have hcz81_0 : wc.cell? ⟨gb313, 0, none⟩ = some (.slice (some ad321) l0_0.length c0_0) := (blk_cell BK313.out 0).trans rfl
                                            have hcz81_1 : wc.cell? ⟨gb313, 1, none⟩ = some (.slice (some ad320) l0_1.length c0_1) := (blk_cell BK313.out 1).trans rfl
                                            have hcz81_2 : wc.cell? ⟨gb313, 2, none⟩ = some (.int .i64 a0_2) := (blk_cell BK313.out 2).trans rfl
                                            have hcz81_3 : wc.cell? ⟨gb313, 3, none⟩ = some (.int .i64 a0_3) := (blk_cell BK313.out 3).trans rfl
                                            have hcz81_4 : wc.cell? ⟨gb313, 4, none⟩ = some (.int .i64 a0_4) := (blk_cell BK313.out 4).trans rfl
                                            have hfz81_0 := blk_frozen BK313.out 0
                                            have hfz81_1 := blk_frozen BK313.out 1
                                            have hfz81_2 := blk_frozen BK313.out 2
                                            have hfz81_3 := blk_frozen BK313.out 3
                                            have hfz81_4 := blk_frozen BK313.out 4
                                            go_wp2
                                            repeat (go_quiet (fail); try go_wp2)
                                            go_ret
                                            exact ⟨by first | rfl | (simp [errW_none, errW_some] <;> rfl) | (simp only [← hji16]; first | rfl | (simp [errW_none, errW_some] <;> rfl)) | (simp [*, errW_none, errW_some] <;> rfl), by repeat (first | (with_reducible first | exact HB.out | apply below_alloc | apply pw_below_drewN | apply below_drew1 | refine below_set ?_ GE313.out) | exact HB.out)⟩
                                        · rw [if_neg c78] at H
                                          have c78b0 : decide (0 ≤ (rd l0_1 (ji16))) = false := decide_eq_false c78
                                          clear c78
                                          have H' := Aside0.mk H
                                          clear H
                                          go_wp2
                                          repeat (go_quiet (fail); try go_wp2)
                                          go_roundg kj19
                                          case measure => have := HK1.out; have := HJ19.out; omega
                                          case rel => exact ⟨(wrap64 (x42_1 + 1)), (by first | rfl | (simp; done) | (simp [*]; done)), H', ⟨by have := HK1.out; have := HJ19.out; omega⟩, ⟨by (with_reducible repeat (first | apply Kd.R_alloc | apply Kd.R_drewN | apply Kd.R_drew)); exact HO_3.out⟩, ⟨by (with_reducible repeat (first | apply Kd.R_alloc | apply Kd.R_drewN | apply Kd.R_drew)); exact HO_40.out⟩, ⟨by (with_reducible repeat (first | refine blk_drewN ?_ _ | refine blk_drew ?_ | refine blk_alloc ?_ _)); exact BK313.out⟩, ⟨by repeat (first | (with_reducible first | exact HB.out | apply below_alloc | apply pw_below_drewN | apply below_drew1 | refine below_set ?_ GE313.out) | exact HB.out)⟩⟩
                                      · rw [if_neg c77] at H
                                        have c77b0 : ((rd l0_0 (ji16)) == 11) = false := beq_eq_false_iff_ne.mpr c77
                                        have c77b1 : ((rd l0_0 (ji16)) != 11) = true := bne_iff_ne.mpr c77
                                        by_cases c82 : (rd t315 x42_1) = (rd l0_1 (ji16))
                                        · rw [if_pos c82] at H
                                          have c82b0 : ((rd t315 x42_1) == (rd l0_1 (ji16))) = true := beq_iff_eq.mpr c82
                                          have c82b1 : ((rd t315 x42_1) != (rd l0_1 (ji16))) = false := bne_eq_false_iff_eq.mpr c82
                                          clear c82
                                          have H' := Aside0.mk H
                                          clear H
                                          go_wp2
                                          repeat (go_quiet (fail); try go_wp2)
                                          go_roundg kj19
                                          case measure => have := HK1.out; have := HJ19.out; omega
                                          case rel => exact ⟨(wrap64 (x42_1 + 1)), (by first | rfl | (simp; done) | (simp [*]; done)), H', ⟨by have := HK1.out; have := HJ19.out; omega⟩, ⟨by (with_reducible repeat (first | apply Kd.R_alloc | apply Kd.R_drewN | apply Kd.R_drew)); exact HO_3.out⟩, ⟨by (with_reducible repeat (first | apply Kd.R_alloc | apply Kd.R_drewN | apply Kd.R_drew)); exact HO_40.out⟩, ⟨by (with_reducible repeat (first | refine blk_drewN ?_ _ | refine blk_drew ?_ | refine blk_alloc ?_ _)); exact BK313.out⟩, ⟨by repeat (first | (with_reducible first | exact HB.out | apply below_alloc | apply pw_below_drewN | apply below_drew1 | refine below_set ?_ GE313.out) | exact HB.out)⟩⟩
                                        · rw [if_neg c82] at H
                                          have c82b0 : ((rd t315 x42_1) == (rd l0_1 (ji16))) = false := beq_eq_false_iff_ne.mpr c82
                                          have c82b1 : ((rd t315 x42_1) != (rd l0_1 (ji16))) = true := bne_iff_ne.mpr c82
                                          obtain rfl := Option.some.inj H
                                          go_wp2
                                          repeat (go_quiet (fail); try go_wp2)
                                          go_ret
                                          exact ⟨by first | rfl | (simp [errW_none, errW_some] <;> rfl) | (simp only [← hji16]; first | rfl | (simp [errW_none, errW_some] <;> rfl)) | (simp [*, errW_none, errW_some] <;> rfl), by repeat (first | (with_reducible first | exact HB.out | apply below_alloc | apply pw_below_drewN | apply below_drew1 | refine below_set ?_ GE313.out) | exact HB.out)⟩
                                · rw [if_neg c49] at H
                                  have c49b0 : decide (20 ≤ (rd l0_0 (ji16))) = false := decide_eq_false c49
                                  clear c49
                                  by_cases c83 : (rd l0_0 (ji16)) = 12
                                  · rw [if_pos c83] at H
                                    have c83b0 : ((rd l0_0 (ji16)) == 12) = true := beq_iff_eq.mpr c83
                                    have c83b1 : ((rd l0_0 (ji16)) != 12) = false := bne_eq_false_iff_eq.mpr c83
                                    clear c83
                                    by_cases c84 : (rd l0_1 (ji16)) ≥ 0
                                    · rw [if_pos c84] at H
                                      have c84b0 : decide (0 ≤ (rd l0_1 (ji16))) = true := decide_eq_true c84
                                      clear c84
                                      by_cases c85 : (rd t315 x42_1) = a0_2
                                      · rw [if_pos c85] at H
                                        have c85b0 : ((rd t315 x42_1) == a0_2) = true := beq_iff_eq.mpr c85
                                        have c85b1 : ((rd t315 x42_1) != a0_2) = false := bne_eq_false_iff_eq.mpr c85
                                        clear c85
                                        have H' := Aside0.mk H
                                        clear H
                                        have hcz86_0 : wc.cell? ⟨gb313, 0, none⟩ = some (.slice (some ad321) l0_0.length c0_0) := (blk_cell BK313.out 0).trans rfl
                                        have hcz86_1 : wc.cell? ⟨gb313, 1, none⟩ = some (.slice (some ad320) l0_1.length c0_1) := (blk_cell BK313.out 1).trans rfl
                                        have hcz86_2 : wc.cell? ⟨gb313, 2, none⟩ = some (.int .i64 a0_2) := (blk_cell BK313.out 2).trans rfl
                                        have hcz86_3 : wc.cell? ⟨gb313, 3, none⟩ = some (.int .i64 a0_3) := (blk_cell BK313.out 3).trans rfl
                                        have hcz86_4 : wc.cell? ⟨gb313, 4, none⟩ = some (.int .i64 a0_4) := (blk_cell BK313.out 4).trans rfl
                                        have hfz86_0 := blk_frozen BK313.out 0
                                        have hfz86_1 := blk_frozen BK313.out 1
                                        have hfz86_2 := blk_frozen BK313.out 2
                                        have hfz86_3 := blk_frozen BK313.out 3
                                        have hfz86_4 := blk_frozen BK313.out 4
                                        go_wp2
                                        repeat (go_quiet (fail); try go_wp2)
                                        go_roundg kj19
                                        case measure => have := HK1.out; have := HJ19.out; omega
                                        case rel => exact ⟨(wrap64 (x42_1 + 1)), (by first | rfl | (simp; done) | (simp [*]; done)), H', ⟨by have := HK1.out; have := HJ19.out; omega⟩, ⟨by (with_reducible repeat (first | apply Kd.R_alloc | apply Kd.R_drewN | apply Kd.R_drew)); exact HO_3.out⟩, ⟨by (with_reducible repeat (first | apply Kd.R_alloc | apply Kd.R_drewN | apply Kd.R_drew)); exact HO_40.out⟩, ⟨by (with_reducible repeat (first | refine blk_drewN ?_ _ | refine blk_drew ?_ | refine blk_alloc ?_ _)); exact BK313.out⟩, ⟨by repeat (first | (with_reducible first | exact HB.out | apply below_alloc | apply pw_below_drewN | apply below_drew1 | refine below_set ?_ GE313.out) | exact HB.out)⟩⟩
                                      · rw [if_neg c85] at H
                                        have c85b0 : ((rd t315 x42_1) == a0_2) = false := beq_eq_false_iff_ne.mpr c85
                                        have c85b1 : ((rd t315 x42_1) != a0_2) = true := bne_iff_ne.mpr c85
                                        obtain rfl := Option.some.inj H
                                        have hcz87_0 : wc.cell? ⟨gb313, 0, none⟩ = some (.slice (some ad321) l0_0.length c0_0) := (blk_cell BK313.out 0).trans rfl
                                        have hcz87_1 : wc.cell? ⟨gb313, 1, none⟩ = some (.slice (some ad320) l0_1.length c0_1) := (blk_cell BK313.out 1).trans rfl
                                        have hcz87_2 : wc.cell? ⟨gb313, 2, none⟩ = some (.int .i64 a0_2) := (blk_cell BK313.out 2).trans rfl
                                        have hcz87_3 : wc.cell? ⟨gb313, 3, none⟩ = some (.int .i64 a0_3) := (blk_cell BK313.out 3).trans rfl
                                        have hcz87_4 : wc.cell? ⟨gb313, 4, none⟩ = some (.int .i64 a0_4) := (blk_cell BK313.out 4).trans rfl
                                        have hfz87_0 := blk_frozen BK313.out 0
                                        have hfz87_1 := blk_frozen BK313.out 1
                                        have hfz87_2 := blk_frozen BK313.out 2
                                        have hfz87_3 := blk_frozen BK313.out 3
                                        have hfz87_4 := blk_frozen BK313.out 4
                                        go_wp2
                                        repeat (go_quiet (fail); try go_wp2)
                                        go_ret
                                        exact ⟨by first | rfl | (simp [errW_none, errW_some] <;> rfl) | (simp only [← hji16]; first | rfl | (simp [errW_none, errW_some] <;> rfl)) | (simp [*, errW_none, errW_some] <;> rfl), by repeat (first | (with_reducible first | exact HB.out | apply below_alloc | apply pw_below_drewN | apply below_drew1 | refine below_set ?_ GE313.out) | exact HB.out)⟩
                                    · rw [if_neg c84] at H
                                      have c84b0 : decide (0 ≤ (rd l0_1 (ji16))) = false := decide_eq_false c84
                                      clear c84
                                      have H' := Aside0.mk H
                                      clear H
                                      go_wp2
                                      repeat (go_quiet (fail); try go_wp2)
                                      go_roundg kj19
                                      case measure => have := HK1.out; have := HJ19.out; omega
                                      case rel => exact ⟨(wrap64 (x42_1 + 1)), (by first | rfl | (simp; done) | (simp [*]; done)), H', ⟨by have := HK1.out; have := HJ19.out; omega⟩, ⟨by (with_reducible repeat (first | apply Kd.R_alloc | apply Kd.R_drewN | apply Kd.R_drew)); exact HO_3.out⟩, ⟨by (with_reducible repeat (first | apply Kd.R_alloc | apply Kd.R_drewN | apply Kd.R_drew)); exact HO_40.out⟩, ⟨by (with_reducible repeat (first | refine blk_drewN ?_ _ | refine blk_drew ?_ | refine blk_alloc ?_ _)); exact BK313.out⟩, ⟨by repeat (first | (with_reducible first | exact HB.out | apply below_alloc | apply pw_below_drewN | apply below_drew1 | refine below_set ?_ GE313.out) | exact HB.out)⟩⟩
                                  · rw [if_neg c83] at H
                                    have c83b0 : ((rd l0_0 (ji16)) == 12) = false := beq_eq_false_iff_ne.mpr c83
                                    have c83b1 : ((rd l0_0 (ji16)) != 12) = true := bne_iff_ne.mpr c83
                                    by_cases c88 : (rd l0_0 (ji16)) = 11
                                    · rw [if_pos c88] at H
                                      have c88b0 : ((rd l0_0 (ji16)) == 11) = true := beq_iff_eq.mpr c88
                                      have c88b1 : ((rd l0_0 (ji16)) != 11) = false := bne_eq_false_iff_eq.mpr c88
                                      clear c88
                                      by_cases c89 : (rd l0_1 (ji16)) ≥ 0
                                      · rw [if_pos c89] at H
                                        have c89b0 : decide (0 ≤ (rd l0_1 (ji16))) = true := decide_eq_true c89
                                        clear c89
                                        by_cases c90 : (rd t315 x42_1) = a0_2
                                        · rw [if_pos c90] at H
                                          have c90b0 : ((rd t315 x42_1) == a0_2) = true := beq_iff_eq.mpr c90
                                          have c90b1 : ((rd t315 x42_1) != a0_2) = false := bne_eq_false_iff_eq.mpr c90
                                          clear c90
                                          have H' := Aside0.mk H
                                          clear H
                                          have hcz91_0 : wc.cell? ⟨gb313, 0, none⟩ = some (.slice (some ad321) l0_0.length c0_0) := (blk_cell BK313.out 0).trans rfl
                                          have hcz91_1 : wc.cell? ⟨gb313, 1, none⟩ = some (.slice (some ad320) l0_1.length c0_1) := (blk_cell BK313.out 1).trans rfl
                                          have hcz91_2 : wc.cell? ⟨gb313, 2, none⟩ = some (.int .i64 a0_2) := (blk_cell BK313.out 2).trans rfl
                                          have hcz91_3 : wc.cell? ⟨gb313, 3, none⟩ = some (.int .i64 a0_3) := (blk_cell BK313.out 3).trans rfl
                                          have hcz91_4 : wc.cell? ⟨gb313, 4, none⟩ = some (.int .i64 a0_4) := (blk_cell BK313.out 4).trans rfl
                                          have hfz91_0 := blk_frozen BK313.out 0
                                          have hfz91_1 := blk_frozen BK313.out 1
                                          have hfz91_2 := blk_frozen BK313.out 2
                                          have hfz91_3 := blk_frozen BK313.out 3
                                          have hfz91_4 := blk_frozen BK313.out 4
                                          go_wp2
                                          repeat (go_quiet (fail); try go_wp2)
                                          go_roundg kj19
                                          case measure => have := HK1.out; have := HJ19.out; omega
                                          case rel => exact ⟨(wrap64 (x42_1 + 1)), (by first | rfl | (simp; done) | (simp [*]; done)), H', ⟨by have := HK1.out; have := HJ19.out; omega⟩, ⟨by (with_reducible repeat (first | apply Kd.R_alloc | apply Kd.R_drewN | apply Kd.R_drew)); exact HO_3.out⟩, ⟨by (with_reducible repeat (first | apply Kd.R_alloc | apply Kd.R_drewN | apply Kd.R_drew)); exact HO_40.out⟩, ⟨by (with_reducible repeat (first | refine blk_drewN ?_ _ | refine blk_drew ?_ | refine blk_alloc ?_ _)); exact BK313.out⟩, ⟨by repeat (first | (with_reducible first | exact HB.out | apply below_alloc | apply pw_below_drewN | apply below_drew1 | refine below_set ?_ GE313.out) | exact HB.out)⟩⟩
                                        · rw [if_neg c90] at H
                                          have c90b0 : ((rd t315 x42_1) == a0_2) = false := beq_eq_false_iff_ne.mpr c90
                                          have c90b1 : ((rd t315 x42_1) != a0_2) = true := bne_iff_ne.mpr c90
                                          obtain rfl := Option.some.inj H
                                          have hcz92_0 : wc.cell? ⟨gb313, 0, none⟩ = some (.slice (some ad321) l0_0.length c0_0) := (blk_cell BK313.out 0).trans rfl
                                          have hcz92_1 : wc.cell? ⟨gb313, 1, none⟩ = some (.slice (some ad320) l0_1.length c0_1) := (blk_cell BK313.out 1).trans rfl
                                          have hcz92_2 : wc.cell? ⟨gb313, 2, none⟩ = some (.int .i64 a0_2) := (blk_cell BK313.out 2).trans rfl
                                          have hcz92_3 : wc.cell? ⟨gb313, 3, none⟩ = some (.int .i64 a0_3) := (blk_cell BK313.out 3).trans rfl
                                          have hcz92_4 : wc.cell? ⟨gb313, 4, none⟩ = some (.int .i64 a0_4) := (blk_cell BK313.out 4).trans rfl
                                          have hfz92_0 := blk_frozen BK313.out 0
                                          have hfz92_1 := blk_frozen BK313.out 1
                                          have hfz92_2 := blk_frozen BK313.out 2
                                          have hfz92_3 := blk_frozen BK313.out 3
                                          have hfz92_4 := blk_frozen BK313.out 4
                                          go_wp2
                                          repeat (go_quiet (fail); try go_wp2)
                                          go_ret
                                          exact ⟨by first | rfl | (simp [errW_none, errW_some] <;> rfl) | (simp only [← hji16]; first | rfl | (simp [errW_none, errW_some] <;> rfl)) | (simp [*, errW_none, errW_some] <;> rfl), by repeat (first | (with_reducible first | exact HB.out | apply below_alloc | apply pw_below_drewN | apply below_drew1 | refine below_set ?_ GE313.out) | exact HB.out)⟩
                                      · rw [if_neg c89] at H
                                        have c89b0 : decide (0 ≤ (rd l0_1 (ji16))) = false := decide_eq_false c89
                                        clear c89
                                        have H' := Aside0.mk H
                                        clear H
                                        go_wp2
                                        repeat (go_quiet (fail); try go_wp2)
                                        go_roundg kj19
                                        case measure => have := HK1.out; have := HJ19.out; omega
                                        case rel => exact ⟨(wrap64 (x42_1 + 1)), (by first | rfl | (simp; done) | (simp [*]; done)), H', ⟨by have := HK1.out; have := HJ19.out; omega⟩, ⟨by (with_reducible repeat (first | apply Kd.R_alloc | apply Kd.R_drewN | apply Kd.R_drew)); exact HO_3.out⟩, ⟨by (with_reducible repeat (first | apply Kd.R_alloc | apply Kd.R_drewN | apply Kd.R_drew)); exact HO_40.out⟩, ⟨by (with_reducible repeat (first | refine blk_drewN ?_ _ | refine blk_drew ?_ | refine blk_alloc ?_ _)); exact BK313.out⟩, ⟨by repeat (first | (with_reducible first | exact HB.out | apply below_alloc | apply pw_below_drewN | apply below_drew1 | refine below_set ?_ GE313.out) | exact HB.out)⟩⟩
                                    · rw [if_neg c88] at H
                                      have c88b0 : ((rd l0_0 (ji16)) == 11) = false := beq_eq_false_iff_ne.mpr c88
                                      have c88b1 : ((rd l0_0 (ji16)) != 11) = true := bne_iff_ne.mpr c88
                                      by_cases c93 : (rd t315 x42_1) = (rd l0_1 (ji16))
                                      · rw [if_pos c93] at H
                                        have c93b0 : ((rd t315 x42_1) == (rd l0_1 (ji16))) = true := beq_iff_eq.mpr c93
                                        have c93b1 : ((rd t315 x42_1) != (rd l0_1 (ji16))) = false := bne_eq_false_iff_eq.mpr c93
                                        clear c93
                                        have H' := Aside0.mk H
                                        clear H
                                        go_wp2
                                        repeat (go_quiet (fail); try go_wp2)
                                        go_roundg kj19
                                        case measure => have := HK1.out; have := HJ19.out; omega
                                        case rel => exact ⟨(wrap64 (x42_1 + 1)), (by first | rfl | (simp; done) | (simp [*]; done)), H', ⟨by have := HK1.out; have := HJ19.out; omega⟩, ⟨by (with_reducible repeat (first | apply Kd.R_alloc | apply Kd.R_drewN | apply Kd.R_drew)); exact HO_3.out⟩, ⟨by (with_reducible repeat (first | apply Kd.R_alloc | apply Kd.R_drewN | apply Kd.R_drew)); exact HO_40.out⟩, ⟨by (with_reducible repeat (first | refine blk_drewN ?_ _ | refine blk_drew ?_ | refine blk_alloc ?_ _)); exact BK313.out⟩, ⟨by repeat (first | (with_reducible first | exact HB.out | apply below_alloc | apply pw_below_drewN | apply below_drew1 | refine below_set ?_ GE313.out) | exact HB.out)⟩⟩
                                      · rw [if_neg c93] at H
                                        have c93b0 : ((rd t315 x42_1) == (rd l0_1 (ji16))) = false := beq_eq_false_iff_ne.mpr c93
                                        have c93b1 : ((rd t315 x42_1) != (rd l0_1 (ji16))) = true := bne_iff_ne.mpr c93
                                        obtain rfl := Option.some.inj H
                                        go_wp2
                                        repeat (go_quiet (fail); try go_wp2)
                                        go_ret
                                        exact ⟨by first | rfl | (simp [errW_none, errW_some] <;> rfl) | (simp only [← hji16]; first | rfl | (simp [errW_none, errW_some] <;> rfl)) | (simp [*, errW_none, errW_some] <;> rfl), by repeat (first | (with_reducible first | exact HB.out | apply below_alloc | apply pw_below_drewN | apply below_drew1 | refine below_set ?_ GE313.out) | exact HB.out)⟩
                      · rw [if_neg c19] at H
                        exact absurd H (by simp)
                    · rw [if_neg c18] at H
                      exact absurd H (by simp)
                  · rw [if_neg c17] at H
                    exact absurd H (by simp)
                · rw [if_neg c15] at H
                  exact absurd H (by simp)
              · rw [if_neg c14] at H
                exact absurd H (by simp)
            · rw [if_neg c13] at H
              have c13b0 : decide (x42_1 < (t315.length : Int)) = false := decide_eq_false c13
              clear c13
              obtain rfl := Option.some.inj H
              go_wp2
              repeat (go_quiet (fail); try go_wp2)
              go_ret
              exact ⟨by first | rfl | (simp [errW_none, errW_some] <;> rfl) | (simp [*, errW_none, errW_some] <;> rfl), by repeat (first | (with_reducible first | exact HB.out | apply below_alloc | apply pw_below_drewN | apply below_drew1 | refine below_set ?_ GE313.out) | exact HB.out)⟩
      · rw [if_neg c6] at H
        have c6b0 : ((t315.length : Int) == (wrap64 (a0_4 - a0_3))) = false := beq_eq_false_iff_ne.mpr c6
        have c6b1 : ((t315.length : Int) != (wrap64 (a0_4 - a0_3))) = true := bne_iff_ne.mpr c6
        obtain rfl := Option.some.inj H
        go_enter Try.func19, Try.ntmps19
        go_wp2_with (first | ((with_reducible refine gate_dst (N := 1) rfl ?_); (try (refine gate_guard (by rfl) ?_; dsimp only)); refine box_event ?hg (N := 1) ?hd (cs := #[.slice A0_0 l0_0.length c0_0, .slice A0_1 l0_1.length c0_1, .int .i64 a0_2, .int .i64 a0_3, .int .i64 a0_4]) (t := 60) ?hr ?_; (case hd => rfl); (case hg => rfl); (case hr => first | (go_simp; done) | (go_simp; rfl)); intro gb313 hg w94 hbox hb; have n0_ := Aside0.mk (below_step (by repeat (first | (with_reducible first | exact HB.out | apply below_alloc | apply pw_below_drewN | apply below_drew1) | exact HB.out)) hb); have n1_ := Aside0.mk (hbox); have n2_ := Aside0.mk ((by rw [hg]; exact (below_size (by repeat (first | (with_reducible first | exact HB.out | apply below_alloc | apply pw_below_drewN | apply below_drew1) | exact HB.out))) : w.heap.size ≤ gb313)); have n3_ := Aside0.mk ((by rw [hg]; exact (below_size (by repeat (first | (with_reducible first | exact HB.out | apply below_alloc | apply pw_below_drewN | apply below_drew1) | exact HB.out))) : w.heap.size ≤ gb313)); clear HB; have HB := n0_; have BK313 := n1_; have GW313 := n2_; have GE313 := n3_; clear n0_ n1_ n2_ n3_; clear hb hbox hg) | (go_at_call 44; (with_reducible refine (colophonlaw13_works.calls k  true _ A2.out).mono ?_); rintro e w95 ⟨rfl, hb⟩; have n0_ := Aside0.mk (blk_below (g := gb313) (o := .cells #[.slice A0_0 l0_0.length c0_0, .slice A0_1 l0_1.length c0_1, .int .i64 a0_2, .int .i64 a0_3, .int .i64 a0_4] 60 (0, 0)) (by (with_reducible repeat (first | refine blk_drewN ?_ _ | refine blk_drew ?_ | refine blk_alloc ?_ _)); exact BK313.out) hb); have n1_ := Aside0.mk (below_step (by repeat (first | (with_reducible first | exact HB.out | apply below_alloc | apply pw_below_drewN | apply below_drew1 | refine below_set ?_ GE313.out) | exact HB.out)) hb); clear BK313; clear HB; have BK313 := n0_; have HB := n1_; clear n0_ n1_; (try clear hb); (try clear hb2); (try clear hk); (try clear hi); have hcz96_0 : w95.cell? ⟨gb313, 0, none⟩ = some (.slice A0_0 l0_0.length c0_0) := (blk_cell BK313.out 0).trans rfl; have hcz96_1 : w95.cell? ⟨gb313, 1, none⟩ = some (.slice A0_1 l0_1.length c0_1) := (blk_cell BK313.out 1).trans rfl; have hcz96_2 : w95.cell? ⟨gb313, 2, none⟩ = some (.int .i64 a0_2) := (blk_cell BK313.out 2).trans rfl; have hcz96_3 : w95.cell? ⟨gb313, 3, none⟩ = some (.int .i64 a0_3) := (blk_cell BK313.out 3).trans rfl; have hcz96_4 : w95.cell? ⟨gb313, 4, none⟩ = some (.int .i64 a0_4) := (blk_cell BK313.out 4).trans rfl; have hfz96_0 := blk_frozen BK313.out 0; have hfz96_1 := blk_frozen BK313.out 1; have hfz96_2 := blk_frozen BK313.out 2; have hfz96_3 := blk_frozen BK313.out 3; have hfz96_4 := blk_frozen BK313.out 4) | (go_at_call 45; (with_reducible refine (order_Line.calls _ _ l0_0 _ _ l0_1 a0_2 a0_3 a0_4 t315 t316 _ ?side1 ?side2 ?side3 ?side4 A4.out).mono ?_); (case side1 => repeat (first | exact (Kd.C_below HR0_0.out HB.out) | (with_reducible refine Kd.C_alloc ?_ _) | (with_reducible refine Kd.C_drewN ?_ _) | (with_reducible refine Kd.C_drew ?_))); (case side2 => exact HC0_0.out); (case side3 => repeat (first | exact (Kd.C_below HR0_1.out HB.out) | (with_reducible refine Kd.C_alloc ?_ _) | (with_reducible refine Kd.C_drewN ?_ _) | (with_reducible refine Kd.C_drew ?_))); (case side4 => exact HC0_1.out); rintro e w97 ⟨v317, rfl, ho0, hb⟩; have n0_ := Aside0.mk (Kd.R_lower ho0 (below_size (by repeat (first | (with_reducible first | exact HB.out | apply below_alloc | apply pw_below_drewN | apply below_drew1 | refine below_set ?_ GE313.out) | exact HB.out)))); have n1_ := Aside0.mk (blk_below (g := gb313) (o := .cells #[.slice A0_0 l0_0.length c0_0, .slice A0_1 l0_1.length c0_1, .int .i64 a0_2, .int .i64 a0_3, .int .i64 a0_4] 60 (0, 0)) (by (with_reducible repeat (first | refine blk_drewN ?_ _ | refine blk_drew ?_ | refine blk_alloc ?_ _)); exact BK313.out) hb); have n2_ := Aside0.mk (below_step (by repeat (first | (with_reducible first | exact HB.out | apply below_alloc | apply pw_below_drewN | apply below_drew1 | refine below_set ?_ GE313.out) | exact HB.out)) hb); clear BK313; clear HB; have HO318 := n0_; have BK313 := n1_; have HB := n2_; clear n0_ n1_ n2_; (try clear hb); (try clear hb2); (try clear hk); (try clear hi); (try clear ho0); obtain ⟨Ao98, co98, eo98⟩ := Kd.R_slice HO318.out; subst eo98; have hcz99_0 : w97.cell? ⟨gb313, 0, none⟩ = some (.slice A0_0 l0_0.length c0_0) := (blk_cell BK313.out 0).trans rfl; have hcz99_1 : w97.cell? ⟨gb313, 1, none⟩ = some (.slice A0_1 l0_1.length c0_1) := (blk_cell BK313.out 1).trans rfl; have hcz99_2 : w97.cell? ⟨gb313, 2, none⟩ = some (.int .i64 a0_2) := (blk_cell BK313.out 2).trans rfl; have hcz99_3 : w97.cell? ⟨gb313, 3, none⟩ = some (.int .i64 a0_3) := (blk_cell BK313.out 3).trans rfl; have hcz99_4 : w97.cell? ⟨gb313, 4, none⟩ = some (.int .i64 a0_4) := (blk_cell BK313.out 4).trans rfl; have hfz99_0 := blk_frozen BK313.out 0; have hfz99_1 := blk_frozen BK313.out 1; have hfz99_2 := blk_frozen BK313.out 2; have hfz99_3 := blk_frozen BK313.out 3; have hfz99_4 := blk_frozen BK313.out 4))
        repeat (go_quiet (first | ((with_reducible refine gate_dst (N := 1) rfl ?_); (try (refine gate_guard (by rfl) ?_; dsimp only)); refine box_event ?hg (N := 1) ?hd (cs := #[.slice A0_0 l0_0.length c0_0, .slice A0_1 l0_1.length c0_1, .int .i64 a0_2, .int .i64 a0_3, .int .i64 a0_4]) (t := 60) ?hr ?_; (case hd => rfl); (case hg => rfl); (case hr => first | (go_simp; done) | (go_simp; rfl)); intro gb313 hg w94 hbox hb; have n0_ := Aside0.mk (below_step (by repeat (first | (with_reducible first | exact HB.out | apply below_alloc | apply pw_below_drewN | apply below_drew1) | exact HB.out)) hb); have n1_ := Aside0.mk (hbox); have n2_ := Aside0.mk ((by rw [hg]; exact (below_size (by repeat (first | (with_reducible first | exact HB.out | apply below_alloc | apply pw_below_drewN | apply below_drew1) | exact HB.out))) : w.heap.size ≤ gb313)); have n3_ := Aside0.mk ((by rw [hg]; exact (below_size (by repeat (first | (with_reducible first | exact HB.out | apply below_alloc | apply pw_below_drewN | apply below_drew1) | exact HB.out))) : w.heap.size ≤ gb313)); clear HB; have HB := n0_; have BK313 := n1_; have GW313 := n2_; have GE313 := n3_; clear n0_ n1_ n2_ n3_; clear hb hbox hg) | (go_at_call 44; (with_reducible refine (colophonlaw13_works.calls k  true _ A2.out).mono ?_); rintro e w95 ⟨rfl, hb⟩; have n0_ := Aside0.mk (blk_below (g := gb313) (o := .cells #[.slice A0_0 l0_0.length c0_0, .slice A0_1 l0_1.length c0_1, .int .i64 a0_2, .int .i64 a0_3, .int .i64 a0_4] 60 (0, 0)) (by (with_reducible repeat (first | refine blk_drewN ?_ _ | refine blk_drew ?_ | refine blk_alloc ?_ _)); exact BK313.out) hb); have n1_ := Aside0.mk (below_step (by repeat (first | (with_reducible first | exact HB.out | apply below_alloc | apply pw_below_drewN | apply below_drew1 | refine below_set ?_ GE313.out) | exact HB.out)) hb); clear BK313; clear HB; have BK313 := n0_; have HB := n1_; clear n0_ n1_; (try clear hb); (try clear hb2); (try clear hk); (try clear hi); have hcz96_0 : w95.cell? ⟨gb313, 0, none⟩ = some (.slice A0_0 l0_0.length c0_0) := (blk_cell BK313.out 0).trans rfl; have hcz96_1 : w95.cell? ⟨gb313, 1, none⟩ = some (.slice A0_1 l0_1.length c0_1) := (blk_cell BK313.out 1).trans rfl; have hcz96_2 : w95.cell? ⟨gb313, 2, none⟩ = some (.int .i64 a0_2) := (blk_cell BK313.out 2).trans rfl; have hcz96_3 : w95.cell? ⟨gb313, 3, none⟩ = some (.int .i64 a0_3) := (blk_cell BK313.out 3).trans rfl; have hcz96_4 : w95.cell? ⟨gb313, 4, none⟩ = some (.int .i64 a0_4) := (blk_cell BK313.out 4).trans rfl; have hfz96_0 := blk_frozen BK313.out 0; have hfz96_1 := blk_frozen BK313.out 1; have hfz96_2 := blk_frozen BK313.out 2; have hfz96_3 := blk_frozen BK313.out 3; have hfz96_4 := blk_frozen BK313.out 4) | (go_at_call 45; (with_reducible refine (order_Line.calls _ _ l0_0 _ _ l0_1 a0_2 a0_3 a0_4 t315 t316 _ ?side1 ?side2 ?side3 ?side4 A4.out).mono ?_); (case side1 => repeat (first | exact (Kd.C_below HR0_0.out HB.out) | (with_reducible refine Kd.C_alloc ?_ _) | (with_reducible refine Kd.C_drewN ?_ _) | (with_reducible refine Kd.C_drew ?_))); (case side2 => exact HC0_0.out); (case side3 => repeat (first | exact (Kd.C_below HR0_1.out HB.out) | (with_reducible refine Kd.C_alloc ?_ _) | (with_reducible refine Kd.C_drewN ?_ _) | (with_reducible refine Kd.C_drew ?_))); (case side4 => exact HC0_1.out); rintro e w97 ⟨v317, rfl, ho0, hb⟩; have n0_ := Aside0.mk (Kd.R_lower ho0 (below_size (by repeat (first | (with_reducible first | exact HB.out | apply below_alloc | apply pw_below_drewN | apply below_drew1 | refine below_set ?_ GE313.out) | exact HB.out)))); have n1_ := Aside0.mk (blk_below (g := gb313) (o := .cells #[.slice A0_0 l0_0.length c0_0, .slice A0_1 l0_1.length c0_1, .int .i64 a0_2, .int .i64 a0_3, .int .i64 a0_4] 60 (0, 0)) (by (with_reducible repeat (first | refine blk_drewN ?_ _ | refine blk_drew ?_ | refine blk_alloc ?_ _)); exact BK313.out) hb); have n2_ := Aside0.mk (below_step (by repeat (first | (with_reducible first | exact HB.out | apply below_alloc | apply pw_below_drewN | apply below_drew1 | refine below_set ?_ GE313.out) | exact HB.out)) hb); clear BK313; clear HB; have HO318 := n0_; have BK313 := n1_; have HB := n2_; clear n0_ n1_ n2_; (try clear hb); (try clear hb2); (try clear hk); (try clear hi); (try clear ho0); obtain ⟨Ao98, co98, eo98⟩ := Kd.R_slice HO318.out; subst eo98; have hcz99_0 : w97.cell? ⟨gb313, 0, none⟩ = some (.slice A0_0 l0_0.length c0_0) := (blk_cell BK313.out 0).trans rfl; have hcz99_1 : w97.cell? ⟨gb313, 1, none⟩ = some (.slice A0_1 l0_1.length c0_1) := (blk_cell BK313.out 1).trans rfl; have hcz99_2 : w97.cell? ⟨gb313, 2, none⟩ = some (.int .i64 a0_2) := (blk_cell BK313.out 2).trans rfl; have hcz99_3 : w97.cell? ⟨gb313, 3, none⟩ = some (.int .i64 a0_3) := (blk_cell BK313.out 3).trans rfl; have hcz99_4 : w97.cell? ⟨gb313, 4, none⟩ = some (.int .i64 a0_4) := (blk_cell BK313.out 4).trans rfl; have hfz99_0 := blk_frozen BK313.out 0; have hfz99_1 := blk_frozen BK313.out 1; have hfz99_2 := blk_frozen BK313.out 2; have hfz99_3 := blk_frozen BK313.out 3; have hfz99_4 := blk_frozen BK313.out 4)); try go_wp2_with (first | ((with_reducible refine gate_dst (N := 1) rfl ?_); (try (refine gate_guard (by rfl) ?_; dsimp only)); refine box_event ?hg (N := 1) ?hd (cs := #[.slice A0_0 l0_0.length c0_0, .slice A0_1 l0_1.length c0_1, .int .i64 a0_2, .int .i64 a0_3, .int .i64 a0_4]) (t := 60) ?hr ?_; (case hd => rfl); (case hg => rfl); (case hr => first | (go_simp; done) | (go_simp; rfl)); intro gb313 hg w94 hbox hb; have n0_ := Aside0.mk (below_step (by repeat (first | (with_reducible first | exact HB.out | apply below_alloc | apply pw_below_drewN | apply below_drew1) | exact HB.out)) hb); have n1_ := Aside0.mk (hbox); have n2_ := Aside0.mk ((by rw [hg]; exact (below_size (by repeat (first | (with_reducible first | exact HB.out | apply below_alloc | apply pw_below_drewN | apply below_drew1) | exact HB.out))) : w.heap.size ≤ gb313)); have n3_ := Aside0.mk ((by rw [hg]; exact (below_size (by repeat (first | (with_reducible first | exact HB.out | apply below_alloc | apply pw_below_drewN | apply below_drew1) | exact HB.out))) : w.heap.size ≤ gb313)); clear HB; have HB := n0_; have BK313 := n1_; have GW313 := n2_; have GE313 := n3_; clear n0_ n1_ n2_ n3_; clear hb hbox hg) | (go_at_call 44; (with_reducible refine (colophonlaw13_works.calls k  true _ A2.out).mono ?_); rintro e w95 ⟨rfl, hb⟩; have n0_ := Aside0.mk (blk_below (g := gb313) (o := .cells #[.slice A0_0 l0_0.length c0_0, .slice A0_1 l0_1.length c0_1, .int .i64 a0_2, .int .i64 a0_3, .int .i64 a0_4] 60 (0, 0)) (by (with_reducible repeat (first | refine blk_drewN ?_ _ | refine blk_drew ?_ | refine blk_alloc ?_ _)); exact BK313.out) hb); have n1_ := Aside0.mk (below_step (by repeat (first | (with_reducible first | exact HB.out | apply below_alloc | apply pw_below_drewN | apply below_drew1 | refine below_set ?_ GE313.out) | exact HB.out)) hb); clear BK313; clear HB; have BK313 := n0_; have HB := n1_; clear n0_ n1_; (try clear hb); (try clear hb2); (try clear hk); (try clear hi); have hcz96_0 : w95.cell? ⟨gb313, 0, none⟩ = some (.slice A0_0 l0_0.length c0_0) := (blk_cell BK313.out 0).trans rfl; have hcz96_1 : w95.cell? ⟨gb313, 1, none⟩ = some (.slice A0_1 l0_1.length c0_1) := (blk_cell BK313.out 1).trans rfl; have hcz96_2 : w95.cell? ⟨gb313, 2, none⟩ = some (.int .i64 a0_2) := (blk_cell BK313.out 2).trans rfl; have hcz96_3 : w95.cell? ⟨gb313, 3, none⟩ = some (.int .i64 a0_3) := (blk_cell BK313.out 3).trans rfl; have hcz96_4 : w95.cell? ⟨gb313, 4, none⟩ = some (.int .i64 a0_4) := (blk_cell BK313.out 4).trans rfl; have hfz96_0 := blk_frozen BK313.out 0; have hfz96_1 := blk_frozen BK313.out 1; have hfz96_2 := blk_frozen BK313.out 2; have hfz96_3 := blk_frozen BK313.out 3; have hfz96_4 := blk_frozen BK313.out 4) | (go_at_call 45; (with_reducible refine (order_Line.calls _ _ l0_0 _ _ l0_1 a0_2 a0_3 a0_4 t315 t316 _ ?side1 ?side2 ?side3 ?side4 A4.out).mono ?_); (case side1 => repeat (first | exact (Kd.C_below HR0_0.out HB.out) | (with_reducible refine Kd.C_alloc ?_ _) | (with_reducible refine Kd.C_drewN ?_ _) | (with_reducible refine Kd.C_drew ?_))); (case side2 => exact HC0_0.out); (case side3 => repeat (first | exact (Kd.C_below HR0_1.out HB.out) | (with_reducible refine Kd.C_alloc ?_ _) | (with_reducible refine Kd.C_drewN ?_ _) | (with_reducible refine Kd.C_drew ?_))); (case side4 => exact HC0_1.out); rintro e w97 ⟨v317, rfl, ho0, hb⟩; have n0_ := Aside0.mk (Kd.R_lower ho0 (below_size (by repeat (first | (with_reducible first | exact HB.out | apply below_alloc | apply pw_below_drewN | apply below_drew1 | refine below_set ?_ GE313.out) | exact HB.out)))); have n1_ := Aside0.mk (blk_below (g := gb313) (o := .cells #[.slice A0_0 l0_0.length c0_0, .slice A0_1 l0_1.length c0_1, .int .i64 a0_2, .int .i64 a0_3, .int .i64 a0_4] 60 (0, 0)) (by (with_reducible repeat (first | refine blk_drewN ?_ _ | refine blk_drew ?_ | refine blk_alloc ?_ _)); exact BK313.out) hb); have n2_ := Aside0.mk (below_step (by repeat (first | (with_reducible first | exact HB.out | apply below_alloc | apply pw_below_drewN | apply below_drew1 | refine below_set ?_ GE313.out) | exact HB.out)) hb); clear BK313; clear HB; have HO318 := n0_; have BK313 := n1_; have HB := n2_; clear n0_ n1_ n2_; (try clear hb); (try clear hb2); (try clear hk); (try clear hi); (try clear ho0); obtain ⟨Ao98, co98, eo98⟩ := Kd.R_slice HO318.out; subst eo98; have hcz99_0 : w97.cell? ⟨gb313, 0, none⟩ = some (.slice A0_0 l0_0.length c0_0) := (blk_cell BK313.out 0).trans rfl; have hcz99_1 : w97.cell? ⟨gb313, 1, none⟩ = some (.slice A0_1 l0_1.length c0_1) := (blk_cell BK313.out 1).trans rfl; have hcz99_2 : w97.cell? ⟨gb313, 2, none⟩ = some (.int .i64 a0_2) := (blk_cell BK313.out 2).trans rfl; have hcz99_3 : w97.cell? ⟨gb313, 3, none⟩ = some (.int .i64 a0_3) := (blk_cell BK313.out 3).trans rfl; have hcz99_4 : w97.cell? ⟨gb313, 4, none⟩ = some (.int .i64 a0_4) := (blk_cell BK313.out 4).trans rfl; have hfz99_0 := blk_frozen BK313.out 0; have hfz99_1 := blk_frozen BK313.out 1; have hfz99_2 := blk_frozen BK313.out 2; have hfz99_3 := blk_frozen BK313.out 3; have hfz99_4 := blk_frozen BK313.out 4)))
        go_ret
        exact ⟨by first | rfl | (simp [errW_none, errW_some] <;> rfl) | (simp [*, errW_none, errW_some] <;> rfl), by repeat (first | (with_reducible first | exact HB.out | apply below_alloc | apply pw_below_drewN | apply below_drew1 | refine below_set ?_ GE313.out) | exact HB.out)⟩
    · rw [if_neg c5] at H
      have c5b0 : (t316 == 0) = false := beq_eq_false_iff_ne.mpr c5
      have c5b1 : (t316 != 0) = true := bne_iff_ne.mpr c5
      obtain rfl := Option.some.inj H
      go_enter Try.func19, Try.ntmps19
      go_wp2_with (first | ((with_reducible refine gate_dst (N := 1) rfl ?_); (try (refine gate_guard (by rfl) ?_; dsimp only)); refine box_event ?hg (N := 1) ?hd (cs := #[.slice A0_0 l0_0.length c0_0, .slice A0_1 l0_1.length c0_1, .int .i64 a0_2, .int .i64 a0_3, .int .i64 a0_4]) (t := 60) ?hr ?_; (case hd => rfl); (case hg => rfl); (case hr => first | (go_simp; done) | (go_simp; rfl)); intro gb313 hg w100 hbox hb; have n0_ := Aside0.mk (below_step (by repeat (first | (with_reducible first | exact HB.out | apply below_alloc | apply pw_below_drewN | apply below_drew1) | exact HB.out)) hb); have n1_ := Aside0.mk (hbox); have n2_ := Aside0.mk ((by rw [hg]; exact (below_size (by repeat (first | (with_reducible first | exact HB.out | apply below_alloc | apply pw_below_drewN | apply below_drew1) | exact HB.out))) : w.heap.size ≤ gb313)); have n3_ := Aside0.mk ((by rw [hg]; exact (below_size (by repeat (first | (with_reducible first | exact HB.out | apply below_alloc | apply pw_below_drewN | apply below_drew1) | exact HB.out))) : w.heap.size ≤ gb313)); clear HB; have HB := n0_; have BK313 := n1_; have GW313 := n2_; have GE313 := n3_; clear n0_ n1_ n2_ n3_; clear hb hbox hg) | (go_at_call 44; (with_reducible refine (colophonlaw13_works.calls k  true _ A2.out).mono ?_); rintro e w101 ⟨rfl, hb⟩; have n0_ := Aside0.mk (blk_below (g := gb313) (o := .cells #[.slice A0_0 l0_0.length c0_0, .slice A0_1 l0_1.length c0_1, .int .i64 a0_2, .int .i64 a0_3, .int .i64 a0_4] 60 (0, 0)) (by (with_reducible repeat (first | refine blk_drewN ?_ _ | refine blk_drew ?_ | refine blk_alloc ?_ _)); exact BK313.out) hb); have n1_ := Aside0.mk (below_step (by repeat (first | (with_reducible first | exact HB.out | apply below_alloc | apply pw_below_drewN | apply below_drew1 | refine below_set ?_ GE313.out) | exact HB.out)) hb); clear BK313; clear HB; have BK313 := n0_; have HB := n1_; clear n0_ n1_; (try clear hb); (try clear hb2); (try clear hk); (try clear hi); have hcz102_0 : w101.cell? ⟨gb313, 0, none⟩ = some (.slice A0_0 l0_0.length c0_0) := (blk_cell BK313.out 0).trans rfl; have hcz102_1 : w101.cell? ⟨gb313, 1, none⟩ = some (.slice A0_1 l0_1.length c0_1) := (blk_cell BK313.out 1).trans rfl; have hcz102_2 : w101.cell? ⟨gb313, 2, none⟩ = some (.int .i64 a0_2) := (blk_cell BK313.out 2).trans rfl; have hcz102_3 : w101.cell? ⟨gb313, 3, none⟩ = some (.int .i64 a0_3) := (blk_cell BK313.out 3).trans rfl; have hcz102_4 : w101.cell? ⟨gb313, 4, none⟩ = some (.int .i64 a0_4) := (blk_cell BK313.out 4).trans rfl; have hfz102_0 := blk_frozen BK313.out 0; have hfz102_1 := blk_frozen BK313.out 1; have hfz102_2 := blk_frozen BK313.out 2; have hfz102_3 := blk_frozen BK313.out 3; have hfz102_4 := blk_frozen BK313.out 4) | (go_at_call 45; (with_reducible refine (order_Line.calls _ _ l0_0 _ _ l0_1 a0_2 a0_3 a0_4 t315 t316 _ ?side1 ?side2 ?side3 ?side4 A4.out).mono ?_); (case side1 => repeat (first | exact (Kd.C_below HR0_0.out HB.out) | (with_reducible refine Kd.C_alloc ?_ _) | (with_reducible refine Kd.C_drewN ?_ _) | (with_reducible refine Kd.C_drew ?_))); (case side2 => exact HC0_0.out); (case side3 => repeat (first | exact (Kd.C_below HR0_1.out HB.out) | (with_reducible refine Kd.C_alloc ?_ _) | (with_reducible refine Kd.C_drewN ?_ _) | (with_reducible refine Kd.C_drew ?_))); (case side4 => exact HC0_1.out); rintro e w103 ⟨v317, rfl, ho0, hb⟩; have n0_ := Aside0.mk (Kd.R_lower ho0 (below_size (by repeat (first | (with_reducible first | exact HB.out | apply below_alloc | apply pw_below_drewN | apply below_drew1 | refine below_set ?_ GE313.out) | exact HB.out)))); have n1_ := Aside0.mk (blk_below (g := gb313) (o := .cells #[.slice A0_0 l0_0.length c0_0, .slice A0_1 l0_1.length c0_1, .int .i64 a0_2, .int .i64 a0_3, .int .i64 a0_4] 60 (0, 0)) (by (with_reducible repeat (first | refine blk_drewN ?_ _ | refine blk_drew ?_ | refine blk_alloc ?_ _)); exact BK313.out) hb); have n2_ := Aside0.mk (below_step (by repeat (first | (with_reducible first | exact HB.out | apply below_alloc | apply pw_below_drewN | apply below_drew1 | refine below_set ?_ GE313.out) | exact HB.out)) hb); clear BK313; clear HB; have HO318 := n0_; have BK313 := n1_; have HB := n2_; clear n0_ n1_ n2_; (try clear hb); (try clear hb2); (try clear hk); (try clear hi); (try clear ho0); obtain ⟨Ao104, co104, eo104⟩ := Kd.R_slice HO318.out; subst eo104))
      repeat (go_quiet (first | ((with_reducible refine gate_dst (N := 1) rfl ?_); (try (refine gate_guard (by rfl) ?_; dsimp only)); refine box_event ?hg (N := 1) ?hd (cs := #[.slice A0_0 l0_0.length c0_0, .slice A0_1 l0_1.length c0_1, .int .i64 a0_2, .int .i64 a0_3, .int .i64 a0_4]) (t := 60) ?hr ?_; (case hd => rfl); (case hg => rfl); (case hr => first | (go_simp; done) | (go_simp; rfl)); intro gb313 hg w100 hbox hb; have n0_ := Aside0.mk (below_step (by repeat (first | (with_reducible first | exact HB.out | apply below_alloc | apply pw_below_drewN | apply below_drew1) | exact HB.out)) hb); have n1_ := Aside0.mk (hbox); have n2_ := Aside0.mk ((by rw [hg]; exact (below_size (by repeat (first | (with_reducible first | exact HB.out | apply below_alloc | apply pw_below_drewN | apply below_drew1) | exact HB.out))) : w.heap.size ≤ gb313)); have n3_ := Aside0.mk ((by rw [hg]; exact (below_size (by repeat (first | (with_reducible first | exact HB.out | apply below_alloc | apply pw_below_drewN | apply below_drew1) | exact HB.out))) : w.heap.size ≤ gb313)); clear HB; have HB := n0_; have BK313 := n1_; have GW313 := n2_; have GE313 := n3_; clear n0_ n1_ n2_ n3_; clear hb hbox hg) | (go_at_call 44; (with_reducible refine (colophonlaw13_works.calls k  true _ A2.out).mono ?_); rintro e w101 ⟨rfl, hb⟩; have n0_ := Aside0.mk (blk_below (g := gb313) (o := .cells #[.slice A0_0 l0_0.length c0_0, .slice A0_1 l0_1.length c0_1, .int .i64 a0_2, .int .i64 a0_3, .int .i64 a0_4] 60 (0, 0)) (by (with_reducible repeat (first | refine blk_drewN ?_ _ | refine blk_drew ?_ | refine blk_alloc ?_ _)); exact BK313.out) hb); have n1_ := Aside0.mk (below_step (by repeat (first | (with_reducible first | exact HB.out | apply below_alloc | apply pw_below_drewN | apply below_drew1 | refine below_set ?_ GE313.out) | exact HB.out)) hb); clear BK313; clear HB; have BK313 := n0_; have HB := n1_; clear n0_ n1_; (try clear hb); (try clear hb2); (try clear hk); (try clear hi); have hcz102_0 : w101.cell? ⟨gb313, 0, none⟩ = some (.slice A0_0 l0_0.length c0_0) := (blk_cell BK313.out 0).trans rfl; have hcz102_1 : w101.cell? ⟨gb313, 1, none⟩ = some (.slice A0_1 l0_1.length c0_1) := (blk_cell BK313.out 1).trans rfl; have hcz102_2 : w101.cell? ⟨gb313, 2, none⟩ = some (.int .i64 a0_2) := (blk_cell BK313.out 2).trans rfl; have hcz102_3 : w101.cell? ⟨gb313, 3, none⟩ = some (.int .i64 a0_3) := (blk_cell BK313.out 3).trans rfl; have hcz102_4 : w101.cell? ⟨gb313, 4, none⟩ = some (.int .i64 a0_4) := (blk_cell BK313.out 4).trans rfl; have hfz102_0 := blk_frozen BK313.out 0; have hfz102_1 := blk_frozen BK313.out 1; have hfz102_2 := blk_frozen BK313.out 2; have hfz102_3 := blk_frozen BK313.out 3; have hfz102_4 := blk_frozen BK313.out 4) | (go_at_call 45; (with_reducible refine (order_Line.calls _ _ l0_0 _ _ l0_1 a0_2 a0_3 a0_4 t315 t316 _ ?side1 ?side2 ?side3 ?side4 A4.out).mono ?_); (case side1 => repeat (first | exact (Kd.C_below HR0_0.out HB.out) | (with_reducible refine Kd.C_alloc ?_ _) | (with_reducible refine Kd.C_drewN ?_ _) | (with_reducible refine Kd.C_drew ?_))); (case side2 => exact HC0_0.out); (case side3 => repeat (first | exact (Kd.C_below HR0_1.out HB.out) | (with_reducible refine Kd.C_alloc ?_ _) | (with_reducible refine Kd.C_drewN ?_ _) | (with_reducible refine Kd.C_drew ?_))); (case side4 => exact HC0_1.out); rintro e w103 ⟨v317, rfl, ho0, hb⟩; have n0_ := Aside0.mk (Kd.R_lower ho0 (below_size (by repeat (first | (with_reducible first | exact HB.out | apply below_alloc | apply pw_below_drewN | apply below_drew1 | refine below_set ?_ GE313.out) | exact HB.out)))); have n1_ := Aside0.mk (blk_below (g := gb313) (o := .cells #[.slice A0_0 l0_0.length c0_0, .slice A0_1 l0_1.length c0_1, .int .i64 a0_2, .int .i64 a0_3, .int .i64 a0_4] 60 (0, 0)) (by (with_reducible repeat (first | refine blk_drewN ?_ _ | refine blk_drew ?_ | refine blk_alloc ?_ _)); exact BK313.out) hb); have n2_ := Aside0.mk (below_step (by repeat (first | (with_reducible first | exact HB.out | apply below_alloc | apply pw_below_drewN | apply below_drew1 | refine below_set ?_ GE313.out) | exact HB.out)) hb); clear BK313; clear HB; have HO318 := n0_; have BK313 := n1_; have HB := n2_; clear n0_ n1_ n2_; (try clear hb); (try clear hb2); (try clear hk); (try clear hi); (try clear ho0); obtain ⟨Ao104, co104, eo104⟩ := Kd.R_slice HO318.out; subst eo104)); try go_wp2_with (first | ((with_reducible refine gate_dst (N := 1) rfl ?_); (try (refine gate_guard (by rfl) ?_; dsimp only)); refine box_event ?hg (N := 1) ?hd (cs := #[.slice A0_0 l0_0.length c0_0, .slice A0_1 l0_1.length c0_1, .int .i64 a0_2, .int .i64 a0_3, .int .i64 a0_4]) (t := 60) ?hr ?_; (case hd => rfl); (case hg => rfl); (case hr => first | (go_simp; done) | (go_simp; rfl)); intro gb313 hg w100 hbox hb; have n0_ := Aside0.mk (below_step (by repeat (first | (with_reducible first | exact HB.out | apply below_alloc | apply pw_below_drewN | apply below_drew1) | exact HB.out)) hb); have n1_ := Aside0.mk (hbox); have n2_ := Aside0.mk ((by rw [hg]; exact (below_size (by repeat (first | (with_reducible first | exact HB.out | apply below_alloc | apply pw_below_drewN | apply below_drew1) | exact HB.out))) : w.heap.size ≤ gb313)); have n3_ := Aside0.mk ((by rw [hg]; exact (below_size (by repeat (first | (with_reducible first | exact HB.out | apply below_alloc | apply pw_below_drewN | apply below_drew1) | exact HB.out))) : w.heap.size ≤ gb313)); clear HB; have HB := n0_; have BK313 := n1_; have GW313 := n2_; have GE313 := n3_; clear n0_ n1_ n2_ n3_; clear hb hbox hg) | (go_at_call 44; (with_reducible refine (colophonlaw13_works.calls k  true _ A2.out).mono ?_); rintro e w101 ⟨rfl, hb⟩; have n0_ := Aside0.mk (blk_below (g := gb313) (o := .cells #[.slice A0_0 l0_0.length c0_0, .slice A0_1 l0_1.length c0_1, .int .i64 a0_2, .int .i64 a0_3, .int .i64 a0_4] 60 (0, 0)) (by (with_reducible repeat (first | refine blk_drewN ?_ _ | refine blk_drew ?_ | refine blk_alloc ?_ _)); exact BK313.out) hb); have n1_ := Aside0.mk (below_step (by repeat (first | (with_reducible first | exact HB.out | apply below_alloc | apply pw_below_drewN | apply below_drew1 | refine below_set ?_ GE313.out) | exact HB.out)) hb); clear BK313; clear HB; have BK313 := n0_; have HB := n1_; clear n0_ n1_; (try clear hb); (try clear hb2); (try clear hk); (try clear hi); have hcz102_0 : w101.cell? ⟨gb313, 0, none⟩ = some (.slice A0_0 l0_0.length c0_0) := (blk_cell BK313.out 0).trans rfl; have hcz102_1 : w101.cell? ⟨gb313, 1, none⟩ = some (.slice A0_1 l0_1.length c0_1) := (blk_cell BK313.out 1).trans rfl; have hcz102_2 : w101.cell? ⟨gb313, 2, none⟩ = some (.int .i64 a0_2) := (blk_cell BK313.out 2).trans rfl; have hcz102_3 : w101.cell? ⟨gb313, 3, none⟩ = some (.int .i64 a0_3) := (blk_cell BK313.out 3).trans rfl; have hcz102_4 : w101.cell? ⟨gb313, 4, none⟩ = some (.int .i64 a0_4) := (blk_cell BK313.out 4).trans rfl; have hfz102_0 := blk_frozen BK313.out 0; have hfz102_1 := blk_frozen BK313.out 1; have hfz102_2 := blk_frozen BK313.out 2; have hfz102_3 := blk_frozen BK313.out 3; have hfz102_4 := blk_frozen BK313.out 4) | (go_at_call 45; (with_reducible refine (order_Line.calls _ _ l0_0 _ _ l0_1 a0_2 a0_3 a0_4 t315 t316 _ ?side1 ?side2 ?side3 ?side4 A4.out).mono ?_); (case side1 => repeat (first | exact (Kd.C_below HR0_0.out HB.out) | (with_reducible refine Kd.C_alloc ?_ _) | (with_reducible refine Kd.C_drewN ?_ _) | (with_reducible refine Kd.C_drew ?_))); (case side2 => exact HC0_0.out); (case side3 => repeat (first | exact (Kd.C_below HR0_1.out HB.out) | (with_reducible refine Kd.C_alloc ?_ _) | (with_reducible refine Kd.C_drewN ?_ _) | (with_reducible refine Kd.C_drew ?_))); (case side4 => exact HC0_1.out); rintro e w103 ⟨v317, rfl, ho0, hb⟩; have n0_ := Aside0.mk (Kd.R_lower ho0 (below_size (by repeat (first | (with_reducible first | exact HB.out | apply below_alloc | apply pw_below_drewN | apply below_drew1 | refine below_set ?_ GE313.out) | exact HB.out)))); have n1_ := Aside0.mk (blk_below (g := gb313) (o := .cells #[.slice A0_0 l0_0.length c0_0, .slice A0_1 l0_1.length c0_1, .int .i64 a0_2, .int .i64 a0_3, .int .i64 a0_4] 60 (0, 0)) (by (with_reducible repeat (first | refine blk_drewN ?_ _ | refine blk_drew ?_ | refine blk_alloc ?_ _)); exact BK313.out) hb); have n2_ := Aside0.mk (below_step (by repeat (first | (with_reducible first | exact HB.out | apply below_alloc | apply pw_below_drewN | apply below_drew1 | refine below_set ?_ GE313.out) | exact HB.out)) hb); clear BK313; clear HB; have HO318 := n0_; have BK313 := n1_; have HB := n2_; clear n0_ n1_ n2_; (try clear hb); (try clear hb2); (try clear hk); (try clear hi); (try clear ho0); obtain ⟨Ao104, co104, eo104⟩ := Kd.R_slice HO318.out; subst eo104)))
      go_ret
      exact ⟨by first | rfl | (simp [errW_none, errW_some] <;> rfl) | (simp [*, errW_none, errW_some] <;> rfl), by repeat (first | (with_reducible first | exact HB.out | apply below_alloc | apply pw_below_drewN | apply below_drew1 | refine below_set ?_ GE313.out) | exact HB.out)⟩
  · replace c3 := Bool.eq_false_iff.mpr c3
    subst c3
    have H1 : (some false) = some r := by rw [if_neg (show ¬ (false = true) by decide)] at H; exact H
    clear H
    have H := H1
    clear H1
    obtain rfl := Option.some.inj H
    go_enter Try.func19, Try.ntmps19
    go_wp2_with (first | ((with_reducible refine gate_dst (N := 1) rfl ?_); (try (refine gate_guard (by rfl) ?_; dsimp only)); refine box_event ?hg (N := 1) ?hd (cs := #[.slice A0_0 l0_0.length c0_0, .slice A0_1 l0_1.length c0_1, .int .i64 a0_2, .int .i64 a0_3, .int .i64 a0_4]) (t := 60) ?hr ?_; (case hd => rfl); (case hg => rfl); (case hr => first | (go_simp; done) | (go_simp; rfl)); intro gb313 hg w105 hbox hb; have n0_ := Aside0.mk (below_step (by repeat (first | (with_reducible first | exact HB.out | apply below_alloc | apply pw_below_drewN | apply below_drew1) | exact HB.out)) hb); have n1_ := Aside0.mk (hbox); have n2_ := Aside0.mk ((by rw [hg]; exact (below_size (by repeat (first | (with_reducible first | exact HB.out | apply below_alloc | apply pw_below_drewN | apply below_drew1) | exact HB.out))) : w.heap.size ≤ gb313)); have n3_ := Aside0.mk ((by rw [hg]; exact (below_size (by repeat (first | (with_reducible first | exact HB.out | apply below_alloc | apply pw_below_drewN | apply below_drew1) | exact HB.out))) : w.heap.size ≤ gb313)); clear HB; have HB := n0_; have BK313 := n1_; have GW313 := n2_; have GE313 := n3_; clear n0_ n1_ n2_ n3_; clear hb hbox hg) | (go_at_call 44; (with_reducible refine (colophonlaw13_works.calls k  false _ A2.out).mono ?_); rintro e w106 ⟨rfl, hb⟩; have n0_ := Aside0.mk (blk_below (g := gb313) (o := .cells #[.slice A0_0 l0_0.length c0_0, .slice A0_1 l0_1.length c0_1, .int .i64 a0_2, .int .i64 a0_3, .int .i64 a0_4] 60 (0, 0)) (by (with_reducible repeat (first | refine blk_drewN ?_ _ | refine blk_drew ?_ | refine blk_alloc ?_ _)); exact BK313.out) hb); have n1_ := Aside0.mk (below_step (by repeat (first | (with_reducible first | exact HB.out | apply below_alloc | apply pw_below_drewN | apply below_drew1 | refine below_set ?_ GE313.out) | exact HB.out)) hb); clear BK313; clear HB; have BK313 := n0_; have HB := n1_; clear n0_ n1_; (try clear hb); (try clear hb2); (try clear hk); (try clear hi)))
    repeat (go_quiet (first | ((with_reducible refine gate_dst (N := 1) rfl ?_); (try (refine gate_guard (by rfl) ?_; dsimp only)); refine box_event ?hg (N := 1) ?hd (cs := #[.slice A0_0 l0_0.length c0_0, .slice A0_1 l0_1.length c0_1, .int .i64 a0_2, .int .i64 a0_3, .int .i64 a0_4]) (t := 60) ?hr ?_; (case hd => rfl); (case hg => rfl); (case hr => first | (go_simp; done) | (go_simp; rfl)); intro gb313 hg w105 hbox hb; have n0_ := Aside0.mk (below_step (by repeat (first | (with_reducible first | exact HB.out | apply below_alloc | apply pw_below_drewN | apply below_drew1) | exact HB.out)) hb); have n1_ := Aside0.mk (hbox); have n2_ := Aside0.mk ((by rw [hg]; exact (below_size (by repeat (first | (with_reducible first | exact HB.out | apply below_alloc | apply pw_below_drewN | apply below_drew1) | exact HB.out))) : w.heap.size ≤ gb313)); have n3_ := Aside0.mk ((by rw [hg]; exact (below_size (by repeat (first | (with_reducible first | exact HB.out | apply below_alloc | apply pw_below_drewN | apply below_drew1) | exact HB.out))) : w.heap.size ≤ gb313)); clear HB; have HB := n0_; have BK313 := n1_; have GW313 := n2_; have GE313 := n3_; clear n0_ n1_ n2_ n3_; clear hb hbox hg) | (go_at_call 44; (with_reducible refine (colophonlaw13_works.calls k  false _ A2.out).mono ?_); rintro e w106 ⟨rfl, hb⟩; have n0_ := Aside0.mk (blk_below (g := gb313) (o := .cells #[.slice A0_0 l0_0.length c0_0, .slice A0_1 l0_1.length c0_1, .int .i64 a0_2, .int .i64 a0_3, .int .i64 a0_4] 60 (0, 0)) (by (with_reducible repeat (first | refine blk_drewN ?_ _ | refine blk_drew ?_ | refine blk_alloc ?_ _)); exact BK313.out) hb); have n1_ := Aside0.mk (below_step (by repeat (first | (with_reducible first | exact HB.out | apply below_alloc | apply pw_below_drewN | apply below_drew1 | refine below_set ?_ GE313.out) | exact HB.out)) hb); clear BK313; clear HB; have BK313 := n0_; have HB := n1_; clear n0_ n1_; (try clear hb); (try clear hb2); (try clear hk); (try clear hi))); try go_wp2_with (first | ((with_reducible refine gate_dst (N := 1) rfl ?_); (try (refine gate_guard (by rfl) ?_; dsimp only)); refine box_event ?hg (N := 1) ?hd (cs := #[.slice A0_0 l0_0.length c0_0, .slice A0_1 l0_1.length c0_1, .int .i64 a0_2, .int .i64 a0_3, .int .i64 a0_4]) (t := 60) ?hr ?_; (case hd => rfl); (case hg => rfl); (case hr => first | (go_simp; done) | (go_simp; rfl)); intro gb313 hg w105 hbox hb; have n0_ := Aside0.mk (below_step (by repeat (first | (with_reducible first | exact HB.out | apply below_alloc | apply pw_below_drewN | apply below_drew1) | exact HB.out)) hb); have n1_ := Aside0.mk (hbox); have n2_ := Aside0.mk ((by rw [hg]; exact (below_size (by repeat (first | (with_reducible first | exact HB.out | apply below_alloc | apply pw_below_drewN | apply below_drew1) | exact HB.out))) : w.heap.size ≤ gb313)); have n3_ := Aside0.mk ((by rw [hg]; exact (below_size (by repeat (first | (with_reducible first | exact HB.out | apply below_alloc | apply pw_below_drewN | apply below_drew1) | exact HB.out))) : w.heap.size ≤ gb313)); clear HB; have HB := n0_; have BK313 := n1_; have GW313 := n2_; have GE313 := n3_; clear n0_ n1_ n2_ n3_; clear hb hbox hg) | (go_at_call 44; (with_reducible refine (colophonlaw13_works.calls k  false _ A2.out).mono ?_); rintro e w106 ⟨rfl, hb⟩; have n0_ := Aside0.mk (blk_below (g := gb313) (o := .cells #[.slice A0_0 l0_0.length c0_0, .slice A0_1 l0_1.length c0_1, .int .i64 a0_2, .int .i64 a0_3, .int .i64 a0_4] 60 (0, 0)) (by (with_reducible repeat (first | refine blk_drewN ?_ _ | refine blk_drew ?_ | refine blk_alloc ?_ _)); exact BK313.out) hb); have n1_ := Aside0.mk (below_step (by repeat (first | (with_reducible first | exact HB.out | apply below_alloc | apply pw_below_drewN | apply below_drew1 | refine below_set ?_ GE313.out) | exact HB.out)) hb); clear BK313; clear HB; have BK313 := n0_; have HB := n1_; clear n0_ n1_; (try clear hb); (try clear hb2); (try clear hk); (try clear hi))))
    go_ret
    exact ⟨by first | rfl | (simp [errW_none, errW_some] <;> rfl) | (simp [*, errW_none, errW_some] <;> rfl), by repeat (first | (with_reducible first | exact HB.out | apply below_alloc | apply pw_below_drewN | apply below_drew1 | refine below_set ?_ GE313.out) | exact HB.out)⟩

end Go.Proofs.Ytccleelhheilnaa.F
