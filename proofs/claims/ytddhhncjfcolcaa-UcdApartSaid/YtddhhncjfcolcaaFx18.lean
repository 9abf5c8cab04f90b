-- PRINTED by print.py (a twelfth state) out of the translation. Not trusted: Lean checks it.
import Derived.Test.YtddhhncjfcolcaaFx0
import Derived.Test.YtddhhncjfcolcaaFx7
import Derived.Test.YtddhhncjfcolcaaFx13
import Derived.Test.YtddhhncjfcolcaaFGCls
namespace Go.Proofs.Ytddhhncjfcolcaa.F
open Go.RowKit Go.Proofs.YtddhhncjfcolcaaW.PrintWords Go.Proofs.YtddhhncjfcolcaaW.PrintLast Go.Proofs.YtddhhncjfcolcaaW.PrintMore
attribute [local go_sem] max2_int min2_int max_two min_two max_three min_three max_four min_four   -- for this text's walks alone
set_option linter.unusedVariables false
set_option linter.unusedSimpArgs false

/-! ### colophonlaw03_UcdApart: function 15 -/
mutual
def colophonlaw03_UcdApart.j0 : Nat → Int → List (S43) → Bool → Option (Bool)
  | 0, _, _, _ => none
  | k + 1, x0, x3, x13 => if x13 = true then (some false) else (if x0 < 0 then (colophonlaw03_UcdApart.j1 k x0 x3 1 true) else (if x0 > 1114111 then (colophonlaw03_UcdApart.j1 k x0 x3 1 true) else (if x0 ≥ 55296 then (colophonlaw03_UcdApart.j1 k x0 x3 1 (decide (x0 ≤ 57343))) else (colophonlaw03_UcdApart.j1 k x0 x3 1 false))))
def colophonlaw03_UcdApart.j1 : Nat → Int → List (S43) → Int → Bool → Option (Bool)
  | 0, _, _, _, _ => none
  | k + 1, x0, x3, x4, x27 => if x27 = true then (colophonlaw03_UcdApart.j2 k x0 x3 0) else (colophonlaw03_UcdApart.j2 k x0 x3 x4)
def colophonlaw03_UcdApart.j2 : Nat → Int → List (S43) → Int → Option (Bool)
  | 0, _, _, _ => none
  | k + 1, x0, x3, x4 => colophonlaw03_UcdApart.l0 k x0 x3 x4 0
def colophonlaw03_UcdApart.l0 : Nat → Int → List (S43) → Int → Int → Option (Bool)
  | 0, _, _, _, _ => none
  | k + 1, x0, x3, x4, x5 => if x5 < (x3.length : Int) then (if 0 ≤ x5 then (if ((rd_T43 x3 x5).f0) > ((rd_T43 x3 x5).f1) then (colophonlaw03_UcdApart.j4 k x0 x3 x4 x5 true) else (if x5 > 0 then (if 0 ≤ (wrap64 (x5 - 1)) then (if (wrap64 (x5 - 1)) < (x3.length : Int) then (if ((rd_T43 x3 x5).f0) ≤ ((rd_T43 x3 (wrap64 (x5 - 1))).f1) then (colophonlaw03_UcdApart.j4 k x0 x3 x4 x5 true) else (if ((rd_T43 x3 x5).f2) < 1 then (colophonlaw03_UcdApart.j4 k x0 x3 x4 x5 true) else (colophonlaw03_UcdApart.j4 k x0 x3 x4 x5 (decide (((rd_T43 x3 x5).f2) > 23))))) else (none)) else (none)) else (if ((rd_T43 x3 x5).f2) < 1 then (colophonlaw03_UcdApart.j4 k x0 x3 x4 x5 true) else (colophonlaw03_UcdApart.j4 k x0 x3 x4 x5 (decide (((rd_T43 x3 x5).f2) > 23)))))) else (none)) else ((ucd_Class.f x0).bind fun t379 => (some (t379 == x4)))
def colophonlaw03_UcdApart.j4 : Nat → Int → List (S43) → Int → Int → Bool → Option (Bool)
  | 0, _, _, _, _, _ => none
  | k + 1, x0, x3, x4, x5, x78 => if x78 = true then (some false) else (if x4 = 0 then (colophonlaw03_UcdApart.l0 k x0 x3 x4 (wrap64 (x5 + 1))) else (if 0 ≤ x5 then (if x5 < (x3.length : Int) then (if x0 ≥ ((rd_T43 x3 x5).f0) then (if x0 ≤ ((rd_T43 x3 x5).f1) then (colophonlaw03_UcdApart.l0 k x0 x3 ((rd_T43 x3 x5).f2) (wrap64 (x5 + 1))) else (colophonlaw03_UcdApart.l0 k x0 x3 x4 (wrap64 (x5 + 1)))) else (colophonlaw03_UcdApart.l0 k x0 x3 x4 (wrap64 (x5 + 1)))) else (none)) else (none)))
end
def colophonlaw03_UcdApart.f (k : Nat) (a0 : Int) : Option (Bool) := (ucd_Ranges.f k).bind fun t375 => ((colophonlaw03_works.f).bind fun t378 => (if t378 = true then (colophonlaw03_UcdApart.j0 k a0 t375 ((t375.length : Int) == 0)) else (colophonlaw03_UcdApart.j0 k a0 t375 true)))
theorem colophonlaw03_UcdApart.mono_l : ∀ k, (∀ y0 y1 y2, LeO (colophonlaw03_UcdApart.j0 k y0 y1 y2) (colophonlaw03_UcdApart.j0 (k + 1) y0 y1 y2)) ∧ (∀ y0 y1 y2 y3, LeO (colophonlaw03_UcdApart.j1 k y0 y1 y2 y3) (colophonlaw03_UcdApart.j1 (k + 1) y0 y1 y2 y3)) ∧ (∀ y0 y1 y2, LeO (colophonlaw03_UcdApart.j2 k y0 y1 y2) (colophonlaw03_UcdApart.j2 (k + 1) y0 y1 y2)) ∧ (∀ y0 y1 y2 y3, LeO (colophonlaw03_UcdApart.l0 k y0 y1 y2 y3) (colophonlaw03_UcdApart.l0 (k + 1) y0 y1 y2 y3)) ∧ (∀ y0 y1 y2 y3 y4, LeO (colophonlaw03_UcdApart.j4 k y0 y1 y2 y3 y4) (colophonlaw03_UcdApart.j4 (k + 1) y0 y1 y2 y3 y4))
  | 0 => ⟨fun _ _ _ r h => by simp [colophonlaw03_UcdApart.j0] at h, fun _ _ _ _ r h => by simp [colophonlaw03_UcdApart.j1] at h, fun _ _ _ r h => by simp [colophonlaw03_UcdApart.j2] at h, fun _ _ _ _ r h => by simp [colophonlaw03_UcdApart.l0] at h, fun _ _ _ _ _ r h => by simp [colophonlaw03_UcdApart.j4] at h⟩
  | k + 1 => by
    obtain ⟨ih0, ih1, ih2, ih3, ih4⟩ := colophonlaw03_UcdApart.mono_l k
    refine ⟨?_, ?_, ?_, ?_, ?_⟩
    · intro y0 y1 y2
      unfold colophonlaw03_UcdApart.j0
      repeat' first
      | (with_reducible exact ih0 _ _ _)
      | (with_reducible exact ih1 _ _ _ _)
      | (with_reducible exact ih2 _ _ _)
      | (with_reducible exact ih3 _ _ _ _)
      | (with_reducible exact ih4 _ _ _ _ _)
      | (with_reducible exact ucd_Ranges.mono _)
      | (with_reducible exact LeO.refl _)
      | (with_reducible exact LeO.none _)
      | (with_reducible refine LeO.ite ?_ ?_)
      | (with_reducible refine LeO.bind ?_ (fun _ => ?_))
      | exact ih0 _ _ _
      | exact ih1 _ _ _ _
      | exact ih2 _ _ _
      | exact ih3 _ _ _ _
      | exact ih4 _ _ _ _ _
      | exact ucd_Ranges.mono _
      | exact LeO.none _
      | refine LeO.ite ?_ ?_
      | refine LeO.bind ?_ (fun _ => ?_)
    · intro y0 y1 y2 y3
      unfold colophonlaw03_UcdApart.j1
      repeat' first
      | (with_reducible exact ih0 _ _ _)
      | (with_reducible exact ih1 _ _ _ _)
      | (with_reducible exact ih2 _ _ _)
      | (with_reducible exact ih3 _ _ _ _)
      | (with_reducible exact ih4 _ _ _ _ _)
      | (with_reducible exact ucd_Ranges.mono _)
      | (with_reducible exact LeO.refl _)
      | (with_reducible exact LeO.none _)
      | (with_reducible refine LeO.ite ?_ ?_)
      | (with_reducible refine LeO.bind ?_ (fun _ => ?_))
      | exact ih0 _ _ _
      | exact ih1 _ _ _ _
      | exact ih2 _ _ _
      | exact ih3 _ _ _ _
      | exact ih4 _ _ _ _ _
      | exact ucd_Ranges.mono _
      | exact LeO.none _
      | refine LeO.ite ?_ ?_
      | refine LeO.bind ?_ (fun _ => ?_)
    · intro y0 y1 y2
      unfold colophonlaw03_UcdApart.j2
      repeat' first
      | (with_reducible exact ih0 _ _ _)
      | (with_reducible exact ih1 _ _ _ _)
      | (with_reducible exact ih2 _ _ _)
      | (with_reducible exact ih3 _ _ _ _)
      | (with_reducible exact ih4 _ _ _ _ _)
      | (with_reducible exact ucd_Ranges.mono _)
      | (with_reducible exact LeO.refl _)
      | (with_reducible exact LeO.none _)
      | (with_reducible refine LeO.ite ?_ ?_)
      | (with_reducible refine LeO.bind ?_ (fun _ => ?_))
      | exact ih0 _ _ _
      | exact ih1 _ _ _ _
      | exact ih2 _ _ _
      | exact ih3 _ _ _ _
      | exact ih4 _ _ _ _ _
      | exact ucd_Ranges.mono _
      | exact LeO.none _
      | refine LeO.ite ?_ ?_
      | refine LeO.bind ?_ (fun _ => ?_)
    · intro y0 y1 y2 y3
      unfold colophonlaw03_UcdApart.l0
      repeat' first
      | (with_reducible exact ih0 _ _ _)
      | (with_reducible exact ih1 _ _ _ _)
      | (with_reducible exact ih2 _ _ _)
      | (with_reducible exact ih3 _ _ _ _)
      | (with_reducible exact ih4 _ _ _ _ _)
      | (with_reducible exact ucd_Ranges.mono _)
      | (with_reducible exact LeO.refl _)
      | (with_reducible exact LeO.none _)
      | (with_reducible refine LeO.ite ?_ ?_)
      | (with_reducible refine LeO.bind ?_ (fun _ => ?_))
      | exact ih0 _ _ _
      | exact ih1 _ _ _ _
      | exact ih2 _ _ _
      | exact ih3 _ _ _ _
      | exact ih4 _ _ _ _ _
      | exact ucd_Ranges.mono _
      | exact LeO.none _
      | refine LeO.ite ?_ ?_
      | refine LeO.bind ?_ (fun _ => ?_)
    · intro y0 y1 y2 y3 y4
      unfold colophonlaw03_UcdApart.j4
      repeat' first
      | (with_reducible exact ih0 _ _ _)
      | (with_reducible exact ih1 _ _ _ _)
      | (with_reducible exact ih2 _ _ _)
      | (with_reducible exact ih3 _ _ _ _)
      | (with_reducible exact ih4 _ _ _ _ _)
      | (with_reducible exact ucd_Ranges.mono _)
      | (with_reducible exact LeO.refl _)
      | (with_reducible exact LeO.none _)
      | (with_reducible refine LeO.ite ?_ ?_)
      | (with_reducible refine LeO.bind ?_ (fun _ => ?_))
      | exact ih0 _ _ _
      | exact ih1 _ _ _ _
      | exact ih2 _ _ _
      | exact ih3 _ _ _ _
      | exact ih4 _ _ _ _ _
      | exact ucd_Ranges.mono _
      | exact LeO.none _
      | refine LeO.ite ?_ ?_
      | refine LeO.bind ?_ (fun _ => ?_)
theorem colophonlaw03_UcdApart.mono : ∀ a0 k, LeO (colophonlaw03_UcdApart.f k a0) (colophonlaw03_UcdApart.f (k + 1) a0) := by
  intro a0 k
  obtain ⟨ih0, ih1, ih2, ih3, ih4⟩ := colophonlaw03_UcdApart.mono_l k
  unfold colophonlaw03_UcdApart.f
  repeat' first
      | (with_reducible exact ih0 _ _ _)
      | (with_reducible exact ih1 _ _ _ _)
      | (with_reducible exact ih2 _ _ _)
      | (with_reducible exact ih3 _ _ _ _)
      | (with_reducible exact ih4 _ _ _ _ _)
      | (with_reducible exact ucd_Ranges.mono _)
      | (with_reducible exact LeO.refl _)
      | (with_reducible exact LeO.none _)
      | (with_reducible refine LeO.ite ?_ ?_)
      | (with_reducible refine LeO.bind ?_ (fun _ => ?_))
      | exact ih0 _ _ _
      | exact ih1 _ _ _ _
      | exact ih2 _ _ _
      | exact ih3 _ _ _ _
      | exact ih4 _ _ _ _ _
      | exact ucd_Ranges.mono _
      | exact LeO.none _
      | refine LeO.ite ?_ ?_
      | refine LeO.bind ?_ (fun _ => ?_)
set_option maxHeartbeats 8000000 in
set_option maxRecDepth 100000 in
theorem colophonlaw03_UcdApart.calls (k : Nat) (a0 : Int) (r : Bool) (w : World) (h : colophonlaw03_UcdApart.f k a0 = some r) :
    Calls Try.prog 15 #[.int .i32 a0] w fun e w' => e = .returned (.bool r) ∧ Below w.heap.size w w' := by
  have HB := Aside0.mk (Below.refl w.heap.size w)
  have H : ((ucd_Ranges.f k).bind fun t375 => ((colophonlaw03_works.f).bind fun t378 => (if t378 = true then (colophonlaw03_UcdApart.j0 k a0 t375 ((t375.length : Int) == 0)) else (colophonlaw03_UcdApart.j0 k a0 t375 true)))) = some r := h
  clear h
  replace H := Option.bind_eq_some_iff.mp H
  obtain ⟨t375, A20, H⟩ := H
  replace H : ((colophonlaw03_works.f).bind fun t378 => (if t378 = true then (colophonlaw03_UcdApart.j0 k a0 t375 ((t375.length : Int) == 0)) else (colophonlaw03_UcdApart.j0 k a0 t375 true))) = some r := H
  have A2 := Aside0.mk A20
  clear A20
  have HC3 := Aside0.mk H
  clear H
  go_enter Try.func15, Try.ntmps15
  go_upto_region 2 with (first | (go_at_call 22; (with_reducible refine (ucd_Ranges.calls k  t375 _ A2.out).mono ?_); rintro e w4 ⟨v376, rfl, ho0, hb⟩; have n0_ := Aside0.mk (Kd.R_lower ho0 (below_size (by repeat (first | (with_reducible first | exact HB.out | apply below_alloc | apply pw_below_drewN | apply below_drew1) | exact HB.out)))); have n1_ := Aside0.mk (below_step (by repeat (first | (with_reducible first | exact HB.out | apply below_alloc | apply pw_below_drewN | apply below_drew1) | exact HB.out)) hb); clear HB; have HO377 := n0_; have HB := n1_; clear n0_ n1_; (try clear hb); (try clear hb2); (try clear hk); (try clear hi); (try clear ho0)))
  repeat (go_quiet (first | (go_at_call 22; (with_reducible refine (ucd_Ranges.calls k  t375 _ A2.out).mono ?_); rintro e w4 ⟨v376, rfl, ho0, hb⟩; have n0_ := Aside0.mk (Kd.R_lower ho0 (below_size (by repeat (first | (with_reducible first | exact HB.out | apply below_alloc | apply pw_below_drewN | apply below_drew1) | exact HB.out)))); have n1_ := Aside0.mk (below_step (by repeat (first | (with_reducible first | exact HB.out | apply below_alloc | apply pw_below_drewN | apply below_drew1) | exact HB.out)) hb); clear HB; have HO377 := n0_; have HB := n1_; clear n0_ n1_; (try clear hb); (try clear hb2); (try clear hk); (try clear hi); (try clear ho0))); go_upto_region 2 with (first | (go_at_call 22; (with_reducible refine (ucd_Ranges.calls k  t375 _ A2.out).mono ?_); rintro e w4 ⟨v376, rfl, ho0, hb⟩; have n0_ := Aside0.mk (Kd.R_lower ho0 (below_size (by repeat (first | (with_reducible first | exact HB.out | apply below_alloc | apply pw_below_drewN | apply below_drew1) | exact HB.out)))); have n1_ := Aside0.mk (below_step (by repeat (first | (with_reducible first | exact HB.out | apply below_alloc | apply pw_below_drewN | apply below_drew1) | exact HB.out)) hb); clear HB; have HO377 := n0_; have HB := n1_; clear n0_ n1_; (try clear hb); (try clear hb2); (try clear hk); (try clear hi); (try clear ho0))))
  (try simp only [Act.put, List.setIfInBounds_toArray, List.set_cons_zero, List.set_cons_succ])
  go_cut [13] (fun v13 wc => ∃ (kq : Nat) (x13_2 : Bool), v13 = .bool x13_2 ∧ Aside0 (colophonlaw03_UcdApart.j0 kq a0 t375 x13_2 = some r) ∧ Aside0 (kq ≤ k) ∧ Aside0 (Kd.R k43 43 wc w.heap.size (fun _ => True) v376 t375) ∧ Aside0 (Below w.heap.size w wc))
  case first =>
    have H := HC3.out
    clear HC3
    replace H := Option.bind_eq_some_iff.mp H
    obtain ⟨t378, A50, H⟩ := H
    replace H : (if t378 = true then (colophonlaw03_UcdApart.j0 k a0 t375 ((t375.length : Int) == 0)) else (colophonlaw03_UcdApart.j0 k a0 t375 true)) = some r := H
    have A5 := Aside0.mk A50
    clear A50
    by_cases c6 : t378 = true
    · subst c6
      have H1 : (colophonlaw03_UcdApart.j0 k a0 t375 ((t375.length : Int) == 0)) = some r := by rw [if_pos rfl] at H; exact H
      clear H
      have H := H1
      clear H1
      have H' := Aside0.mk H
      clear H
      go_wp2_with (first | (go_at_call 37; (with_reducible refine (colophonlaw03_works.calls  true _ A5.out).mono ?_); rintro e w7 ⟨rfl, hb⟩; have n0_ := Aside0.mk (Kd.R_below (by (with_reducible repeat (first | apply Kd.R_alloc | apply Kd.R_drewN | apply Kd.R_drew)); exact HO377.out) hb); have n1_ := Aside0.mk (below_step (by repeat (first | (with_reducible first | exact HB.out | apply below_alloc | apply pw_below_drewN | apply below_drew1) | exact HB.out)) hb); clear HO377; clear HB; have HO377 := n0_; have HB := n1_; clear n0_ n1_; (try clear hb); (try clear hb2); (try clear hk); (try clear hi); obtain ⟨Ao8, co8, eo8⟩ := Kd.R_slice HO377.out; subst eo8))
      repeat (go_quiet (first | (go_at_call 37; (with_reducible refine (colophonlaw03_works.calls  true _ A5.out).mono ?_); rintro e w7 ⟨rfl, hb⟩; have n0_ := Aside0.mk (Kd.R_below (by (with_reducible repeat (first | apply Kd.R_alloc | apply Kd.R_drewN | apply Kd.R_drew)); exact HO377.out) hb); have n1_ := Aside0.mk (below_step (by repeat (first | (with_reducible first | exact HB.out | apply below_alloc | apply pw_below_drewN | apply below_drew1) | exact HB.out)) hb); clear HO377; clear HB; have HO377 := n0_; have HB := n1_; clear n0_ n1_; (try clear hb); (try clear hb2); (try clear hk); (try clear hi); obtain ⟨Ao8, co8, eo8⟩ := Kd.R_slice HO377.out; subst eo8)); try go_wp2_with (first | (go_at_call 37; (with_reducible refine (colophonlaw03_works.calls  true _ A5.out).mono ?_); rintro e w7 ⟨rfl, hb⟩; have n0_ := Aside0.mk (Kd.R_below (by (with_reducible repeat (first | apply Kd.R_alloc | apply Kd.R_drewN | apply Kd.R_drew)); exact HO377.out) hb); have n1_ := Aside0.mk (below_step (by repeat (first | (with_reducible first | exact HB.out | apply below_alloc | apply pw_below_drewN | apply below_drew1) | exact HB.out)) hb); clear HO377; clear HB; have HO377 := n0_; have HB := n1_; clear n0_ n1_; (try clear hb); (try clear hb2); (try clear hk); (try clear hi); obtain ⟨Ao8, co8, eo8⟩ := Kd.R_slice HO377.out; subst eo8)))
      go_meet
      case rel => exact ⟨_, (((t375.length : Int) == 0)), (by first | rfl | (simp; done) | (simp [*]; done)), H', ⟨by first | omega | exact Nat.le_refl _⟩, ⟨by (with_reducible repeat (first | apply Kd.R_alloc | apply Kd.R_drewN | apply Kd.R_drew)); exact HO377.out⟩, ⟨by repeat (first | (with_reducible first | exact HB.out | apply below_alloc | apply pw_below_drewN | apply below_drew1) | exact HB.out)⟩⟩
    · replace c6 := Bool.eq_false_iff.mpr c6
      subst c6
      have H1 : (colophonlaw03_UcdApart.j0 k a0 t375 true) = some r := by rw [if_neg (show ¬ (false = true) by decide)] at H; exact H
      clear H
      have H := H1
      clear H1
      have H' := Aside0.mk H
      clear H
      go_wp2_with (first | (go_at_call 37; (with_reducible refine (colophonlaw03_works.calls  false _ A5.out).mono ?_); rintro e w9 ⟨rfl, hb⟩; have n0_ := Aside0.mk (Kd.R_below (by (with_reducible repeat (first | apply Kd.R_alloc | apply Kd.R_drewN | apply Kd.R_drew)); exact HO377.out) hb); have n1_ := Aside0.mk (below_step (by repeat (first | (with_reducible first | exact HB.out | apply below_alloc | apply pw_below_drewN | apply below_drew1) | exact HB.out)) hb); clear HO377; clear HB; have HO377 := n0_; have HB := n1_; clear n0_ n1_; (try clear hb); (try clear hb2); (try clear hk); (try clear hi)))
      repeat (go_quiet (first | (go_at_call 37; (with_reducible refine (colophonlaw03_works.calls  false _ A5.out).mono ?_); rintro e w9 ⟨rfl, hb⟩; have n0_ := Aside0.mk (Kd.R_below (by (with_reducible repeat (first | apply Kd.R_alloc | apply Kd.R_drewN | apply Kd.R_drew)); exact HO377.out) hb); have n1_ := Aside0.mk (below_step (by repeat (first | (with_reducible first | exact HB.out | apply below_alloc | apply pw_below_drewN | apply below_drew1) | exact HB.out)) hb); clear HO377; clear HB; have HO377 := n0_; have HB := n1_; clear n0_ n1_; (try clear hb); (try clear hb2); (try clear hk); (try clear hi))); try go_wp2_with (first | (go_at_call 37; (with_reducible refine (colophonlaw03_works.calls  false _ A5.out).mono ?_); rintro e w9 ⟨rfl, hb⟩; have n0_ := Aside0.mk (Kd.R_below (by (with_reducible repeat (first | apply Kd.R_alloc | apply Kd.R_drewN | apply Kd.R_drew)); exact HO377.out) hb); have n1_ := Aside0.mk (below_step (by repeat (first | (with_reducible first | exact HB.out | apply below_alloc | apply pw_below_drewN | apply below_drew1) | exact HB.out)) hb); clear HO377; clear HB; have HO377 := n0_; have HB := n1_; clear n0_ n1_; (try clear hb); (try clear hb2); (try clear hk); (try clear hi))))
      go_meet
      case rel => exact ⟨_, (true), (by first | rfl | (simp; done) | (simp [*]; done)), H', ⟨by first | omega | exact Nat.le_refl _⟩, ⟨by (with_reducible repeat (first | apply Kd.R_alloc | apply Kd.R_drewN | apply Kd.R_drew)); exact HO377.out⟩, ⟨by repeat (first | (with_reducible first | exact HB.out | apply below_alloc | apply pw_below_drewN | apply below_drew1) | exact HB.out)⟩⟩
  case rest =>
    clear HC3
    try clear c1
    try clear p2
    try clear c6
    obtain ⟨kq, x13_2, rfl, HA, HJ2, HO_3, HB⟩ := hcut
    cases kq with
    | zero => exact absurd HA.out (by simp [colophonlaw03_UcdApart.j0])
    | succ kj2 =>
      have H := HA.out
      clear HA
      simp only [colophonlaw03_UcdApart.j0] at H
      by_cases c10 : x13_2 = true
      · subst c10
        have H1 : (some false) = some r := by rw [if_pos rfl] at H; exact H
        clear H
        have H := H1
        clear H1
        obtain rfl := Option.some.inj H
        go_wp2
        repeat (go_quiet (fail); try go_wp2)
        go_ret
        exact ⟨by first | rfl | (simp [errW_none, errW_some] <;> rfl) | (simp [*, errW_none, errW_some] <;> rfl), by repeat (first | (with_reducible first | exact HB.out | apply below_alloc | apply pw_below_drewN | apply below_drew1) | exact HB.out)⟩
      · replace c10 := Bool.eq_false_iff.mpr c10
        subst c10
        have H1 : (if a0 < 0 then (colophonlaw03_UcdApart.j1 kj2 a0 t375 1 true) else (if a0 > 1114111 then (colophonlaw03_UcdApart.j1 kj2 a0 t375 1 true) else (if a0 ≥ 55296 then (colophonlaw03_UcdApart.j1 kj2 a0 t375 1 (decide (a0 ≤ 57343))) else (colophonlaw03_UcdApart.j1 kj2 a0 t375 1 false)))) = some r := by rw [if_neg (show ¬ (false = true) by decide)] at H; exact H
        clear H
        have H := H1
        clear H1
        have HC11 := Aside0.mk H
        clear H
        go_upto_region 5 with (fail)
        repeat (go_quiet (fail); go_upto_region 5 with (fail))
        go_cut [27] (fun v27 wc => ∃ (kq : Nat) (x27_10 : Bool), v27 = .bool x27_10 ∧ Aside0 (colophonlaw03_UcdApart.j1 kq a0 t375 1 x27_10 = some r) ∧ Aside0 (kq ≤ kj2) ∧ Aside0 (Kd.R k43 43 wc w.heap.size (fun _ => True) v376 t375) ∧ Aside0 (Below w.heap.size w wc))
        case first =>
          have H := HC11.out
          clear HC11
          by_cases c12 : a0 < 0
          · rw [if_pos c12] at H
            have c12b0 : decide (a0 < 0) = true := decide_eq_true c12
            clear c12
            (first | rw [c12b0] | (simp only [i64_w, i32_w]; rw [c12b0]) | skip)
            have H' := Aside0.mk H
            clear H
            go_wp2
            repeat (go_quiet (fail); try go_wp2)
            go_meet
            case rel => exact ⟨_, (true), (by first | rfl | (simp; done) | (simp [*]; done)), H', ⟨by have := HJ2.out; first | omega | exact Nat.le_refl _⟩, ⟨by (with_reducible repeat (first | apply Kd.R_alloc | apply Kd.R_drewN | apply Kd.R_drew)); exact HO_3.out⟩, ⟨by repeat (first | (with_reducible first | exact HB.out | apply below_alloc | apply pw_below_drewN | apply below_drew1) | exact HB.out)⟩⟩
          · rw [if_neg c12] at H
            have c12b0 : decide (a0 < 0) = false := decide_eq_false c12
            clear c12
            (first | rw [c12b0] | (simp only [i64_w, i32_w]; rw [c12b0]) | skip)
            by_cases c13 : a0 > 1114111
            · rw [if_pos c13] at H
              have c13b0 : decide (1114111 < a0) = true := decide_eq_true c13
              clear c13
              have H' := Aside0.mk H
              clear H
              go_wp2
              repeat (go_quiet (fail); try go_wp2)
              go_meet
              case rel => exact ⟨_, (true), (by first | rfl | (simp; done) | (simp [*]; done)), H', ⟨by have := HJ2.out; first | omega | exact Nat.le_refl _⟩, ⟨by (with_reducible repeat (first | apply Kd.R_alloc | apply Kd.R_drewN | apply Kd.R_drew)); exact HO_3.out⟩, ⟨by repeat (first | (with_reducible first | exact HB.out | apply below_alloc | apply pw_below_drewN | apply below_drew1) | exact HB.out)⟩⟩
            · rw [if_neg c13] at H
              have c13b0 : decide (1114111 < a0) = false := decide_eq_false c13
              clear c13
              by_cases c14 : a0 ≥ 55296
              · rw [if_pos c14] at H
                have c14b0 : decide (55296 ≤ a0) = true := decide_eq_true c14
                clear c14
                have H' := Aside0.mk H
                clear H
                go_wp2
                repeat (go_quiet (fail); try go_wp2)
                go_meet
                case rel => exact ⟨_, (decide (a0 ≤ 57343)), (by first | rfl | (simp; done) | (simp [*]; done)), H', ⟨by have := HJ2.out; first | omega | exact Nat.le_refl _⟩, ⟨by (with_reducible repeat (first | apply Kd.R_alloc | apply Kd.R_drewN | apply Kd.R_drew)); exact HO_3.out⟩, ⟨by repeat (first | (with_reducible first | exact HB.out | apply below_alloc | apply pw_below_drewN | apply below_drew1) | exact HB.out)⟩⟩
              · rw [if_neg c14] at H
                have c14b0 : decide (55296 ≤ a0) = false := decide_eq_false c14
                clear c14
                have H' := Aside0.mk H
                clear H
                go_wp2
                repeat (go_quiet (fail); try go_wp2)
                go_meet
                case rel => exact ⟨_, (false), (by first | rfl | (simp; done) | (simp [*]; done)), H', ⟨by have := HJ2.out; first | omega | exact Nat.le_refl _⟩, ⟨by (with_reducible repeat (first | apply Kd.R_alloc | apply Kd.R_drewN | apply Kd.R_drew)); exact HO_3.out⟩, ⟨by repeat (first | (with_reducible first | exact HB.out | apply below_alloc | apply pw_below_drewN | apply below_drew1) | exact HB.out)⟩⟩
        case rest =>
          clear HC11
          try clear c1
          try clear p2
          try clear c6
          try clear c10
          try clear c12
          try clear c12b0
          try clear c13
          try clear c13b0
          try clear c14
          try clear c14b0
          try clear p2
          obtain ⟨kq, x27_10, rfl, HA, HJ10, HO_3, HB⟩ := hcut
          cases kq with
          | zero => exact absurd HA.out (by simp [colophonlaw03_UcdApart.j1])
          | succ kj10 =>
            have H := HA.out
            clear HA
            simp only [colophonlaw03_UcdApart.j1] at H
            have HC15 := Aside0.mk H
            clear H
            go_upto_if 27 with (fail)
            repeat (go_quiet (fail); go_upto_if 27 with (fail))
            go_cut [4] (fun v4 wc => ∃ (kq : Nat) (x4_14 : Int), v4 = .int .i64 x4_14 ∧ Aside0 (colophonlaw03_UcdApart.j2 kq a0 t375 x4_14 = some r) ∧ Aside0 (kq ≤ kj10) ∧ Aside0 (Kd.R k43 43 wc w.heap.size (fun _ => True) v376 t375) ∧ Aside0 (Below w.heap.size w wc))
            case first =>
              have H := HC15.out
              clear HC15
              by_cases c16 : x27_10 = true
              · subst c16
                have H1 : (colophonlaw03_UcdApart.j2 kj10 a0 t375 0) = some r := by rw [if_pos rfl] at H; exact H
                clear H
                have H := H1
                clear H1
                have H' := Aside0.mk H
                clear H
                go_wp2
                repeat (go_quiet (fail); try go_wp2)
                go_meet
                case rel => exact ⟨_, (0), (by first | rfl | (simp; done) | (simp [*]; done)), H', ⟨by have := HJ2.out; have := HJ10.out; first | omega | exact Nat.le_refl _⟩, ⟨by (with_reducible repeat (first | apply Kd.R_alloc | apply Kd.R_drewN | apply Kd.R_drew)); exact HO_3.out⟩, ⟨by repeat (first | (with_reducible first | exact HB.out | apply below_alloc | apply pw_below_drewN | apply below_drew1) | exact HB.out)⟩⟩
              · replace c16 := Bool.eq_false_iff.mpr c16
                subst c16
                have H1 : (colophonlaw03_UcdApart.j2 kj10 a0 t375 1) = some r := by rw [if_neg (show ¬ (false = true) by decide)] at H; exact H
                clear H
                have H := H1
                clear H1
                have H' := Aside0.mk H
                clear H
                go_wp2
                repeat (go_quiet (fail); try go_wp2)
                go_meet
                case rel => exact ⟨_, (1), (by first | rfl | (simp; done) | (simp [*]; done)), H', ⟨by have := HJ2.out; have := HJ10.out; first | omega | exact Nat.le_refl _⟩, ⟨by (with_reducible repeat (first | apply Kd.R_alloc | apply Kd.R_drewN | apply Kd.R_drew)); exact HO_3.out⟩, ⟨by repeat (first | (with_reducible first | exact HB.out | apply below_alloc | apply pw_below_drewN | apply below_drew1) | exact HB.out)⟩⟩
            case rest =>
              clear HC15
              try clear c1
              try clear p2
              try clear c6
              try clear c10
              try clear c12
              try clear c12b0
              try clear c13
              try clear c13b0
              try clear c14
              try clear c14b0
              try clear c15
              try clear c16
              try clear p2
              obtain ⟨kq, x4_14, rfl, HA, HJ14, HO_3, HB⟩ := hcut
              cases kq with
              | zero => exact absurd HA.out (by simp [colophonlaw03_UcdApart.j2])
              | succ kj14 =>
                have H := HA.out
                clear HA
                simp only [colophonlaw03_UcdApart.j2] at H
                have H' := Aside0.mk H
                clear H
                go_wp2
                repeat (go_quiet (fail); try go_wp2)
                go_loopg [4, 5] kj14 (fun kq v4 v5 w' => ∃ (x4_4 : Int) (x5_4 : Int), v4 = .int .i64 x4_4 ∧ v5 = .int .i64 x5_4 ∧ Aside0 (colophonlaw03_UcdApart.l0 kq a0 t375 x4_4 x5_4 = some r) ∧ Aside0 (kq ≤ kj14) ∧ Aside0 (Kd.R k43 43 w' w.heap.size (fun _ => True) v376 t375) ∧ Aside0 (Below w.heap.size w w'))
                case atStart => exact ⟨(x4_14), (0), (by first | rfl | (simp; done) | (simp [*]; done)), (by first | rfl | (simp; done) | (simp [*]; done)), H', ⟨Nat.le_refl _⟩, ⟨by (with_reducible repeat (first | apply Kd.R_alloc | apply Kd.R_drewN | apply Kd.R_drew)); exact HO_3.out⟩, ⟨by repeat (first | (with_reducible first | exact HB.out | apply below_alloc | apply pw_below_drewN | apply below_drew1) | exact HB.out)⟩⟩
                case round =>
                  clear H'
                  try clear c1
                  try clear p2
                  try clear c6
                  try clear c10
                  try clear c12
                  try clear c12b0
                  try clear c13
                  try clear c13b0
                  try clear c14
                  try clear c14b0
                  try clear c15
                  try clear c16
                  try clear p2
                  obtain ⟨x4_4, x5_4, rfl, rfl, HA, HK4, HO_3, HB⟩ := hrel
                  cases gk with
                  | zero => exact absurd HA.out (by simp [colophonlaw03_UcdApart.l0])
                  | succ k4 =>
                    have H := HA.out
                    clear HA
                    simp only [colophonlaw03_UcdApart.l0] at H
                    by_cases c17 : x5_4 < (t375.length : Int)
                    · rw [if_pos c17] at H
                      have c17b0 : decide (x5_4 < (t375.length : Int)) = true := decide_eq_true c17
                      clear c17
                      have HC18 := Aside0.mk H
                      clear H
                      obtain ⟨Ao19, co19, eo19⟩ := Kd.R_slice HO_3.out
                      subst eo19
                      go_upto_region 10 with (fail)
                      repeat (go_quiet (fail); go_upto_region 10 with (fail))
                      go_cut [78] (fun v78 wc => ∃ (kq : Nat) (x78_17 : Bool), v78 = .bool x78_17 ∧ Aside0 (colophonlaw03_UcdApart.j4 kq a0 t375 x4_4 x5_4 x78_17 = some r) ∧ Aside0 (kq ≤ k4) ∧ Aside0 (Kd.R k43 43 wc w.heap.size (fun _ => True) (.slice Ao19 t375.length co19) t375) ∧ Aside0 (Below w.heap.size w wc))
                      case first =>
                        have H := HC18.out
                        clear HC18
                        by_cases c20 : 0 ≤ x5_4
                        · rw [if_pos c20] at H
                          have c20b0 : decide (0 ≤ x5_4) = true := decide_eq_true c20
                          clear c20
                          (first | rw [c20b0] | (simp only [i64_w, i32_w]; rw [c20b0]) | skip)
                          by_cases c21 : ((rd_T43 t375 x5_4).f0) > ((rd_T43 t375 x5_4).f1)
                          · rw [if_pos c21] at H
                            have c21b0 : decide (((rd_T43 t375 x5_4).f1) < ((rd_T43 t375 x5_4).f0)) = true := decide_eq_true c21
                            clear c21
                            have H' := Aside0.mk H
                            clear H
                            have p380 : 0 ≤ (x5_4 : Int) := of_decide_eq_true (by first | (with_reducible assumption) | assumption)
                            have q380 : x5_4 < (t375.length : Int) := of_decide_eq_true (by first | (with_reducible assumption) | assumption)
                            obtain ⟨ad380, e380, hx380_0, hx380_1, hx380_2⟩ := at_T43 (Kd.R_reads' HO_3.out).2.2 x5_4 p380 q380
                            cases e380
                            replace p380 := eq_true p380
                            replace q380 := eq_true q380
                            have p381 : 0 ≤ (x5_4 : Int) := of_decide_eq_true (by first | (with_reducible assumption) | assumption)
                            have q381 : x5_4 < (t375.length : Int) := of_decide_eq_true (by first | (with_reducible assumption) | assumption)
                            obtain ⟨ad381, e381, hx381_0, hx381_1, hx381_2⟩ := at_T43 (Kd.R_reads' HO_3.out).2.2 x5_4 p381 q381
                            obtain rfl : ad380 = ad381 := (by injection e381)
                            replace p381 := eq_true p381
                            replace q381 := eq_true q381
                            go_wp2
                            repeat (go_quiet (fail); try go_wp2)
                            go_meet
                            case rel => exact ⟨_, (true), (by first | rfl | (simp; done) | (simp [*]; done)), H', ⟨by have := HJ2.out; have := HJ10.out; have := HJ14.out; have := HK4.out; first | omega | exact Nat.le_refl _⟩, ⟨by (with_reducible repeat (first | apply Kd.R_alloc | apply Kd.R_drewN | apply Kd.R_drew)); exact HO_3.out⟩, ⟨by repeat (first | (with_reducible first | exact HB.out | apply below_alloc | apply pw_below_drewN | apply below_drew1) | exact HB.out)⟩⟩
                          · rw [if_neg c21] at H
                            have c21b0 : decide (((rd_T43 t375 x5_4).f1) < ((rd_T43 t375 x5_4).f0)) = false := decide_eq_false c21
                            clear c21
                            by_cases c22 : x5_4 > 0
                            · rw [if_pos c22] at H
                              have c22b0 : decide (0 < x5_4) = true := decide_eq_true c22
                              clear c22
                              obtain ⟨ji23, hji23⟩ : ∃ j_ : Int, (wrap64 (x5_4 - 1)) = j_ := ⟨_, rfl⟩
                              replace H : (if 0 ≤ (ji23) then (if (ji23) < (t375.length : Int) then (if ((rd_T43 t375 x5_4).f0) ≤ ((rd_T43 t375 (ji23)).f1) then (colophonlaw03_UcdApart.j4 k4 a0 t375 x4_4 x5_4 true) else (if ((rd_T43 t375 x5_4).f2) < 1 then (colophonlaw03_UcdApart.j4 k4 a0 t375 x4_4 x5_4 true) else (colophonlaw03_UcdApart.j4 k4 a0 t375 x4_4 x5_4 (decide (((rd_T43 t375 x5_4).f2) > 23))))) else (none)) else (none)) = some r := by first | (rw [hji23] at H; exact H) | (simp only [hji23] at H ⊢; exact H)
                              have hji23w : (IntKind.i64.wrap (x5_4 - 1)) = ji23 := (i64_w _).trans hji23
                              by_cases c24 : 0 ≤ (ji23)
                              · rw [if_pos c24] at H
                                have c24b0 : decide (0 ≤ (ji23)) = true := decide_eq_true c24
                                clear c24
                                by_cases c25 : (ji23) < (t375.length : Int)
                                · rw [if_pos c25] at H
                                  have c25b0 : decide ((ji23) < (t375.length : Int)) = true := decide_eq_true c25
                                  clear c25
                                  by_cases c26 : ((rd_T43 t375 x5_4).f0) ≤ ((rd_T43 t375 (ji23)).f1)
                                  · rw [if_pos c26] at H
                                    have c26b0 : decide (((rd_T43 t375 x5_4).f0) ≤ ((rd_T43 t375 (ji23)).f1)) = true := decide_eq_true c26
                                    clear c26
                                    have H' := Aside0.mk H
                                    clear H
                                    have p380 : 0 ≤ (x5_4 : Int) := of_decide_eq_true (by first | (with_reducible assumption) | assumption)
                                    have q380 : x5_4 < (t375.length : Int) := of_decide_eq_true (by first | (with_reducible assumption) | assumption)
                                    obtain ⟨ad380, e380, hx380_0, hx380_1, hx380_2⟩ := at_T43 (Kd.R_reads' HO_3.out).2.2 x5_4 p380 q380
                                    cases e380
                                    replace p380 := eq_true p380
                                    replace q380 := eq_true q380
                                    have p381 : 0 ≤ (x5_4 : Int) := of_decide_eq_true (by first | (with_reducible assumption) | assumption)
                                    have q381 : x5_4 < (t375.length : Int) := of_decide_eq_true (by first | (with_reducible assumption) | assumption)
                                    obtain ⟨ad381, e381, hx381_0, hx381_1, hx381_2⟩ := at_T43 (Kd.R_reads' HO_3.out).2.2 x5_4 p381 q381
                                    obtain rfl : ad380 = ad381 := (by injection e381)
                                    replace p381 := eq_true p381
                                    replace q381 := eq_true q381
                                    have p382 : 0 ≤ (x5_4 : Int) := of_decide_eq_true (by first | (with_reducible assumption) | assumption)
                                    have q382 : x5_4 < (t375.length : Int) := of_decide_eq_true (by first | (with_reducible assumption) | assumption)
                                    obtain ⟨ad382, e382, hx382_0, hx382_1, hx382_2⟩ := at_T43 (Kd.R_reads' HO_3.out).2.2 x5_4 p382 q382
                                    obtain rfl : ad380 = ad382 := (by injection e382)
                                    replace p382 := eq_true p382
                                    replace q382 := eq_true q382
                                    have p383 : 0 ≤ ((ji23) : Int) := of_decide_eq_true (by first | (with_reducible assumption) | assumption)
                                    have q383 : (ji23) < (t375.length : Int) := of_decide_eq_true (by first | (with_reducible assumption) | assumption)
                                    obtain ⟨ad383, e383, hx383_0, hx383_1, hx383_2⟩ := at_T43 (Kd.R_reads' HO_3.out).2.2 (ji23) p383 q383
                                    obtain rfl : ad380 = ad383 := (by injection e383)
                                    replace p383 := eq_true p383
                                    replace q383 := eq_true q383
                                    go_wp2
                                    repeat (go_quiet (fail); try go_wp2)
                                    go_meet
                                    case rel => exact ⟨_, (true), (by first | rfl | (simp; done) | (simp [*]; done)), H', ⟨by have := HJ2.out; have := HJ10.out; have := HJ14.out; have := HK4.out; first | omega | exact Nat.le_refl _⟩, ⟨by (with_reducible repeat (first | apply Kd.R_alloc | apply Kd.R_drewN | apply Kd.R_drew)); exact HO_3.out⟩, ⟨by repeat (first | (with_reducible first | exact HB.out | apply below_alloc | apply pw_below_drewN | apply below_drew1) | exact HB.out)⟩⟩
                                  · rw [if_neg c26] at H
                                    have c26b0 : decide (((rd_T43 t375 x5_4).f0) ≤ ((rd_T43 t375 (ji23)).f1)) = false := decide_eq_false c26
                                    clear c26
                                    by_cases c27 : ((rd_T43 t375 x5_4).f2) < 1
                                    · rw [if_pos c27] at H
                                      have c27b0 : decide (((rd_T43 t375 x5_4).f2) < 1) = true := decide_eq_true c27
                                      clear c27
                                      have H' := Aside0.mk H
                                      clear H
                                      have p380 : 0 ≤ (x5_4 : Int) := of_decide_eq_true (by first | (with_reducible assumption) | assumption)
                                      have q380 : x5_4 < (t375.length : Int) := of_decide_eq_true (by first | (with_reducible assumption) | assumption)
                                      obtain ⟨ad380, e380, hx380_0, hx380_1, hx380_2⟩ := at_T43 (Kd.R_reads' HO_3.out).2.2 x5_4 p380 q380
                                      cases e380
                                      replace p380 := eq_true p380
                                      replace q380 := eq_true q380
                                      have p381 : 0 ≤ (x5_4 : Int) := of_decide_eq_true (by first | (with_reducible assumption) | assumption)
                                      have q381 : x5_4 < (t375.length : Int) := of_decide_eq_true (by first | (with_reducible assumption) | assumption)
                                      obtain ⟨ad381, e381, hx381_0, hx381_1, hx381_2⟩ := at_T43 (Kd.R_reads' HO_3.out).2.2 x5_4 p381 q381
                                      obtain rfl : ad380 = ad381 := (by injection e381)
                                      replace p381 := eq_true p381
                                      replace q381 := eq_true q381
                                      have p382 : 0 ≤ (x5_4 : Int) := of_decide_eq_true (by first | (with_reducible assumption) | assumption)
                                      have q382 : x5_4 < (t375.length : Int) := of_decide_eq_true (by first | (with_reducible assumption) | assumption)
                                      obtain ⟨ad382, e382, hx382_0, hx382_1, hx382_2⟩ := at_T43 (Kd.R_reads' HO_3.out).2.2 x5_4 p382 q382
                                      obtain rfl : ad380 = ad382 := (by injection e382)
                                      replace p382 := eq_true p382
                                      replace q382 := eq_true q382
                                      have p383 : 0 ≤ ((ji23) : Int) := of_decide_eq_true (by first | (with_reducible assumption) | assumption)
                                      have q383 : (ji23) < (t375.length : Int) := of_decide_eq_true (by first | (with_reducible assumption) | assumption)
                                      obtain ⟨ad383, e383, hx383_0, hx383_1, hx383_2⟩ := at_T43 (Kd.R_reads' HO_3.out).2.2 (ji23) p383 q383
                                      obtain rfl : ad380 = ad383 := (by injection e383)
                                      replace p383 := eq_true p383
                                      replace q383 := eq_true q383
                                      have p384 : 0 ≤ (x5_4 : Int) := of_decide_eq_true (by first | (with_reducible assumption) | assumption)
                                      have q384 : x5_4 < (t375.length : Int) := of_decide_eq_true (by first | (with_reducible assumption) | assumption)
                                      obtain ⟨ad384, e384, hx384_0, hx384_1, hx384_2⟩ := at_T43 (Kd.R_reads' HO_3.out).2.2 x5_4 p384 q384
                                      obtain rfl : ad380 = ad384 := (by injection e384)
                                      replace p384 := eq_true p384
                                      replace q384 := eq_true q384
                                      go_wp2
                                      repeat (go_quiet (fail); try go_wp2)
                                      go_meet
                                      case rel => exact ⟨_, (true), (by first | rfl | (simp; done) | (simp [*]; done)), H', ⟨by have := HJ2.out; have := HJ10.out; have := HJ14.out; have := HK4.out; first | omega | exact Nat.le_refl _⟩, ⟨by (with_reducible repeat (first | apply Kd.R_alloc | apply Kd.R_drewN | apply Kd.R_drew)); exact HO_3.out⟩, ⟨by repeat (first | (with_reducible first | exact HB.out | apply below_alloc | apply pw_below_drewN | apply below_drew1) | exact HB.out)⟩⟩
                                    · rw [if_neg c27] at H
                                      have c27b0 : decide (((rd_T43 t375 x5_4).f2) < 1) = false := decide_eq_false c27
                                      clear c27
                                      have H' := Aside0.mk H
                                      clear H
                                      have p380 : 0 ≤ (x5_4 : Int) := of_decide_eq_true (by first | (with_reducible assumption) | assumption)
                                      have q380 : x5_4 < (t375.length : Int) := of_decide_eq_true (by first | (with_reducible assumption) | assumption)
                                      obtain ⟨ad380, e380, hx380_0, hx380_1, hx380_2⟩ := at_T43 (Kd.R_reads' HO_3.out).2.2 x5_4 p380 q380
                                      cases e380
                                      replace p380 := eq_true p380
                                      replace q380 := eq_true q380
                                      have p381 : 0 ≤ (x5_4 : Int) := of_decide_eq_true (by first | (with_reducible assumption) | assumption)
                                      have q381 : x5_4 < (t375.length : Int) := of_decide_eq_true (by first | (with_reducible assumption) | assumption)
                                      obtain ⟨ad381, e381, hx381_0, hx381_1, hx381_2⟩ := at_T43 (Kd.R_reads' HO_3.out).2.2 x5_4 p381 q381
                                      obtain rfl : ad380 = ad381 := (by injection e381)
                                      replace p381 := eq_true p381
                                      replace q381 := eq_true q381
                                      have p382 : 0 ≤ (x5_4 : Int) := of_decide_eq_true (by first | (with_reducible assumption) | assumption)
                                      have q382 : x5_4 < (t375.length : Int) := of_decide_eq_true (by first | (with_reducible assumption) | assumption)
                                      obtain ⟨ad382, e382, hx382_0, hx382_1, hx382_2⟩ := at_T43 (Kd.R_reads' HO_3.out).2.2 x5_4 p382 q382
                                      obtain rfl : ad380 = ad382 := (by injection e382)
                                      replace p382 := eq_true p382
                                      replace q382 := eq_true q382
                                      have p383 : 0 ≤ ((ji23) : Int) := of_decide_eq_true (by first | (with_reducible assumption) | assumption)
                                      have q383 : (ji23) < (t375.length : Int) := of_decide_eq_true (by first | (with_reducible assumption) | assumption)
                                      obtain ⟨ad383, e383, hx383_0, hx383_1, hx383_2⟩ := at_T43 (Kd.R_reads' HO_3.out).2.2 (ji23) p383 q383
                                      obtain rfl : ad380 = ad383 := (by injection e383)
                                      replace p383 := eq_true p383
                                      replace q383 := eq_true q383
                                      have p384 : 0 ≤ (x5_4 : Int) := of_decide_eq_true (by first | (with_reducible assumption) | assumption)
                                      have q384 : x5_4 < (t375.length : Int) := of_decide_eq_true (by first | (with_reducible assumption) | assumption)
                                      obtain ⟨ad384, e384, hx384_0, hx384_1, hx384_2⟩ := at_T43 (Kd.R_reads' HO_3.out).2.2 x5_4 p384 q384
                                      obtain rfl : ad380 = ad384 := (by injection e384)
                                      replace p384 := eq_true p384
                                      replace q384 := eq_true q384
                                      have p385 : 0 ≤ (x5_4 : Int) := of_decide_eq_true (by first | (with_reducible assumption) | assumption)
                                      have q385 : x5_4 < (t375.length : Int) := of_decide_eq_true (by first | (with_reducible assumption) | assumption)
                                      obtain ⟨ad385, e385, hx385_0, hx385_1, hx385_2⟩ := at_T43 (Kd.R_reads' HO_3.out).2.2 x5_4 p385 q385
                                      obtain rfl : ad380 = ad385 := (by injection e385)
                                      replace p385 := eq_true p385
                                      replace q385 := eq_true q385
                                      go_wp2
                                      repeat (go_quiet (fail); try go_wp2)
                                      go_meet
                                      case rel => exact ⟨_, (decide (((rd_T43 t375 x5_4).f2) > 23)), (by first | rfl | (simp; done) | (simp [*]; done)), H', ⟨by have := HJ2.out; have := HJ10.out; have := HJ14.out; have := HK4.out; first | omega | exact Nat.le_refl _⟩, ⟨by (with_reducible repeat (first | apply Kd.R_alloc | apply Kd.R_drewN | apply Kd.R_drew)); exact HO_3.out⟩, ⟨by repeat (first | (with_reducible first | exact HB.out | apply below_alloc | apply pw_below_drewN | apply below_drew1) | exact HB.out)⟩⟩
                                · rw [if_neg c25] at H
                                  exact absurd H (by simp)
                              · rw [if_neg c24] at H
                                exact absurd H (by simp)
                            · rw [if_neg c22] at H
                              have c22b0 : decide (0 < x5_4) = false := decide_eq_false c22
                              clear c22
                              by_cases c28 : ((rd_T43 t375 x5_4).f2) < 1
                              · rw [if_pos c28] at H
                                have c28b0 : decide (((rd_T43 t375 x5_4).f2) < 1) = true := decide_eq_true c28
                                clear c28
                                have H' := Aside0.mk H
                                clear H
                                have p380 : 0 ≤ (x5_4 : Int) := of_decide_eq_true (by first | (with_reducible assumption) | assumption)
                                have q380 : x5_4 < (t375.length : Int) := of_decide_eq_true (by first | (with_reducible assumption) | assumption)
                                obtain ⟨ad380, e380, hx380_0, hx380_1, hx380_2⟩ := at_T43 (Kd.R_reads' HO_3.out).2.2 x5_4 p380 q380
                                cases e380
                                replace p380 := eq_true p380
                                replace q380 := eq_true q380
                                have p381 : 0 ≤ (x5_4 : Int) := of_decide_eq_true (by first | (with_reducible assumption) | assumption)
                                have q381 : x5_4 < (t375.length : Int) := of_decide_eq_true (by first | (with_reducible assumption) | assumption)
                                obtain ⟨ad381, e381, hx381_0, hx381_1, hx381_2⟩ := at_T43 (Kd.R_reads' HO_3.out).2.2 x5_4 p381 q381
                                obtain rfl : ad380 = ad381 := (by injection e381)
                                replace p381 := eq_true p381
                                replace q381 := eq_true q381
                                have p386 : 0 ≤ (x5_4 : Int) := of_decide_eq_true (by first | (with_reducible assumption) | assumption)
                                have q386 : x5_4 < (t375.length : Int) := of_decide_eq_true (by first | (with_reducible assumption) | assumption)
                                obtain ⟨ad386, e386, hx386_0, hx386_1, hx386_2⟩ := at_T43 (Kd.R_reads' HO_3.out).2.2 x5_4 p386 q386
                                obtain rfl : ad380 = ad386 := (by injection e386)
                                replace p386 := eq_true p386
                                replace q386 := eq_true q386
                                go_wp2
                                repeat (go_quiet (fail); try go_wp2)
                                go_meet
                                case rel => exact ⟨_, (true), (by first | rfl | (simp; done) | (simp [*]; done)), H', ⟨by have := HJ2.out; have := HJ10.out; have := HJ14.out; have := HK4.out; first | omega | exact Nat.le_refl _⟩, ⟨by (with_reducible repeat (first | apply Kd.R_alloc | apply Kd.R_drewN | apply Kd.R_drew)); exact HO_3.out⟩, ⟨by repeat (first | (with_reducible first | exact HB.out | apply below_alloc | apply pw_below_drewN | apply below_drew1) | exact HB.out)⟩⟩
                              · rw [if_neg c28] at H
                                have c28b0 : decide (((rd_T43 t375 x5_4).f2) < 1) = false := decide_eq_false c28
                                clear c28
                                have H' := Aside0.mk H
                                clear H
                                have p380 : 0 ≤ (x5_4 : Int) := of_decide_eq_true (by first | (with_reducible assumption) | assumption)
                                have q380 : x5_4 < (t375.length : Int) := of_decide_eq_true (by first | (with_reducible assumption) | assumption)
                                obtain ⟨ad380, e380, hx380_0, hx380_1, hx380_2⟩ := at_T43 (Kd.R_reads' HO_3.out).2.2 x5_4 p380 q380
                                cases e380
                                replace p380 := eq_true p380
                                replace q380 := eq_true q380
                                have p381 : 0 ≤ (x5_4 : Int) := of_decide_eq_true (by first | (with_reducible assumption) | assumption)
                                have q381 : x5_4 < (t375.length : Int) := of_decide_eq_true (by first | (with_reducible assumption) | assumption)
                                obtain ⟨ad381, e381, hx381_0, hx381_1, hx381_2⟩ := at_T43 (Kd.R_reads' HO_3.out).2.2 x5_4 p381 q381
                                obtain rfl : ad380 = ad381 := (by injection e381)
                                replace p381 := eq_true p381
                                replace q381 := eq_true q381
                                have p386 : 0 ≤ (x5_4 : Int) := of_decide_eq_true (by first | (with_reducible assumption) | assumption)
                                have q386 : x5_4 < (t375.length : Int) := of_decide_eq_true (by first | (with_reducible assumption) | assumption)
                                obtain ⟨ad386, e386, hx386_0, hx386_1, hx386_2⟩ := at_T43 (Kd.R_reads' HO_3.out).2.2 x5_4 p386 q386
                                obtain rfl : ad380 = ad386 := (by injection e386)
                                replace p386 := eq_true p386
                                replace q386 := eq_true q386
                                have p387 : 0 ≤ (x5_4 : Int) := of_decide_eq_true (by first | (with_reducible assumption) | assumption)
                                have q387 : x5_4 < (t375.length : Int) := of_decide_eq_true (by first | (with_reducible assumption) | assumption)
                                obtain ⟨ad387, e387, hx387_0, hx387_1, hx387_2⟩ := at_T43 (Kd.R_reads' HO_3.out).2.2 x5_4 p387 q387
                                obtain rfl : ad380 = ad387 := (by injection e387)
                                replace p387 := eq_true p387
                                replace q387 := eq_true q387
                                go_wp2
                                repeat (go_quiet (fail); try go_wp2)
                                go_meet
                                case rel => exact ⟨_, (decide (((rd_T43 t375 x5_4).f2) > 23)), (by first | rfl | (simp; done) | (simp [*]; done)), H', ⟨by have := HJ2.out; have := HJ10.out; have := HJ14.out; have := HK4.out; first | omega | exact Nat.le_refl _⟩, ⟨by (with_reducible repeat (first | apply Kd.R_alloc | apply Kd.R_drewN | apply Kd.R_drew)); exact HO_3.out⟩, ⟨by repeat (first | (with_reducible first | exact HB.out | apply below_alloc | apply pw_below_drewN | apply below_drew1) | exact HB.out)⟩⟩
                        · rw [if_neg c20] at H
                          exact absurd H (by simp)
                      case rest =>
                        clear HC18
                        try clear c1
                        try clear c2
                        try clear p2
                        try clear p3
                        try clear q3
                        try clear hx3
                        try clear c6
                        try clear p6
                        try clear c10
                        try clear c12
                        try clear c12b0
                        try clear c13
                        try clear c13b0
                        try clear c14
                        try clear c14b0
                        try clear c15
                        try clear c16
                        try clear c17
                        try clear c17b0
                        try clear c20
                        try clear c20b0
                        try clear c21
                        try clear c21b0
                        try clear c22
                        try clear c22b0
                        try clear c24
                        try clear c24b0
                        try clear c25
                        try clear c25b0
                        try clear c26
                        try clear c26b0
                        try clear c27
                        try clear c27b0
                        try clear c28
                        try clear c28b0
                        try clear hx380_0
                        try clear hx380_1
                        try clear hx380_2
                        try clear hx381_0
                        try clear hx381_1
                        try clear hx381_2
                        try clear hx382_0
                        try clear hx382_1
                        try clear hx382_2
                        try clear hx383_0
                        try clear hx383_1
                        try clear hx383_2
                        try clear hx384_0
                        try clear hx384_1
                        try clear hx384_2
                        try clear hx385_0
                        try clear hx385_1
                        try clear hx385_2
                        try clear hx386_0
                        try clear hx386_1
                        try clear hx386_2
                        try clear hx387_0
                        try clear hx387_1
                        try clear hx387_2
                        try clear p2
                        try clear p380
                        try clear p381
                        try clear p382
                        try clear p383
                        try clear p384
                        try clear p385
                        try clear p386
                        try clear p387
                        try clear q380
                        try clear q381
                        try clear q382
                        try clear q383
                        try clear q384
                        try clear q385
                        try clear q386
                        try clear q387
                        obtain ⟨kq, x78_17, rfl, HA, HJ17, HO_3, HB⟩ := hcut
                        cases kq with
                        | zero => exact absurd HA.out (by simp [colophonlaw03_UcdApart.j4])
                        | succ kj17 =>
                          have H := HA.out
                          clear HA
                          simp only [colophonlaw03_UcdApart.j4] at H
                          by_cases c29 : x78_17 = true
                          · subst c29
                            have H1 : (some false) = some r := by rw [if_pos rfl] at H; exact H
                            clear H
                            have H := H1
                            clear H1
                            obtain rfl := Option.some.inj H
                            go_wp2
                            repeat (go_quiet (fail); try go_wp2)
                            go_ret
                            exact ⟨by first | rfl | (simp [errW_none, errW_some] <;> rfl) | (simp [*, errW_none, errW_some] <;> rfl), by repeat (first | (with_reducible first | exact HB.out | apply below_alloc | apply pw_below_drewN | apply below_drew1) | exact HB.out)⟩
                          · replace c29 := Bool.eq_false_iff.mpr c29
                            subst c29
                            have H1 : (if x4_4 = 0 then (colophonlaw03_UcdApart.l0 kj17 a0 t375 x4_4 (wrap64 (x5_4 + 1))) else (if 0 ≤ x5_4 then (if x5_4 < (t375.length : Int) then (if a0 ≥ ((rd_T43 t375 x5_4).f0) then (if a0 ≤ ((rd_T43 t375 x5_4).f1) then (colophonlaw03_UcdApart.l0 kj17 a0 t375 ((rd_T43 t375 x5_4).f2) (wrap64 (x5_4 + 1))) else (colophonlaw03_UcdApart.l0 kj17 a0 t375 x4_4 (wrap64 (x5_4 + 1)))) else (colophonlaw03_UcdApart.l0 kj17 a0 t375 x4_4 (wrap64 (x5_4 + 1)))) else (none)) else (none))) = some r := by rw [if_neg (show ¬ (false = true) by decide)] at H; exact H
                            clear H
                            have H := H1
                            clear H1
                            by_cases c30 : x4_4 = 0
                            · rw [if_pos c30] at H
                              have c30b0 : (x4_4 == 0) = true := beq_iff_eq.mpr c30
                              have c30b1 : (x4_4 != 0) = false := bne_eq_false_iff_eq.mpr c30
                              clear c30
                              have H' := Aside0.mk H
                              clear H
                              go_wp2
                              repeat (go_quiet (fail); try go_wp2)
                              go_roundg kj17
                              case measure => have := HJ2.out; have := HJ10.out; have := HJ14.out; have := HK4.out; have := HJ17.out; omega
                              case rel => exact ⟨(x4_4), (wrap64 (x5_4 + 1)), (by first | rfl | (simp; done) | (simp [*]; done)), (by first | rfl | (simp; done) | (simp [*]; done)), H', ⟨by have := HJ2.out; have := HJ10.out; have := HJ14.out; have := HK4.out; have := HJ17.out; omega⟩, ⟨by (with_reducible repeat (first | apply Kd.R_alloc | apply Kd.R_drewN | apply Kd.R_drew)); exact HO_3.out⟩, ⟨by repeat (first | (with_reducible first | exact HB.out | apply below_alloc | apply pw_below_drewN | apply below_drew1) | exact HB.out)⟩⟩
                            · rw [if_neg c30] at H
                              have c30b0 : (x4_4 == 0) = false := beq_eq_false_iff_ne.mpr c30
                              have c30b1 : (x4_4 != 0) = true := bne_iff_ne.mpr c30
                              by_cases c31 : 0 ≤ x5_4
                              · rw [if_pos c31] at H
                                have c31b0 : decide (0 ≤ x5_4) = true := decide_eq_true c31
                                clear c31
                                by_cases c32 : x5_4 < (t375.length : Int)
                                · rw [if_pos c32] at H
                                  have c32b0 : decide (x5_4 < (t375.length : Int)) = true := decide_eq_true c32
                                  clear c32
                                  by_cases c33 : a0 ≥ ((rd_T43 t375 x5_4).f0)
                                  · rw [if_pos c33] at H
                                    have c33b0 : decide (((rd_T43 t375 x5_4).f0) ≤ a0) = true := decide_eq_true c33
                                    clear c33
                                    by_cases c34 : a0 ≤ ((rd_T43 t375 x5_4).f1)
                                    · rw [if_pos c34] at H
                                      have c34b0 : decide (a0 ≤ ((rd_T43 t375 x5_4).f1)) = true := decide_eq_true c34
                                      clear c34
                                      have H' := Aside0.mk H
                                      clear H
                                      have p388 : 0 ≤ (x5_4 : Int) := of_decide_eq_true (by first | (with_reducible assumption) | assumption)
                                      have q388 : x5_4 < (t375.length : Int) := of_decide_eq_true (by first | (with_reducible assumption) | assumption)
                                      obtain ⟨ad388, e388, hx388_0, hx388_1, hx388_2⟩ := at_T43 (Kd.R_reads' HO_3.out).2.2 x5_4 p388 q388
                                      cases e388
                                      replace p388 := eq_true p388
                                      replace q388 := eq_true q388
                                      have p389 : 0 ≤ (x5_4 : Int) := of_decide_eq_true (by first | (with_reducible assumption) | assumption)
                                      have q389 : x5_4 < (t375.length : Int) := of_decide_eq_true (by first | (with_reducible assumption) | assumption)
                                      obtain ⟨ad389, e389, hx389_0, hx389_1, hx389_2⟩ := at_T43 (Kd.R_reads' HO_3.out).2.2 x5_4 p389 q389
                                      obtain rfl : ad388 = ad389 := (by injection e389)
                                      replace p389 := eq_true p389
                                      replace q389 := eq_true q389
                                      have p390 : 0 ≤ (x5_4 : Int) := of_decide_eq_true (by first | (with_reducible assumption) | assumption)
                                      have q390 : x5_4 < (t375.length : Int) := of_decide_eq_true (by first | (with_reducible assumption) | assumption)
                                      obtain ⟨ad390, e390, hx390_0, hx390_1, hx390_2⟩ := at_T43 (Kd.R_reads' HO_3.out).2.2 x5_4 p390 q390
                                      obtain rfl : ad388 = ad390 := (by injection e390)
                                      replace p390 := eq_true p390
                                      replace q390 := eq_true q390
                                      go_wp2
                                      repeat (go_quiet (fail); try go_wp2)
                                      go_roundg kj17
                                      case measure => have := HJ2.out; have := HJ10.out; have := HJ14.out; have := HK4.out; have := HJ17.out; omega
                                      case rel => exact ⟨((rd_T43 t375 x5_4).f2), (wrap64 (x5_4 + 1)), (by first | rfl | (simp; done) | (simp [*]; done)), (by first | rfl | (simp; done) | (simp [*]; done)), H', ⟨by have := HJ2.out; have := HJ10.out; have := HJ14.out; have := HK4.out; have := HJ17.out; omega⟩, ⟨by (with_reducible repeat (first | apply Kd.R_alloc | apply Kd.R_drewN | apply Kd.R_drew)); exact HO_3.out⟩, ⟨by repeat (first | (with_reducible first | exact HB.out | apply below_alloc | apply pw_below_drewN | apply below_drew1) | exact HB.out)⟩⟩
                                    · rw [if_neg c34] at H
                                      have c34b0 : decide (a0 ≤ ((rd_T43 t375 x5_4).f1)) = false := decide_eq_false c34
                                      clear c34
                                      have H' := Aside0.mk H
                                      clear H
                                      have p388 : 0 ≤ (x5_4 : Int) := of_decide_eq_true (by first | (with_reducible assumption) | assumption)
                                      have q388 : x5_4 < (t375.length : Int) := of_decide_eq_true (by first | (with_reducible assumption) | assumption)
                                      obtain ⟨ad388, e388, hx388_0, hx388_1, hx388_2⟩ := at_T43 (Kd.R_reads' HO_3.out).2.2 x5_4 p388 q388
                                      cases e388
                                      replace p388 := eq_true p388
                                      replace q388 := eq_true q388
                                      have p389 : 0 ≤ (x5_4 : Int) := of_decide_eq_true (by first | (with_reducible assumption) | assumption)
                                      have q389 : x5_4 < (t375.length : Int) := of_decide_eq_true (by first | (with_reducible assumption) | assumption)
                                      obtain ⟨ad389, e389, hx389_0, hx389_1, hx389_2⟩ := at_T43 (Kd.R_reads' HO_3.out).2.2 x5_4 p389 q389
                                      obtain rfl : ad388 = ad389 := (by injection e389)
                                      replace p389 := eq_true p389
                                      replace q389 := eq_true q389
                                      go_wp2
                                      repeat (go_quiet (fail); try go_wp2)
                                      go_roundg kj17
                                      case measure => have := HJ2.out; have := HJ10.out; have := HJ14.out; have := HK4.out; have := HJ17.out; omega
                                      case rel => exact ⟨(x4_4), (wrap64 (x5_4 + 1)), (by first | rfl | (simp; done) | (simp [*]; done)), (by first | rfl | (simp; done) | (simp [*]; done)), H', ⟨by have := HJ2.out; have := HJ10.out; have := HJ14.out; have := HK4.out; have := HJ17.out; omega⟩, ⟨by (with_reducible repeat (first | apply Kd.R_alloc | apply Kd.R_drewN | apply Kd.R_drew)); exact HO_3.out⟩, ⟨by repeat (first | (with_reducible first | exact HB.out | apply below_alloc | apply pw_below_drewN | apply below_drew1) | exact HB.out)⟩⟩
                                  · rw [if_neg c33] at H
                                    have c33b0 : decide (((rd_T43 t375 x5_4).f0) ≤ a0) = false := decide_eq_false c33
                                    clear c33
                                    have H' := Aside0.mk H
                                    clear H
                                    have p388 : 0 ≤ (x5_4 : Int) := of_decide_eq_true (by first | (with_reducible assumption) | assumption)
                                    have q388 : x5_4 < (t375.length : Int) := of_decide_eq_true (by first | (with_reducible assumption) | assumption)
                                    obtain ⟨ad388, e388, hx388_0, hx388_1, hx388_2⟩ := at_T43 (Kd.R_reads' HO_3.out).2.2 x5_4 p388 q388
                                    cases e388
                                    replace p388 := eq_true p388
                                    replace q388 := eq_true q388
                                    go_wp2
                                    repeat (go_quiet (fail); try go_wp2)
                                    go_roundg kj17
                                    case measure => have := HJ2.out; have := HJ10.out; have := HJ14.out; have := HK4.out; have := HJ17.out; omega
                                    case rel => exact ⟨(x4_4), (wrap64 (x5_4 + 1)), (by first | rfl | (simp; done) | (simp [*]; done)), (by first | rfl | (simp; done) | (simp [*]; done)), H', ⟨by have := HJ2.out; have := HJ10.out; have := HJ14.out; have := HK4.out; have := HJ17.out; omega⟩, ⟨by (with_reducible repeat (first | apply Kd.R_alloc | apply Kd.R_drewN | apply Kd.R_drew)); exact HO_3.out⟩, ⟨by repeat (first | (with_reducible first | exact HB.out | apply below_alloc | apply pw_below_drewN | apply below_drew1) | exact HB.out)⟩⟩
                                · rw [if_neg c32] at H
                                  exact absurd H (by simp)
                              · rw [if_neg c31] at H
                                exact absurd H (by simp)
                    · rw [if_neg c17] at H
                      have c17b0 : decide (x5_4 < (t375.length : Int)) = false := decide_eq_false c17
                      clear c17
                      replace H := Option.bind_eq_some_iff.mp H
                      obtain ⟨t379, A350, H⟩ := H
                      replace H : (some (t379 == x4_4)) = some r := H
                      have A35 := Aside0.mk A350
                      clear A350
                      obtain rfl := Option.some.inj H
                      obtain ⟨Ao36, co36, eo36⟩ := Kd.R_slice HO_3.out
                      subst eo36
                      go_wp2_with (first | (go_at_call 31; (with_reducible refine (ucd_Class.calls a0 t379 _ A35.out).mono ?_); rintro e w37 ⟨rfl, hb⟩; have n0_ := Aside0.mk (Kd.R_below (by (with_reducible repeat (first | apply Kd.R_alloc | apply Kd.R_drewN | apply Kd.R_drew)); exact HO_3.out) hb); have n1_ := Aside0.mk (below_step (by repeat (first | (with_reducible first | exact HB.out | apply below_alloc | apply pw_below_drewN | apply below_drew1) | exact HB.out)) hb); clear HO_3; clear HB; have HO_3 := n0_; have HB := n1_; clear n0_ n1_; (try clear hb); (try clear hb2); (try clear hk); (try clear hi)))
                      repeat (go_quiet (first | (go_at_call 31; (with_reducible refine (ucd_Class.calls a0 t379 _ A35.out).mono ?_); rintro e w37 ⟨rfl, hb⟩; have n0_ := Aside0.mk (Kd.R_below (by (with_reducible repeat (first | apply Kd.R_alloc | apply Kd.R_drewN | apply Kd.R_drew)); exact HO_3.out) hb); have n1_ := Aside0.mk (below_step (by repeat (first | (with_reducible first | exact HB.out | apply below_alloc | apply pw_below_drewN | apply below_drew1) | exact HB.out)) hb); clear HO_3; clear HB; have HO_3 := n0_; have HB := n1_; clear n0_ n1_; (try clear hb); (try clear hb2); (try clear hk); (try clear hi))); try go_wp2_with (first | (go_at_call 31; (with_reducible refine (ucd_Class.calls a0 t379 _ A35.out).mono ?_); rintro e w37 ⟨rfl, hb⟩; have n0_ := Aside0.mk (Kd.R_below (by (with_reducible repeat (first | apply Kd.R_alloc | apply Kd.R_drewN | apply Kd.R_drew)); exact HO_3.out) hb); have n1_ := Aside0.mk (below_step (by repeat (first | (with_reducible first | exact HB.out | apply below_alloc | apply pw_below_drewN | apply below_drew1) | exact HB.out)) hb); clear HO_3; clear HB; have HO_3 := n0_; have HB := n1_; clear n0_ n1_; (try clear hb); (try clear hb2); (try clear hk); (try clear hi))))
                      go_ret
                      exact ⟨by first | rfl | (simp [errW_none, errW_some] <;> rfl) | (simp [*, errW_none, errW_some] <;> rfl), by repeat (first | (with_reducible first | exact HB.out | apply below_alloc | apply pw_below_drewN | apply below_drew1) | exact HB.out)⟩

/-- THE ONE PURE STATEMENT of colophonlaw03_UcdApart: yours. -/
def colophonlaw03_UcdApart.Pure : Prop := ∀ (a0 : Int), (Lit.int .i32 a0).wf = true → ∃ k, colophonlaw03_UcdApart.f k a0 = some true
theorem colophonlaw03_UcdApart.walk (P : colophonlaw03_UcdApart.Pure) (a0 : Int) (w : World) (w0 : (Lit.int .i32 a0).wf = true) :
    Calls Try.prog 15 #[.int .i32 a0] w fun e w' => e = .returned (.bool true) ∧ Below w.heap.size w w' := by
  obtain ⟨k, h⟩ := P a0 w0
  refine (colophonlaw03_UcdApart.calls k a0 true w h).mono ?_
  rintro e w' ⟨rfl, hd⟩
  exact ⟨rfl, hd⟩

end Go.Proofs.Ytddhhncjfcolcaa.F
