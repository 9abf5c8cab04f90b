-- PRINTED by print.py (a twelfth state) out of the translation. Not trusted: Lean checks it.
import Derived.Test.YtccleelhheilnaaSx0
import Derived.Test.YtccleelhheilnaaSx2
import Derived.Test.YtccleelhheilnaaSx3
import Derived.Test.YtccleelhheilnaaSx4
import Derived.Test.YtccleelhheilnaaSx6
import Derived.Test.YtccleelhheilnaaSx9
namespace Go.Proofs.Ytccleelhheilnaa.S
open Go.RowKit Go.Proofs.YtccleelhheilnaaW.PrintWords Go.Proofs.YtccleelhheilnaaW.PrintLast Go.Proofs.YtccleelhheilnaaW.PrintMore
open Go.Proofs.Ytccleelhheilnaa.F Go.Proofs.Ytccleelhheilnaa.Flo
attribute [local go_sem] max2_int min2_int max_two min_two max_three min_three max_four min_four lit_f0 lit_f1 lit_fm1 lit_c01 lit_c2m lit_c1m lit_c31 lit_c3m lit_c11 flo_add flo_sub cx_add cx_sub ord_eq ord_ne ord_negn flo_neg sto_c sto_f   -- for this text's walks alone
set_option linter.unusedVariables false
set_option linter.unusedSimpArgs false

/-! ### colophonlaw15_SpotSteps: function 7 -/
mutual
def colophonlaw15_SpotSteps.j0 : Nat → List Cx → List (S45) → Bool → Option (Bool)
  | 0, _, _, _ => none
  | k + 1, x9, x11, x67 => if x67 = true then (some false) else (colophonlaw15_SpotSteps.l0 k x9 x11 x9 (x9.length : Int) 0)
def colophonlaw15_SpotSteps.l0 : Nat → List Cx → List (S45) → List Cx → Int → Int → Option (Bool)
  | 0, _, _, _, _, _ => none
  | k + 1, x9, x11, x68, x69, x70 => if x70 < x69 then (if 0 ≤ x70 then (if x70 < (x68.length : Int) then ((spot_Offset.f x9 (rdOf zc x68 x70)).bind fun bt293 => (if x70 < (x11.length : Int) then (if ((rd_T45 x11 x70).f1) = 0 then (if bt293.1 = 0 then (if bt293.2 = 4 then (colophonlaw15_SpotSteps.l0 k x9 x11 x68 x69 (wrap64 (x70 + 1))) else (some false)) else (some false)) else (if bt293.1 = x70 then (if bt293.2 = 0 then (colophonlaw15_SpotSteps.l0 k x9 x11 x68 x69 (wrap64 (x70 + 1))) else (some false)) else (some false))) else (none))) else (none)) else (none)) else (some true)
end
def colophonlaw15_SpotSteps.f (k : Nat) (l0 : List Int) (a1 : Int) (a2 : Int) (a3 : Int) : Option (Bool) := if (l0.length : Int) > 60 then ((colophonlaw15_works.f k).bind fun t278 => (some t278)) else ((spot_Spots.f k l0 a1).bind fun bt279 => ((colophonref15_Spots.f k l0 a1).bind fun bt283 => ((spot_Step.f bt279.1 a2 a3).bind fun bt287 => ((colophonref15_Step.f k bt283.1 a2 a3).bind fun bt289 => (if bt279.2 = bt283.2 then (if bt287.1 = bt289.1 then (if bt287.2 = bt289.2 then ((colophonlaw15_works.f k).bind fun t291 => (colophonlaw15_SpotSteps.j0 k bt279.1 bt283.1 (!t291))) else (colophonlaw15_SpotSteps.j0 k bt279.1 bt283.1 true)) else (colophonlaw15_SpotSteps.j0 k bt279.1 bt283.1 true)) else (colophonlaw15_SpotSteps.j0 k bt279.1 bt283.1 true))))))
theorem colophonlaw15_SpotSteps.mono_l : ∀ k, (∀ y0 y1 y2, LeO (colophonlaw15_SpotSteps.j0 k y0 y1 y2) (colophonlaw15_SpotSteps.j0 (k + 1) y0 y1 y2)) ∧ (∀ y0 y1 y2 y3 y4, LeO (colophonlaw15_SpotSteps.l0 k y0 y1 y2 y3 y4) (colophonlaw15_SpotSteps.l0 (k + 1) y0 y1 y2 y3 y4))
  | 0 => ⟨fun _ _ _ r h => by simp [colophonlaw15_SpotSteps.j0] at h, fun _ _ _ _ _ r h => by simp [colophonlaw15_SpotSteps.l0] at h⟩
  | k + 1 => by
    obtain ⟨ih0, ih1⟩ := colophonlaw15_SpotSteps.mono_l k
    refine ⟨?_, ?_⟩
    · intro y0 y1 y2
      unfold colophonlaw15_SpotSteps.j0
      repeat' first
      | (with_reducible exact ih0 _ _ _)
      | (with_reducible exact ih1 _ _ _ _ _)
      | (with_reducible exact colophonlaw15_works.mono _)
      | (with_reducible exact colophonref15_Spots.mono _ _ _)
      | (with_reducible exact colophonref15_Step.mono _ _ _ _)
      | (with_reducible exact spot_Spots.mono _ _ _)
      | (with_reducible exact LeO.refl _)
      | (with_reducible exact LeO.none _)
      | (with_reducible refine LeO.ite ?_ ?_)
      | (with_reducible refine LeO.bind ?_ (fun _ => ?_))
      | exact ih0 _ _ _
      | exact ih1 _ _ _ _ _
      | exact colophonlaw15_works.mono _
      | exact colophonref15_Spots.mono _ _ _
      | exact colophonref15_Step.mono _ _ _ _
      | exact spot_Spots.mono _ _ _
      | exact LeO.none _
      | refine LeO.ite ?_ ?_
      | refine LeO.bind ?_ (fun _ => ?_)
    · intro y0 y1 y2 y3 y4
      unfold colophonlaw15_SpotSteps.l0
      repeat' first
      | (with_reducible exact ih0 _ _ _)
      | (with_reducible exact ih1 _ _ _ _ _)
      | (with_reducible exact colophonlaw15_works.mono _)
      | (with_reducible exact colophonref15_Spots.mono _ _ _)
      | (with_reducible exact colophonref15_Step.mono _ _ _ _)
      | (with_reducible exact spot_Spots.mono _ _ _)
      | (with_reducible exact LeO.refl _)
      | (with_reducible exact LeO.none _)
      | (with_reducible refine LeO.ite ?_ ?_)
      | (with_reducible refine LeO.bind ?_ (fun _ => ?_))
      | exact ih0 _ _ _
      | exact ih1 _ _ _ _ _
      | exact colophonlaw15_works.mono _
      | exact colophonref15_Spots.mono _ _ _
      | exact colophonref15_Step.mono _ _ _ _
      | exact spot_Spots.mono _ _ _
      | exact LeO.none _
      | refine LeO.ite ?_ ?_
      | refine LeO.bind ?_ (fun _ => ?_)
theorem colophonlaw15_SpotSteps.mono : ∀ a0 a1 a2 a3 k, LeO (colophonlaw15_SpotSteps.f k a0 a1 a2 a3) (colophonlaw15_SpotSteps.f (k + 1) a0 a1 a2 a3) := by
  intro a0 a1 a2 a3 k
  obtain ⟨ih0, ih1⟩ := colophonlaw15_SpotSteps.mono_l k
  unfold colophonlaw15_SpotSteps.f
  repeat' first
      | (with_reducible exact ih0 _ _ _)
      | (with_reducible exact ih1 _ _ _ _ _)
      | (with_reducible exact colophonlaw15_works.mono _)
      | (with_reducible exact colophonref15_Spots.mono _ _ _)
      | (with_reducible exact colophonref15_Step.mono _ _ _ _)
      | (with_reducible exact spot_Spots.mono _ _ _)
      | (with_reducible exact LeO.refl _)
      | (with_reducible exact LeO.none _)
      | (with_reducible refine LeO.ite ?_ ?_)
      | (with_reducible refine LeO.bind ?_ (fun _ => ?_))
      | exact ih0 _ _ _
      | exact ih1 _ _ _ _ _
      | exact colophonlaw15_works.mono _
      | exact colophonref15_Spots.mono _ _ _
      | exact colophonref15_Step.mono _ _ _ _
      | exact spot_Spots.mono _ _ _
      | exact LeO.none _
      | refine LeO.ite ?_ ?_
      | refine LeO.bind ?_ (fun _ => ?_)
set_option maxHeartbeats 8000000 in
set_option maxRecDepth 100000 in
theorem colophonlaw15_SpotSteps.calls (k : Nat) (A0 : Option Addr) (c0 : Nat) (l0 : List Int) (a1 : Int) (a2 : Int) (a3 : Int) (r : Bool) (w : World) (hr0 : Kd.C (Kd.int .i64) w A0 l0.length l0) (hc0 : l0.length ≤ c0) (h : colophonlaw15_SpotSteps.f k l0 a1 a2 a3 = some r) :
    Calls Try.prog 7 #[.slice A0 l0.length c0, .int .i64 a1, .int .i64 a2, .int .i64 a3] w fun e w' => e = .returned (.bool r) ∧ Below w.heap.size w w' := by
  have HR0 := Aside0.mk hr0
  have HC0 := Aside0.mk hc0
  clear hr0 hc0
  have HB := Aside0.mk (Below.refl w.heap.size w)
  have H : (if (l0.length : Int) > 60 then ((colophonlaw15_works.f k).bind fun t278 => (some t278)) else ((spot_Spots.f k l0 a1).bind fun bt279 => ((colophonref15_Spots.f k l0 a1).bind fun bt283 => ((spot_Step.f bt279.1 a2 a3).bind fun bt287 => ((colophonref15_Step.f k bt283.1 a2 a3).bind fun bt289 => (if bt279.2 = bt283.2 then (if bt287.1 = bt289.1 then (if bt287.2 = bt289.2 then ((colophonlaw15_works.f k).bind fun t291 => (colophonlaw15_SpotSteps.j0 k bt279.1 bt283.1 (!t291))) else (colophonlaw15_SpotSteps.j0 k bt279.1 bt283.1 true)) else (colophonlaw15_SpotSteps.j0 k bt279.1 bt283.1 true)) else (colophonlaw15_SpotSteps.j0 k bt279.1 bt283.1 true))))))) = some r := h
  clear h
  by_cases c5 : (l0.length : Int) > 60
  · rw [if_pos c5] at H
    have c5b0 : decide (60 < (l0.length : Int)) = true := decide_eq_true c5
    have c5b1 : decide (60 < l0.length) = true := decide_eq_true (by omega)
    clear c5
    replace H := Option.bind_eq_some_iff.mp H
    obtain ⟨t278, A60, H⟩ := H
    replace H : (some t278) = some r := H
    have A6 := Aside0.mk A60
    clear A60
    obtain rfl := Option.some.inj H
    go_enter Try.func7, Try.ntmps7
    (try rw [lit_f0]); (try rw [lit_f1]); (try rw [lit_fm1]); (try rw [lit_c01]); (try rw [lit_c2m]); (try rw [lit_c1m]); (try rw [lit_c31]); (try rw [lit_c3m]); (try rw [lit_c11])
    go_wp2_with (first | ((with_reducible refine gate_callee (f := 28) rfl ?_); refine goesL_ (some 24) rfl rfl Try.func28 (by kernel_rfl) rfl #[] rfl (by (try simp only [List.map_toArray, List.map_cons, List.map_nil]); first | done | rfl | (simp only [List.length_drop, List.length_take]; rfl)) ?_; (with_reducible refine (colophonlaw15_works.calls k  t278 _ A6.out).mono ?_); rintro e w7 ⟨rfl, hb⟩; refine ⟨_, rfl, ?_⟩; have n0_ := Aside0.mk (below_step (by repeat (first | (with_reducible first | exact HB.out | apply below_alloc | apply pw_below_drewN | apply below_drew1) | exact HB.out)) hb); clear HB; have HB := n0_; clear n0_; (try clear hb); (try clear hb2); (try clear hk); (try clear hi)))
    go_ret
    exact ⟨by first | rfl | (simp [errW_none, errW_some] <;> rfl) | (simp [*, errW_none, errW_some] <;> rfl), by repeat (first | (with_reducible first | exact HB.out | apply below_alloc | apply pw_below_drewN | apply below_drew1) | exact HB.out)⟩
  · rw [if_neg c5] at H
    have c5b0 : decide (60 < (l0.length : Int)) = false := decide_eq_false c5
    have c5b1 : decide (60 < l0.length) = false := decide_eq_false (by omega)
    clear c5
    replace H := Option.bind_eq_some_iff.mp H
    obtain ⟨⟨t279, t280⟩, A80, H⟩ := H
    replace H : ((colophonref15_Spots.f k l0 a1).bind fun bt283 => ((spot_Step.f t279 a2 a3).bind fun bt287 => ((colophonref15_Step.f k bt283.1 a2 a3).bind fun bt289 => (if t280 = bt283.2 then (if bt287.1 = bt289.1 then (if bt287.2 = bt289.2 then ((colophonlaw15_works.f k).bind fun t291 => (colophonlaw15_SpotSteps.j0 k t279 bt283.1 (!t291))) else (colophonlaw15_SpotSteps.j0 k t279 bt283.1 true)) else (colophonlaw15_SpotSteps.j0 k t279 bt283.1 true)) else (colophonlaw15_SpotSteps.j0 k t279 bt283.1 true))))) = some r := H
    have A8 := Aside0.mk A80
    clear A80
    replace H := Option.bind_eq_some_iff.mp H
    obtain ⟨⟨t283, t284⟩, A90, H⟩ := H
    replace H : ((spot_Step.f t279 a2 a3).bind fun bt287 => ((colophonref15_Step.f k t283 a2 a3).bind fun bt289 => (if t280 = t284 then (if bt287.1 = bt289.1 then (if bt287.2 = bt289.2 then ((colophonlaw15_works.f k).bind fun t291 => (colophonlaw15_SpotSteps.j0 k t279 t283 (!t291))) else (colophonlaw15_SpotSteps.j0 k t279 t283 true)) else (colophonlaw15_SpotSteps.j0 k t279 t283 true)) else (colophonlaw15_SpotSteps.j0 k t279 t283 true)))) = some r := H
    have A9 := Aside0.mk A90
    clear A90
    replace H := Option.bind_eq_some_iff.mp H
    obtain ⟨⟨t287, t288⟩, A100, H⟩ := H
    replace H : ((colophonref15_Step.f k t283 a2 a3).bind fun bt289 => (if t280 = t284 then (if t287 = bt289.1 then (if t288 = bt289.2 then ((colophonlaw15_works.f k).bind fun t291 => (colophonlaw15_SpotSteps.j0 k t279 t283 (!t291))) else (colophonlaw15_SpotSteps.j0 k t279 t283 true)) else (colophonlaw15_SpotSteps.j0 k t279 t283 true)) else (colophonlaw15_SpotSteps.j0 k t279 t283 true))) = some r := H
    have A10 := Aside0.mk A100
    clear A100
    replace H := Option.bind_eq_some_iff.mp H
    obtain ⟨⟨t289, t290⟩, A110, H⟩ := H
    replace H : (if t280 = t284 then (if t287 = t289 then (if t288 = t290 then ((colophonlaw15_works.f k).bind fun t291 => (colophonlaw15_SpotSteps.j0 k t279 t283 (!t291))) else (colophonlaw15_SpotSteps.j0 k t279 t283 true)) else (colophonlaw15_SpotSteps.j0 k t279 t283 true)) else (colophonlaw15_SpotSteps.j0 k t279 t283 true)) = some r := H
    have A11 := Aside0.mk A110
    clear A110
    have HC12 := Aside0.mk H
    clear H
    go_enter Try.func7, Try.ntmps7
    (try rw [lit_f0]); (try rw [lit_f1]); (try rw [lit_fm1]); (try rw [lit_c01]); (try rw [lit_c2m]); (try rw [lit_c1m]); (try rw [lit_c31]); (try rw [lit_c3m]); (try rw [lit_c11])
    go_upto_region 7 with (first | ((with_reducible refine gate_callee (f := 29) rfl ?_); refine goesL_ (some 28) rfl rfl Try.func29 (by kernel_rfl) rfl #[.slice A0 l0.length c0, .int .i64 a1] rfl (by (try simp only [List.map_toArray, List.map_cons, List.map_nil]); first | done | rfl | (simp only [List.length_drop, List.length_take]; rfl)) ?_; (with_reducible refine (spot_Spots.calls k _ _ l0 a1 t279 t280 _ ?side1 ?side2 A8.out).mono ?_); (case side1 => repeat (first | exact HR0.out | (with_reducible refine Kd.C_alloc ?_ _) | (with_reducible refine Kd.C_drewN ?_ _) | (with_reducible refine Kd.C_drew ?_))); (case side2 => exact HC0.out); rintro e w13 ⟨v281, rfl, ho0, hb⟩; refine ⟨_, rfl, ?_⟩; have n0_ := Aside0.mk (Kd.R_lower ho0 (below_size (by repeat (first | (with_reducible first | exact HB.out | apply below_alloc | apply pw_below_drewN | apply below_drew1) | exact HB.out)))); have n1_ := Aside0.mk (below_step (by repeat (first | (with_reducible first | exact HB.out | apply below_alloc | apply pw_below_drewN | apply below_drew1) | exact HB.out)) hb); clear HB; have HO282 := n0_; have HB := n1_; clear n0_ n1_; (try clear hb); (try clear hb2); (try clear hk); (try clear hi); (try clear ho0)) | ((with_reducible refine gate_callee (f := 30) rfl ?_); refine goesL_ (some 34) rfl rfl Try.func30 (by kernel_rfl) rfl #[.slice A0 l0.length c0, .int .i64 a1] rfl (by (try simp only [List.map_toArray, List.map_cons, List.map_nil]); first | done | rfl | (simp only [List.length_drop, List.length_take]; rfl)) ?_; (with_reducible refine (colophonref15_Spots.calls k _ _ l0 a1 t283 t284 _ ?side1 ?side2 A9.out).mono ?_); (case side1 => repeat (first | exact (Kd.C_below HR0.out HB.out) | (with_reducible refine Kd.C_alloc ?_ _) | (with_reducible refine Kd.C_drewN ?_ _) | (with_reducible refine Kd.C_drew ?_))); (case side2 => exact HC0.out); rintro e w14 ⟨v285, rfl, ho0, hb⟩; refine ⟨_, rfl, ?_⟩; have n0_ := Aside0.mk (Kd.R_below (by (with_reducible repeat (first | apply Kd.R_alloc | apply Kd.R_drewN | apply Kd.R_drew)); exact HO282.out) hb); have n1_ := Aside0.mk (Kd.R_lower ho0 (below_size (by repeat (first | (with_reducible first | exact HB.out | apply below_alloc | apply pw_below_drewN | apply below_drew1) | exact HB.out)))); have n2_ := Aside0.mk (below_step (by repeat (first | (with_reducible first | exact HB.out | apply below_alloc | apply pw_below_drewN | apply below_drew1) | exact HB.out)) hb); clear HO282; clear HB; have HO282 := n0_; have HO286 := n1_; have HB := n2_; clear n0_ n1_ n2_; (try clear hb); (try clear hb2); (try clear hk); (try clear hi); (try clear ho0); obtain ⟨Ao15, co15, eo15⟩ := Kd.R_slice HO282.out; subst eo15) | ((with_reducible refine gate_callee (f := 33) rfl ?_); refine goesL_ (some 41) rfl rfl Try.func33 (by kernel_rfl) rfl #[.slice Ao15 t279.length co15, .int .i64 a2, .int .i64 a3] rfl (by (try simp only [List.map_toArray, List.map_cons, List.map_nil]); first | done | rfl | (simp only [List.length_drop, List.length_take]; rfl)) ?_; (with_reducible refine (spot_Step.calls _ _ t279 a2 a3 t287 t288 _ ?side1 ?side2 A10.out).mono ?_); (case side1 => repeat (first | exact (Kd.R_reads' HO282.out).2.2 | (with_reducible refine Kd.C_alloc ?_ _) | (with_reducible refine Kd.C_drewN ?_ _) | (with_reducible refine Kd.C_drew ?_))); (case side2 => exact (Kd.R_reads' HO282.out).2.1); rintro e w16 ⟨rfl, hb⟩; refine ⟨_, rfl, ?_⟩; have n0_ := Aside0.mk (Kd.R_below (by (with_reducible repeat (first | apply Kd.R_alloc | apply Kd.R_drewN | apply Kd.R_drew)); exact HO282.out) hb); have n1_ := Aside0.mk (Kd.R_below (by (with_reducible repeat (first | apply Kd.R_alloc | apply Kd.R_drewN | apply Kd.R_drew)); exact HO286.out) hb); have n2_ := Aside0.mk (below_step (by repeat (first | (with_reducible first | exact HB.out | apply below_alloc | apply pw_below_drewN | apply below_drew1) | exact HB.out)) hb); clear HO282; clear HO286; clear HB; have HO282 := n0_; have HO286 := n1_; have HB := n2_; clear n0_ n1_ n2_; (try clear hb); (try clear hb2); (try clear hk); (try clear hi); obtain ⟨Ao17, co17, eo17⟩ := Kd.R_slice HO286.out; subst eo17) | ((with_reducible refine gate_callee (f := 35) rfl ?_); refine goesL_ (some 48) rfl rfl Try.func35 (by kernel_rfl) rfl #[.slice Ao17 t283.length co17, .int .i64 a2, .int .i64 a3] rfl (by (try simp only [List.map_toArray, List.map_cons, List.map_nil]); first | done | rfl | (simp only [List.length_drop, List.length_take]; rfl)) ?_; (with_reducible refine (colophonref15_Step.calls k _ _ t283 a2 a3 t289 t290 _ ?side1 ?side2 A11.out).mono ?_); (case side1 => repeat (first | exact (Kd.R_reads' HO286.out).2.2 | (with_reducible refine Kd.C_alloc ?_ _) | (with_reducible refine Kd.C_drewN ?_ _) | (with_reducible refine Kd.C_drew ?_))); (case side2 => exact (Kd.R_reads' HO286.out).2.1); rintro e w' ⟨rfl, ⟨nd, rfl⟩⟩; refine ⟨_, rfl, ?_⟩))
    (try simp only [Act.put, List.setIfInBounds_toArray, List.set_cons_zero, List.set_cons_succ])
    go_cut [67] (fun v67 wc => ∃ (kq : Nat) (x67_11 : Bool), v67 = .bool x67_11 ∧ Aside0 (colophonlaw15_SpotSteps.j0 kq t279 t283 x67_11 = some r) ∧ Aside0 (kq ≤ k) ∧ Aside0 (Kd.R Kd.c128 38 wc w.heap.size (fun _ => True) (.slice Ao15 t279.length co15) t279) ∧ Aside0 (Kd.R k45 45 wc w.heap.size (fun _ => True) (.slice Ao17 t283.length co17) t283) ∧ Aside0 (Below w.heap.size w wc))
    case first =>
      have H := HC12.out
      clear HC12
      by_cases c18 : t280 = t284
      · rw [if_pos c18] at H
        have c18b0 : (t280 == t284) = true := beq_iff_eq.mpr c18
        have c18b1 : (t280 != t284) = false := bne_eq_false_iff_eq.mpr c18
        clear c18
        (first | rw [c18b0] | (simp only [i64_w, i32_w]; rw [c18b0]) | skip)
        by_cases c19 : t287 = t289
        · rw [if_pos c19] at H
          have c19b0 : (t287 == t289) = true := beq_iff_eq.mpr c19
          have c19b1 : (t287 != t289) = false := bne_eq_false_iff_eq.mpr c19
          clear c19
          by_cases c20 : t288 = t290
          · rw [if_pos c20] at H
            have c20b0 : (t288 == t290) = true := beq_iff_eq.mpr c20
            have c20b1 : (t288 != t290) = false := bne_eq_false_iff_eq.mpr c20
            clear c20
            replace H := Option.bind_eq_some_iff.mp H
            obtain ⟨t291, A210, H⟩ := H
            replace H : (colophonlaw15_SpotSteps.j0 k t279 t283 (!t291)) = some r := H
            have A21 := Aside0.mk A210
            clear A210
            have H' := Aside0.mk H
            clear H
            go_wp2_with (first | (go_at_call 28; (with_reducible refine (colophonlaw15_works.calls k  t291 _ A21.out).mono ?_); rintro e w22 ⟨rfl, hb⟩; have n0_ := Aside0.mk (Kd.R_below (by (with_reducible repeat (first | apply Kd.R_alloc | apply Kd.R_drewN | apply Kd.R_drew)); exact HO282.out) hb); have n1_ := Aside0.mk (Kd.R_below (by (with_reducible repeat (first | apply Kd.R_alloc | apply Kd.R_drewN | apply Kd.R_drew)); exact HO286.out) hb); have n2_ := Aside0.mk (below_step (by repeat (first | (with_reducible first | exact HB.out | apply below_alloc | apply pw_below_drewN | apply below_drew1) | exact HB.out)) hb); clear HO282; clear HO286; clear HB; have HO282 := n0_; have HO286 := n1_; have HB := n2_; clear n0_ n1_ n2_; (try clear hb); (try clear hb2); (try clear hk); (try clear hi)))
            go_meet
            case rel => exact ⟨_, (!t291), (by first | rfl | (simp; done) | (simp [*]; done)), H', ⟨by first | omega | exact Nat.le_refl _⟩, ⟨by (with_reducible repeat (first | apply Kd.R_alloc | apply Kd.R_drewN | apply Kd.R_drew)); exact HO282.out⟩, ⟨by (with_reducible repeat (first | apply Kd.R_alloc | apply Kd.R_drewN | apply Kd.R_drew)); exact HO286.out⟩, ⟨by repeat (first | (with_reducible first | exact HB.out | apply below_alloc | apply pw_below_drewN | apply below_drew1) | exact HB.out)⟩⟩
          · rw [if_neg c20] at H
            have c20b0 : (t288 == t290) = false := beq_eq_false_iff_ne.mpr c20
            have c20b1 : (t288 != t290) = true := bne_iff_ne.mpr c20
            have H' := Aside0.mk H
            clear H
            go_wp2
            go_meet
            case rel => exact ⟨_, (true), (by first | rfl | (simp; done) | (simp [*]; done)), H', ⟨by first | omega | exact Nat.le_refl _⟩, ⟨by (with_reducible repeat (first | apply Kd.R_alloc | apply Kd.R_drewN | apply Kd.R_drew)); exact HO282.out⟩, ⟨by (with_reducible repeat (first | apply Kd.R_alloc | apply Kd.R_drewN | apply Kd.R_drew)); exact HO286.out⟩, ⟨by repeat (first | (with_reducible first | exact HB.out | apply below_alloc | apply pw_below_drewN | apply below_drew1) | exact HB.out)⟩⟩
        · rw [if_neg c19] at H
          have c19b0 : (t287 == t289) = false := beq_eq_false_iff_ne.mpr c19
          have c19b1 : (t287 != t289) = true := bne_iff_ne.mpr c19
          have H' := Aside0.mk H
          clear H
          go_wp2
          go_meet
          case rel => exact ⟨_, (true), (by first | rfl | (simp; done) | (simp [*]; done)), H', ⟨by first | omega | exact Nat.le_refl _⟩, ⟨by (with_reducible repeat (first | apply Kd.R_alloc | apply Kd.R_drewN | apply Kd.R_drew)); exact HO282.out⟩, ⟨by (with_reducible repeat (first | apply Kd.R_alloc | apply Kd.R_drewN | apply Kd.R_drew)); exact HO286.out⟩, ⟨by repeat (first | (with_reducible first | exact HB.out | apply below_alloc | apply pw_below_drewN | apply below_drew1) | exact HB.out)⟩⟩
      · rw [if_neg c18] at H
        have c18b0 : (t280 == t284) = false := beq_eq_false_iff_ne.mpr c18
        have c18b1 : (t280 != t284) = true := bne_iff_ne.mpr c18
        (first | rw [c18b0] | (simp only [i64_w, i32_w]; rw [c18b0]) | skip)
        have H' := Aside0.mk H
        clear H
        go_wp2
        go_meet
        case rel => exact ⟨_, (true), (by first | rfl | (simp; done) | (simp [*]; done)), H', ⟨by first | omega | exact Nat.le_refl _⟩, ⟨by (with_reducible repeat (first | apply Kd.R_alloc | apply Kd.R_drewN | apply Kd.R_drew)); exact HO282.out⟩, ⟨by (with_reducible repeat (first | apply Kd.R_alloc | apply Kd.R_drewN | apply Kd.R_drew)); exact HO286.out⟩, ⟨by repeat (first | (with_reducible first | exact HB.out | apply below_alloc | apply pw_below_drewN | apply below_drew1) | exact HB.out)⟩⟩
    case rest =>
      clear HC12
      try clear c1
      try clear c2
      try clear p2
      try clear c3
      try clear c5
      try clear c5b0
      try clear c5b1
      try clear c7
      try clear c12
      try clear c18
      try clear c18b0
      try clear c18b1
      try clear c19
      try clear c19b0
      try clear c19b1
      try clear c20
      try clear c20b0
      try clear c20b1
      obtain ⟨kq, x67_11, rfl, HA, HJ11, HO_9, HO_11, HB⟩ := hcut
      cases kq with
      | zero => exact absurd HA.out (by simp [colophonlaw15_SpotSteps.j0])
      | succ kj11 =>
        have H := HA.out
        clear HA
        simp only [colophonlaw15_SpotSteps.j0] at H
        by_cases c23 : x67_11 = true
        · subst c23
          have H1 : (some false) = some r := by rw [if_pos rfl] at H; exact H
          clear H
          have H := H1
          clear H1
          obtain rfl := Option.some.inj H
          go_wp2
          go_ret
          exact ⟨by first | rfl | (simp [errW_none, errW_some] <;> rfl) | (simp [*, errW_none, errW_some] <;> rfl), by repeat (first | (with_reducible first | exact HB.out | apply below_alloc | apply pw_below_drewN | apply below_drew1) | exact HB.out)⟩
        · replace c23 := Bool.eq_false_iff.mpr c23
          subst c23
          have H1 : (colophonlaw15_SpotSteps.l0 kj11 t279 t283 t279 (t279.length : Int) 0) = some r := by rw [if_neg (show ¬ (false = true) by decide)] at H; exact H
          clear H
          have H := H1
          clear H1
          have H' := Aside0.mk H
          clear H
          go_wp2
          go_loopg [70] kj11 (fun kq v70 w' => ∃ (x70_2 : Int), v70 = .int .i64 x70_2 ∧ Aside0 (colophonlaw15_SpotSteps.l0 kq t279 t283 t279 (t279.length : Int) x70_2 = some r) ∧ Aside0 (kq ≤ kj11) ∧ Aside0 (Kd.R Kd.c128 38 w' w.heap.size (fun _ => True) (.slice Ao15 t279.length co15) t279) ∧ Aside0 (Kd.R k45 45 w' w.heap.size (fun _ => True) (.slice Ao17 t283.length co17) t283) ∧ Aside0 (Kd.R Kd.c128 38 w' w.heap.size (fun _ => True) (.slice Ao15 t279.length co15) t279) ∧ Aside0 (Below w.heap.size w w'))
          case atStart => exact ⟨(0), (by first | rfl | (simp; done) | (simp [*]; done)), H', ⟨Nat.le_refl _⟩, ⟨by (with_reducible repeat (first | apply Kd.R_alloc | apply Kd.R_drewN | apply Kd.R_drew)); exact HO_9.out⟩, ⟨by (with_reducible repeat (first | apply Kd.R_alloc | apply Kd.R_drewN | apply Kd.R_drew)); exact HO_11.out⟩, ⟨by (with_reducible repeat (first | apply Kd.R_alloc | apply Kd.R_drewN | apply Kd.R_drew)); exact HO_9.out⟩, ⟨by repeat (first | (with_reducible first | exact HB.out | apply below_alloc | apply pw_below_drewN | apply below_drew1) | exact HB.out)⟩⟩
          case round =>
            clear H'
            try clear c1
            try clear c2
            try clear p2
            try clear c3
            try clear c5
            try clear c5b0
            try clear c5b1
            try clear c7
            try clear c12
            try clear c18
            try clear c18b0
            try clear c18b1
            try clear c19
            try clear c19b0
            try clear c19b1
            try clear c20
            try clear c20b0
            try clear c20b1
            try clear c23
            try clear p2
            obtain ⟨x70_2, rfl, HA, HK2, HO_9, HO_11, HO_68, HB⟩ := hrel
            cases gk with
            | zero => exact absurd HA.out (by simp [colophonlaw15_SpotSteps.l0])
            | succ k2 =>
              have H := HA.out
              clear HA
              simp only [colophonlaw15_SpotSteps.l0] at H
              by_cases c24 : x70_2 < (t279.length : Int)
              · rw [if_pos c24] at H
                have c24b0 : decide (x70_2 < (t279.length : Int)) = true := decide_eq_true c24
                clear c24
                by_cases c25 : 0 ≤ x70_2
                · rw [if_pos c25] at H
                  have c25b0 : decide (0 ≤ x70_2) = true := decide_eq_true c25
                  clear c25
                  by_cases c26 : x70_2 < (t279.length : Int)
                  · rw [if_pos c26] at H
                    have c26b0 : decide (x70_2 < (t279.length : Int)) = true := decide_eq_true c26
                    clear c26
                    replace H := Option.bind_eq_some_iff.mp H
                    obtain ⟨⟨t293, t294⟩, A270, H⟩ := H
                    replace H : (if x70_2 < (t283.length : Int) then (if ((rd_T45 t283 x70_2).f1) = 0 then (if t293 = 0 then (if t294 = 4 then (colophonlaw15_SpotSteps.l0 k2 t279 t283 t279 (t279.length : Int) (wrap64 (x70_2 + 1))) else (some false)) else (some false)) else (if t293 = x70_2 then (if t294 = 0 then (colophonlaw15_SpotSteps.l0 k2 t279 t283 t279 (t279.length : Int) (wrap64 (x70_2 + 1))) else (some false)) else (some false))) else (none)) = some r := H
                    have A27 := Aside0.mk A270
                    clear A270
                    by_cases c28 : x70_2 < (t283.length : Int)
                    · rw [if_pos c28] at H
                      have c28b0 : decide (x70_2 < (t283.length : Int)) = true := decide_eq_true c28
                      clear c28
                      by_cases c29 : ((rd_T45 t283 x70_2).f1) = 0
                      · rw [if_pos c29] at H
                        have c29b0 : (((rd_T45 t283 x70_2).f1) == 0) = true := beq_iff_eq.mpr c29
                        have c29b1 : (((rd_T45 t283 x70_2).f1) != 0) = false := bne_eq_false_iff_eq.mpr c29
                        clear c29
                        by_cases c30 : t293 = 0
                        · rw [if_pos c30] at H
                          have c30b0 : (t293 == 0) = true := beq_iff_eq.mpr c30
                          have c30b1 : (t293 != 0) = false := bne_eq_false_iff_eq.mpr c30
                          clear c30
                          by_cases c31 : t294 = 4
                          · rw [if_pos c31] at H
                            have c31b0 : (t294 == 4) = true := beq_iff_eq.mpr c31
                            have c31b1 : (t294 != 4) = false := bne_eq_false_iff_eq.mpr c31
                            clear c31
                            have H' := Aside0.mk H
                            clear H
                            have p292 : 0 ≤ (x70_2 : Int) := of_decide_eq_true (by first | (with_reducible assumption) | assumption)
                            have q292 : x70_2 < (t279.length : Int) := of_decide_eq_true (by first | (with_reducible assumption) | assumption)
                            obtain ⟨ad292, e292, hx292_0⟩ := Kd.at_c128 (Kd.R_reads' HO_68.out).2.2 x70_2 p292 q292
                            cases e292
                            replace p292 := eq_true p292
                            replace q292 := eq_true q292
                            go_wp2_with (first | ((with_reducible refine gate_callee (f := 36) rfl ?_); refine goesL_ (some 78) rfl rfl Try.func36 (by kernel_rfl) rfl #[.slice (some ad292) t279.length co15, .complex .f64 (floatOfInt .f64 (rdOf zc t279 x70_2).re) (floatOfInt .f64 (rdOf zc t279 x70_2).im)] rfl (by (try simp only [List.map_toArray, List.map_cons, List.map_nil]); first | done | rfl | (simp only [List.length_drop, List.length_take]; rfl)) ?_; (with_reducible refine (spot_Offset.calls _ _ t279 (rdOf zc t279 x70_2) t293 t294 _ ?side1 ?side2 A27.out).mono ?_); (case side1 => repeat (first | exact (Kd.R_reads' HO_9.out).2.2 | (with_reducible refine Kd.C_alloc ?_ _) | (with_reducible refine Kd.C_drewN ?_ _) | (with_reducible refine Kd.C_drew ?_))); (case side2 => exact (Kd.R_reads' HO_9.out).2.1); rintro e w32 ⟨rfl, hb⟩; refine ⟨_, rfl, ?_⟩; have n0_ := Aside0.mk (Kd.R_below (by (with_reducible repeat (first | apply Kd.R_alloc | apply Kd.R_drewN | apply Kd.R_drew)); exact HO_9.out) hb); have n1_ := Aside0.mk (Kd.R_below (by (with_reducible repeat (first | apply Kd.R_alloc | apply Kd.R_drewN | apply Kd.R_drew)); exact HO_11.out) hb); have n2_ := Aside0.mk (Kd.R_below (by (with_reducible repeat (first | apply Kd.R_alloc | apply Kd.R_drewN | apply Kd.R_drew)); exact HO_68.out) hb); have n3_ := Aside0.mk (below_step (by repeat (first | (with_reducible first | exact HB.out | apply below_alloc | apply pw_below_drewN | apply below_drew1) | exact HB.out)) hb); clear HO_9; clear HO_11; clear HO_68; clear HB; have HO_9 := n0_; have HO_11 := n1_; have HO_68 := n2_; have HB := n3_; clear n0_ n1_ n2_ n3_; (try clear hb); (try clear hb2); (try clear hk); (try clear hi); have p295 : 0 ≤ (x70_2 : Int) := of_decide_eq_true (by first | (with_reducible assumption) | assumption); have q295 : x70_2 < (t283.length : Int) := of_decide_eq_true (by first | (with_reducible assumption) | assumption); obtain ⟨ad295, e295, hx295_0, hx295_1⟩ := at_T45 (Kd.R_reads' HO_11.out).2.2 x70_2 p295 q295; cases e295; replace p295 := eq_true p295; replace q295 := eq_true q295))
                            go_roundg k2
                            case measure => have := HJ11.out; have := HK2.out; omega
                            case rel => exact ⟨(wrap64 (x70_2 + 1)), (by first | rfl | (simp; done) | (simp [*]; done)), H', ⟨by have := HJ11.out; have := HK2.out; omega⟩, ⟨by (with_reducible repeat (first | apply Kd.R_alloc | apply Kd.R_drewN | apply Kd.R_drew)); exact HO_9.out⟩, ⟨by (with_reducible repeat (first | apply Kd.R_alloc | apply Kd.R_drewN | apply Kd.R_drew)); exact HO_11.out⟩, ⟨by (with_reducible repeat (first | apply Kd.R_alloc | apply Kd.R_drewN | apply Kd.R_drew)); exact HO_68.out⟩, ⟨by repeat (first | (with_reducible first | exact HB.out | apply below_alloc | apply pw_below_drewN | apply below_drew1) | exact HB.out)⟩⟩
                          · rw [if_neg c31] at H
                            have c31b0 : (t294 == 4) = false := beq_eq_false_iff_ne.mpr c31
                            have c31b1 : (t294 != 4) = true := bne_iff_ne.mpr c31
                            obtain rfl := Option.some.inj H
                            have p292 : 0 ≤ (x70_2 : Int) := of_decide_eq_true (by first | (with_reducible assumption) | assumption)
                            have q292 : x70_2 < (t279.length : Int) := of_decide_eq_true (by first | (with_reducible assumption) | assumption)
                            obtain ⟨ad292, e292, hx292_0⟩ := Kd.at_c128 (Kd.R_reads' HO_68.out).2.2 x70_2 p292 q292
                            cases e292
                            replace p292 := eq_true p292
                            replace q292 := eq_true q292
                            go_wp2_with (first | ((with_reducible refine gate_callee (f := 36) rfl ?_); refine goesL_ (some 78) rfl rfl Try.func36 (by kernel_rfl) rfl #[.slice (some ad292) t279.length co15, .complex .f64 (floatOfInt .f64 (rdOf zc t279 x70_2).re) (floatOfInt .f64 (rdOf zc t279 x70_2).im)] rfl (by (try simp only [List.map_toArray, List.map_cons, List.map_nil]); first | done | rfl | (simp only [List.length_drop, List.length_take]; rfl)) ?_; (with_reducible refine (spot_Offset.calls _ _ t279 (rdOf zc t279 x70_2) t293 t294 _ ?side1 ?side2 A27.out).mono ?_); (case side1 => repeat (first | exact (Kd.R_reads' HO_9.out).2.2 | (with_reducible refine Kd.C_alloc ?_ _) | (with_reducible refine Kd.C_drewN ?_ _) | (with_reducible refine Kd.C_drew ?_))); (case side2 => exact (Kd.R_reads' HO_9.out).2.1); rintro e w33 ⟨rfl, hb⟩; refine ⟨_, rfl, ?_⟩; have n0_ := Aside0.mk (Kd.R_below (by (with_reducible repeat (first | apply Kd.R_alloc | apply Kd.R_drewN | apply Kd.R_drew)); exact HO_9.out) hb); have n1_ := Aside0.mk (Kd.R_below (by (with_reducible repeat (first | apply Kd.R_alloc | apply Kd.R_drewN | apply Kd.R_drew)); exact HO_11.out) hb); have n2_ := Aside0.mk (Kd.R_below (by (with_reducible repeat (first | apply Kd.R_alloc | apply Kd.R_drewN | apply Kd.R_drew)); exact HO_68.out) hb); have n3_ := Aside0.mk (below_step (by repeat (first | (with_reducible first | exact HB.out | apply below_alloc | apply pw_below_drewN | apply below_drew1) | exact HB.out)) hb); clear HO_9; clear HO_11; clear HO_68; clear HB; have HO_9 := n0_; have HO_11 := n1_; have HO_68 := n2_; have HB := n3_; clear n0_ n1_ n2_ n3_; (try clear hb); (try clear hb2); (try clear hk); (try clear hi); have p295 : 0 ≤ (x70_2 : Int) := of_decide_eq_true (by first | (with_reducible assumption) | assumption); have q295 : x70_2 < (t283.length : Int) := of_decide_eq_true (by first | (with_reducible assumption) | assumption); obtain ⟨ad295, e295, hx295_0, hx295_1⟩ := at_T45 (Kd.R_reads' HO_11.out).2.2 x70_2 p295 q295; cases e295; replace p295 := eq_true p295; replace q295 := eq_true q295))
                            go_ret
                            exact ⟨by first | rfl | (simp [errW_none, errW_some] <;> rfl) | (simp [*, errW_none, errW_some] <;> rfl), by repeat (first | (with_reducible first | exact HB.out | apply below_alloc | apply pw_below_drewN | apply below_drew1) | exact HB.out)⟩
                        · rw [if_neg c30] at H
                          have c30b0 : (t293 == 0) = false := beq_eq_false_iff_ne.mpr c30
                          have c30b1 : (t293 != 0) = true := bne_iff_ne.mpr c30
                          obtain rfl := Option.some.inj H
                          have p292 : 0 ≤ (x70_2 : Int) := of_decide_eq_true (by first | (with_reducible assumption) | assumption)
                          have q292 : x70_2 < (t279.length : Int) := of_decide_eq_true (by first | (with_reducible assumption) | assumption)
                          obtain ⟨ad292, e292, hx292_0⟩ := Kd.at_c128 (Kd.R_reads' HO_68.out).2.2 x70_2 p292 q292
                          cases e292
                          replace p292 := eq_true p292
                          replace q292 := eq_true q292
                          go_wp2_with (first | ((with_reducible refine gate_callee (f := 36) rfl ?_); refine goesL_ (some 78) rfl rfl Try.func36 (by kernel_rfl) rfl #[.slice (some ad292) t279.length co15, .complex .f64 (floatOfInt .f64 (rdOf zc t279 x70_2).re) (floatOfInt .f64 (rdOf zc t279 x70_2).im)] rfl (by (try simp only [List.map_toArray, List.map_cons, List.map_nil]); first | done | rfl | (simp only [List.length_drop, List.length_take]; rfl)) ?_; (with_reducible refine (spot_Offset.calls _ _ t279 (rdOf zc t279 x70_2) t293 t294 _ ?side1 ?side2 A27.out).mono ?_); (case side1 => repeat (first | exact (Kd.R_reads' HO_9.out).2.2 | (with_reducible refine Kd.C_alloc ?_ _) | (with_reducible refine Kd.C_drewN ?_ _) | (with_reducible refine Kd.C_drew ?_))); (case side2 => exact (Kd.R_reads' HO_9.out).2.1); rintro e w34 ⟨rfl, hb⟩; refine ⟨_, rfl, ?_⟩; have n0_ := Aside0.mk (Kd.R_below (by (with_reducible repeat (first | apply Kd.R_alloc | apply Kd.R_drewN | apply Kd.R_drew)); exact HO_9.out) hb); have n1_ := Aside0.mk (Kd.R_below (by (with_reducible repeat (first | apply Kd.R_alloc | apply Kd.R_drewN | apply Kd.R_drew)); exact HO_11.out) hb); have n2_ := Aside0.mk (Kd.R_below (by (with_reducible repeat (first | apply Kd.R_alloc | apply Kd.R_drewN | apply Kd.R_drew)); exact HO_68.out) hb); have n3_ := Aside0.mk (below_step (by repeat (first | (with_reducible first | exact HB.out | apply below_alloc | apply pw_below_drewN | apply below_drew1) | exact HB.out)) hb); clear HO_9; clear HO_11; clear HO_68; clear HB; have HO_9 := n0_; have HO_11 := n1_; have HO_68 := n2_; have HB := n3_; clear n0_ n1_ n2_ n3_; (try clear hb); (try clear hb2); (try clear hk); (try clear hi); have p295 : 0 ≤ (x70_2 : Int) := of_decide_eq_true (by first | (with_reducible assumption) | assumption); have q295 : x70_2 < (t283.length : Int) := of_decide_eq_true (by first | (with_reducible assumption) | assumption); obtain ⟨ad295, e295, hx295_0, hx295_1⟩ := at_T45 (Kd.R_reads' HO_11.out).2.2 x70_2 p295 q295; cases e295; replace p295 := eq_true p295; replace q295 := eq_true q295))
                          go_ret
                          exact ⟨by first | rfl | (simp [errW_none, errW_some] <;> rfl) | (simp [*, errW_none, errW_some] <;> rfl), by repeat (first | (with_reducible first | exact HB.out | apply below_alloc | apply pw_below_drewN | apply below_drew1) | exact HB.out)⟩
                      · rw [if_neg c29] at H
                        have c29b0 : (((rd_T45 t283 x70_2).f1) == 0) = false := beq_eq_false_iff_ne.mpr c29
                        have c29b1 : (((rd_T45 t283 x70_2).f1) != 0) = true := bne_iff_ne.mpr c29
                        by_cases c35 : t293 = x70_2
                        · rw [if_pos c35] at H
                          have c35b0 : (t293 == x70_2) = true := beq_iff_eq.mpr c35
                          have c35b1 : (t293 != x70_2) = false := bne_eq_false_iff_eq.mpr c35
                          clear c35
                          by_cases c36 : t294 = 0
                          · rw [if_pos c36] at H
                            have c36b0 : (t294 == 0) = true := beq_iff_eq.mpr c36
                            have c36b1 : (t294 != 0) = false := bne_eq_false_iff_eq.mpr c36
                            clear c36
                            have H' := Aside0.mk H
                            clear H
                            have p292 : 0 ≤ (x70_2 : Int) := of_decide_eq_true (by first | (with_reducible assumption) | assumption)
                            have q292 : x70_2 < (t279.length : Int) := of_decide_eq_true (by first | (with_reducible assumption) | assumption)
                            obtain ⟨ad292, e292, hx292_0⟩ := Kd.at_c128 (Kd.R_reads' HO_68.out).2.2 x70_2 p292 q292
                            cases e292
                            replace p292 := eq_true p292
                            replace q292 := eq_true q292
                            go_wp2_with (first | ((with_reducible refine gate_callee (f := 36) rfl ?_); refine goesL_ (some 78) rfl rfl Try.func36 (by kernel_rfl) rfl #[.slice (some ad292) t279.length co15, .complex .f64 (floatOfInt .f64 (rdOf zc t279 x70_2).re) (floatOfInt .f64 (rdOf zc t279 x70_2).im)] rfl (by (try simp only [List.map_toArray, List.map_cons, List.map_nil]); first | done | rfl | (simp only [List.length_drop, List.length_take]; rfl)) ?_; (with_reducible refine (spot_Offset.calls _ _ t279 (rdOf zc t279 x70_2) t293 t294 _ ?side1 ?side2 A27.out).mono ?_); (case side1 => repeat (first | exact (Kd.R_reads' HO_9.out).2.2 | (with_reducible refine Kd.C_alloc ?_ _) | (with_reducible refine Kd.C_drewN ?_ _) | (with_reducible refine Kd.C_drew ?_))); (case side2 => exact (Kd.R_reads' HO_9.out).2.1); rintro e w37 ⟨rfl, hb⟩; refine ⟨_, rfl, ?_⟩; have n0_ := Aside0.mk (Kd.R_below (by (with_reducible repeat (first | apply Kd.R_alloc | apply Kd.R_drewN | apply Kd.R_drew)); exact HO_9.out) hb); have n1_ := Aside0.mk (Kd.R_below (by (with_reducible repeat (first | apply Kd.R_alloc | apply Kd.R_drewN | apply Kd.R_drew)); exact HO_11.out) hb); have n2_ := Aside0.mk (Kd.R_below (by (with_reducible repeat (first | apply Kd.R_alloc | apply Kd.R_drewN | apply Kd.R_drew)); exact HO_68.out) hb); have n3_ := Aside0.mk (below_step (by repeat (first | (with_reducible first | exact HB.out | apply below_alloc | apply pw_below_drewN | apply below_drew1) | exact HB.out)) hb); clear HO_9; clear HO_11; clear HO_68; clear HB; have HO_9 := n0_; have HO_11 := n1_; have HO_68 := n2_; have HB := n3_; clear n0_ n1_ n2_ n3_; (try clear hb); (try clear hb2); (try clear hk); (try clear hi); have p295 : 0 ≤ (x70_2 : Int) := of_decide_eq_true (by first | (with_reducible assumption) | assumption); have q295 : x70_2 < (t283.length : Int) := of_decide_eq_true (by first | (with_reducible assumption) | assumption); obtain ⟨ad295, e295, hx295_0, hx295_1⟩ := at_T45 (Kd.R_reads' HO_11.out).2.2 x70_2 p295 q295; cases e295; replace p295 := eq_true p295; replace q295 := eq_true q295))
                            go_roundg k2
                            case measure => have := HJ11.out; have := HK2.out; omega
                            case rel => exact ⟨(wrap64 (x70_2 + 1)), (by first | rfl | (simp; done) | (simp [*]; done)), H', ⟨by have := HJ11.out; have := HK2.out; omega⟩, ⟨by (with_reducible repeat (first | apply Kd.R_alloc | apply Kd.R_drewN | apply Kd.R_drew)); exact HO_9.out⟩, ⟨by (with_reducible repeat (first | apply Kd.R_alloc | apply Kd.R_drewN | apply Kd.R_drew)); exact HO_11.out⟩, ⟨by (with_reducible repeat (first | apply Kd.R_alloc | apply Kd.R_drewN | apply Kd.R_drew)); exact HO_68.out⟩, ⟨by repeat (first | (with_reducible first | exact HB.out | apply below_alloc | apply pw_below_drewN | apply below_drew1) | exact HB.out)⟩⟩
                          · rw [if_neg c36] at H
                            have c36b0 : (t294 == 0) = false := beq_eq_false_iff_ne.mpr c36
                            have c36b1 : (t294 != 0) = true := bne_iff_ne.mpr c36
                            obtain rfl := Option.some.inj H
                            have p292 : 0 ≤ (x70_2 : Int) := of_decide_eq_true (by first | (with_reducible assumption) | assumption)
                            have q292 : x70_2 < (t279.length : Int) := of_decide_eq_true (by first | (with_reducible assumption) | assumption)
                            obtain ⟨ad292, e292, hx292_0⟩ := Kd.at_c128 (Kd.R_reads' HO_68.out).2.2 x70_2 p292 q292
                            cases e292
                            replace p292 := eq_true p292
                            replace q292 := eq_true q292
                            go_wp2_with (first | ((with_reducible refine gate_callee (f := 36) rfl ?_); refine goesL_ (some 78) rfl rfl Try.func36 (by kernel_rfl) rfl #[.slice (some ad292) t279.length co15, .complex .f64 (floatOfInt .f64 (rdOf zc t279 x70_2).re) (floatOfInt .f64 (rdOf zc t279 x70_2).im)] rfl (by (try simp only [List.map_toArray, List.map_cons, List.map_nil]); first | done | rfl | (simp only [List.length_drop, List.length_take]; rfl)) ?_; (with_reducible refine (spot_Offset.calls _ _ t279 (rdOf zc t279 x70_2) t293 t294 _ ?side1 ?side2 A27.out).mono ?_); (case side1 => repeat (first | exact (Kd.R_reads' HO_9.out).2.2 | (with_reducible refine Kd.C_alloc ?_ _) | (with_reducible refine Kd.C_drewN ?_ _) | (with_reducible refine Kd.C_drew ?_))); (case side2 => exact (Kd.R_reads' HO_9.out).2.1); rintro e w38 ⟨rfl, hb⟩; refine ⟨_, rfl, ?_⟩; have n0_ := Aside0.mk (Kd.R_below (by (with_reducible repeat (first | apply Kd.R_alloc | apply Kd.R_drewN | apply Kd.R_drew)); exact HO_9.out) hb); have n1_ := Aside0.mk (Kd.R_below (by (with_reducible repeat (first | apply Kd.R_alloc | apply Kd.R_drewN | apply Kd.R_drew)); exact HO_11.out) hb); have n2_ := Aside0.mk (Kd.R_below (by (with_reducible repeat (first | apply Kd.R_alloc | apply Kd.R_drewN | apply Kd.R_drew)); exact HO_68.out) hb); have n3_ := Aside0.mk (below_step (by repeat (first | (with_reducible first | exact HB.out | apply below_alloc | apply pw_below_drewN | apply below_drew1) | exact HB.out)) hb); clear HO_9; clear HO_11; clear HO_68; clear HB; have HO_9 := n0_; have HO_11 := n1_; have HO_68 := n2_; have HB := n3_; clear n0_ n1_ n2_ n3_; (try clear hb); (try clear hb2); (try clear hk); (try clear hi); have p295 : 0 ≤ (x70_2 : Int) := of_decide_eq_true (by first | (with_reducible assumption) | assumption); have q295 : x70_2 < (t283.length : Int) := of_decide_eq_true (by first | (with_reducible assumption) | assumption); obtain ⟨ad295, e295, hx295_0, hx295_1⟩ := at_T45 (Kd.R_reads' HO_11.out).2.2 x70_2 p295 q295; cases e295; replace p295 := eq_true p295; replace q295 := eq_true q295))
                            go_ret
                            exact ⟨by first | rfl | (simp [errW_none, errW_some] <;> rfl) | (simp [*, errW_none, errW_some] <;> rfl), by repeat (first | (with_reducible first | exact HB.out | apply below_alloc | apply pw_below_drewN | apply below_drew1) | exact HB.out)⟩
                        · rw [if_neg c35] at H
                          have c35b0 : (t293 == x70_2) = false := beq_eq_false_iff_ne.mpr c35
                          have c35b1 : (t293 != x70_2) = true := bne_iff_ne.mpr c35
                          obtain rfl := Option.some.inj H
                          have p292 : 0 ≤ (x70_2 : Int) := of_decide_eq_true (by first | (with_reducible assumption) | assumption)
                          have q292 : x70_2 < (t279.length : Int) := of_decide_eq_true (by first | (with_reducible assumption) | assumption)
                          obtain ⟨ad292, e292, hx292_0⟩ := Kd.at_c128 (Kd.R_reads' HO_68.out).2.2 x70_2 p292 q292
                          cases e292
                          replace p292 := eq_true p292
                          replace q292 := eq_true q292
                          go_wp2_with (first | ((with_reducible refine gate_callee (f := 36) rfl ?_); refine goesL_ (some 78) rfl rfl Try.func36 (by kernel_rfl) rfl #[.slice (some ad292) t279.length co15, .complex .f64 (floatOfInt .f64 (rdOf zc t279 x70_2).re) (floatOfInt .f64 (rdOf zc t279 x70_2).im)] rfl (by (try simp only [List.map_toArray, List.map_cons, List.map_nil]); first | done | rfl | (simp only [List.length_drop, List.length_take]; rfl)) ?_; (with_reducible refine (spot_Offset.calls _ _ t279 (rdOf zc t279 x70_2) t293 t294 _ ?side1 ?side2 A27.out).mono ?_); (case side1 => repeat (first | exact (Kd.R_reads' HO_9.out).2.2 | (with_reducible refine Kd.C_alloc ?_ _) | (with_reducible refine Kd.C_drewN ?_ _) | (with_reducible refine Kd.C_drew ?_))); (case side2 => exact (Kd.R_reads' HO_9.out).2.1); rintro e w39 ⟨rfl, hb⟩; refine ⟨_, rfl, ?_⟩; have n0_ := Aside0.mk (Kd.R_below (by (with_reducible repeat (first | apply Kd.R_alloc | apply Kd.R_drewN | apply Kd.R_drew)); exact HO_9.out) hb); have n1_ := Aside0.mk (Kd.R_below (by (with_reducible repeat (first | apply Kd.R_alloc | apply Kd.R_drewN | apply Kd.R_drew)); exact HO_11.out) hb); have n2_ := Aside0.mk (Kd.R_below (by (with_reducible repeat (first | apply Kd.R_alloc | apply Kd.R_drewN | apply Kd.R_drew)); exact HO_68.out) hb); have n3_ := Aside0.mk (below_step (by repeat (first | (with_reducible first | exact HB.out | apply below_alloc | apply pw_below_drewN | apply below_drew1) | exact HB.out)) hb); clear HO_9; clear HO_11; clear HO_68; clear HB; have HO_9 := n0_; have HO_11 := n1_; have HO_68 := n2_; have HB := n3_; clear n0_ n1_ n2_ n3_; (try clear hb); (try clear hb2); (try clear hk); (try clear hi); have p295 : 0 ≤ (x70_2 : Int) := of_decide_eq_true (by first | (with_reducible assumption) | assumption); have q295 : x70_2 < (t283.length : Int) := of_decide_eq_true (by first | (with_reducible assumption) | assumption); obtain ⟨ad295, e295, hx295_0, hx295_1⟩ := at_T45 (Kd.R_reads' HO_11.out).2.2 x70_2 p295 q295; cases e295; replace p295 := eq_true p295; replace q295 := eq_true q295))
                          go_ret
                          exact ⟨by first | rfl | (simp [errW_none, errW_some] <;> rfl) | (simp [*, errW_none, errW_some] <;> rfl), by repeat (first | (with_reducible first | exact HB.out | apply below_alloc | apply pw_below_drewN | apply below_drew1) | exact HB.out)⟩
                    · rw [if_neg c28] at H
                      exact absurd H (by simp)
                  · rw [if_neg c26] at H
                    exact absurd H (by simp)
                · rw [if_neg c25] at H
                  exact absurd H (by simp)
              · rw [if_neg c24] at H
                have c24b0 : decide (x70_2 < (t279.length : Int)) = false := decide_eq_false c24
                clear c24
                obtain rfl := Option.some.inj H
                go_wp2
                go_ret
                exact ⟨by first | rfl | (simp [errW_none, errW_some] <;> rfl) | (simp [*, errW_none, errW_some] <;> rfl), by repeat (first | (with_reducible first | exact HB.out | apply below_alloc | apply pw_below_drewN | apply below_drew1) | exact HB.out)⟩

/-- THE ONE PURE STATEMENT of colophonlaw15_SpotSteps: yours. -/
def colophonlaw15_SpotSteps.Pure : Prop := ∀ (l0 : List Int) (a1 : Int) (a2 : Int) (a3 : Int), l0.length ≤ maxLen → l0.length * 8 ≤ 140737488351232 → (∀ x ∈ l0, (Lit.int .i64 x).wf = true) → (Lit.int .i64 a1).wf = true → (Lit.int .i64 a2).wf = true → (Lit.int .i64 a3).wf = true → ∃ k, colophonlaw15_SpotSteps.f k l0 a1 a2 a3 = some true
theorem colophonlaw15_SpotSteps.walk (P : colophonlaw15_SpotSteps.Pure) (a0 : Option Addr) (len0 cap0 : Nat) (z0 : List Int) (a1 : Int) (a2 : Int) (a3 : Int) (w : World) (w0 : (a0 = none ∧ len0 = 0 ∧ cap0 = 0 ∧ z0 = []) ∨ ∃ x, a0 = some x ∧ len0 ≤ cap0 ∧ cap0 ≤ maxLen ∧ z0.length = cap0 ∧ (∀ i, i < z0.length → w.cell? (x.add i) = some (.int .i64 (z0.getD i 0))) ∧ ∀ n ∈ z0, (Lit.int .i64 n).wf = true) (y0 : len0 * 8 ≤ 140737488351232) (w1 : (Lit.int .i64 a1).wf = true) (w2 : (Lit.int .i64 a2).wf = true) (w3 : (Lit.int .i64 a3).wf = true) :
    Calls Try.prog 7 #[.slice a0 len0 cap0, .int .i64 a1, .int .i64 a2, .int .i64 a3] w fun e w' => e = .returned (.bool true) ∧ Below w.heap.size w w' := by
  obtain ⟨l0, rfl, hr0, hm0, hw0, hc0⟩ := ReadsInt.ofRowC w0
  obtain ⟨k, h⟩ := P l0 a1 a2 a3 hm0 y0 hw0 w1 w2 w3
  refine (colophonlaw15_SpotSteps.calls k _ _ l0 a1 a2 a3 true w (Kd.C_of_reads (d := (0 : Int)) (h1 := fun _ => rfl) hr0) hc0 h).mono ?_
  rintro e w' ⟨rfl, hd⟩
  exact ⟨rfl, hd⟩

end Go.Proofs.Ytccleelhheilnaa.S
