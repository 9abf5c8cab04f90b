-- PRINTED by print.py (a twelfth state) out of the translation. Not trusted: Lean checks it.
import Derived.Test.YtccleelhheilnaaSx0
import Derived.Test.YtccleelhheilnaaSx2
import Derived.Test.YtccleelhheilnaaSx3
import Derived.Test.YtccleelhheilnaaSx4
import Derived.Test.YtccleelhheilnaaSx9
namespace Go.Proofs.Ytccleelhheilnaa.S
open Go.RowKit Go.Proofs.YtccleelhheilnaaW.PrintWords Go.Proofs.YtccleelhheilnaaW.PrintLast Go.Proofs.YtccleelhheilnaaW.PrintMore
open Go.Proofs.Ytccleelhheilnaa.F Go.Proofs.Ytccleelhheilnaa.Flo
attribute [local go_sem] max2_int min2_int max_two min_two max_three min_three max_four min_four lit_f0 lit_f1 lit_fm1 lit_c01 lit_c2m lit_c1m lit_c31 lit_c3m lit_c11 flo_add flo_sub cx_add cx_sub ord_eq ord_ne ord_negn flo_neg sto_c sto_f   -- for this text's walks alone
set_option linter.unusedVariables false
set_option linter.unusedSimpArgs false

/-! ### colophonlaw15_SpotColumns: function 8 -/
mutual
def colophonlaw15_SpotColumns.l0 : Nat → List Int → List Cx → Int → List Cx → Int → Int → Option (Bool)
  | 0, _, _, _, _, _, _ => none
  | k + 1, x0, x5, x7, x30, x31, x32 => if x32 < x31 then (if 0 ≤ x32 then (if x32 < (x30.length : Int) then (if x32 = (x0.length : Int) then (colophonlaw15_SpotColumns.j1 k x0 x5 x7 (rdOf zc x30 x32) true x30 x31 x32) else (if x32 < (x0.length : Int) then (colophonlaw15_SpotColumns.j1 k x0 x5 x7 (rdOf zc x30 x32) (decide ((rd x0 x32) ≥ 0)) x30 x31 x32) else (none))) else (none)) else (none)) else ((spot_Offset.f x5 (⟨0, 1⟩ : Cx)).bind fun bt303 => (colophonlaw15_SpotColumns.l1 k x5 x7 bt303.1 bt303.2 1))
def colophonlaw15_SpotColumns.j1 : Nat → List Int → List Cx → Int → Cx → Bool → List Cx → Int → Int → Option (Bool)
  | 0, _, _, _, _, _, _, _, _ => none
  | k + 1, x0, x5, x7, x9, x10, x30, x31, x32 => if smA x9.im 1 = true then (if x9.im = 1 then (if (x10 != true) = true then (colophonlaw15_SpotColumns.j2 k x0 x5 x7 x10 x30 x31 x32 true) else (if x10 = true then (colophonlaw15_SpotColumns.j2 k x0 x5 x7 x10 x30 x31 x32 false) else (if smA x9.im 0 = true then (colophonlaw15_SpotColumns.j2 k x0 x5 x7 x10 x30 x31 x32 (x9.im != 0)) else (none)))) else (if smA x9.im (-1) = true then (if (x10 != (x9.im == (-1))) = true then (colophonlaw15_SpotColumns.j2 k x0 x5 x7 x10 x30 x31 x32 true) else (if x10 = true then (colophonlaw15_SpotColumns.j2 k x0 x5 x7 x10 x30 x31 x32 false) else (if smA x9.im 0 = true then (colophonlaw15_SpotColumns.j2 k x0 x5 x7 x10 x30 x31 x32 (x9.im != 0)) else (none)))) else (none))) else (none)
def colophonlaw15_SpotColumns.j2 : Nat → List Int → List Cx → Int → Bool → List Cx → Int → Int → Bool → Option (Bool)
  | 0, _, _, _, _, _, _, _, _ => none
  | k + 1, x0, x5, x7, x10, x30, x31, x32, x66 => if x66 = true then (some false) else (if x10 = true then (colophonlaw15_SpotColumns.l0 k x0 x5 (wrap64 (x7 + 1)) x30 x31 (wrap64 (x32 + 1))) else (colophonlaw15_SpotColumns.l0 k x0 x5 x7 x30 x31 (wrap64 (x32 + 1))))
def colophonlaw15_SpotColumns.l1 : Nat → List Cx → Int → Int → Int → Int → Option (Bool)
  | 0, _, _, _, _, _ => none
  | k + 1, x5, x7, x11, x12, x13 => if x13 < x7 then (if x12 = 0 then ((spot_Step.f x5 x11 1).bind fun bt305 => (colophonlaw15_SpotColumns.l1 k x5 x7 bt305.1 bt305.2 (wrap64 (x13 + 1)))) else (some false)) else (if x12 = 0 then (if 0 ≤ x11 then (if x11 < (x5.length : Int) then (if smA ((rdOf zc x5 x11).re) (wrap64 (x7 - 1)) = true then (if ((rdOf zc x5 x11).re) = (wrap64 (x7 - 1)) then ((spot_Step.f x5 x11 1).bind fun bt308 => (some (bt308.2 == 150))) else (some false)) else (none)) else (none)) else (none)) else (some false))
end
def colophonlaw15_SpotColumns.f (k : Nat) (l0 : List Int) (a1 : Int) : Option (Bool) := (colophonlaw15_works.f k).bind fun t296 => (if t296 = true then (if (l0.length : Int) > 500 then (some true) else ((spot_Spots.f k l0 a1).bind fun bt297 => (if bt297.2 = 0 then (colophonlaw15_SpotColumns.l0 k l0 bt297.1 0 bt297.1 (bt297.1.length : Int) 0) else (some ((bt297.1.length : Int) == 0))))) else (some false))
theorem colophonlaw15_SpotColumns.mono_l : ∀ k, (∀ y0 y1 y2 y3 y4 y5, LeO (colophonlaw15_SpotColumns.l0 k y0 y1 y2 y3 y4 y5) (colophonlaw15_SpotColumns.l0 (k + 1) y0 y1 y2 y3 y4 y5)) ∧ (∀ y0 y1 y2 y3 y4 y5 y6 y7, LeO (colophonlaw15_SpotColumns.j1 k y0 y1 y2 y3 y4 y5 y6 y7) (colophonlaw15_SpotColumns.j1 (k + 1) y0 y1 y2 y3 y4 y5 y6 y7)) ∧ (∀ y0 y1 y2 y3 y4 y5 y6 y7, LeO (colophonlaw15_SpotColumns.j2 k y0 y1 y2 y3 y4 y5 y6 y7) (colophonlaw15_SpotColumns.j2 (k + 1) y0 y1 y2 y3 y4 y5 y6 y7)) ∧ (∀ y0 y1 y2 y3 y4, LeO (colophonlaw15_SpotColumns.l1 k y0 y1 y2 y3 y4) (colophonlaw15_SpotColumns.l1 (k + 1) y0 y1 y2 y3 y4))
  | 0 => ⟨fun _ _ _ _ _ _ r h => by simp [colophonlaw15_SpotColumns.l0] at h, fun _ _ _ _ _ _ _ _ r h => by simp [colophonlaw15_SpotColumns.j1] at h, fun _ _ _ _ _ _ _ _ r h => by simp [colophonlaw15_SpotColumns.j2] at h, fun _ _ _ _ _ r h => by simp [colophonlaw15_SpotColumns.l1] at h⟩
  | k + 1 => by
    obtain ⟨ih0, ih1, ih2, ih3⟩ := colophonlaw15_SpotColumns.mono_l k
    refine ⟨?_, ?_, ?_, ?_⟩
    · intro y0 y1 y2 y3 y4 y5
      unfold colophonlaw15_SpotColumns.l0
      repeat' first
      | (with_reducible exact ih0 _ _ _ _ _ _)
      | (with_reducible exact ih1 _ _ _ _ _ _ _ _)
      | (with_reducible exact ih2 _ _ _ _ _ _ _ _)
      | (with_reducible exact ih3 _ _ _ _ _)
      | (with_reducible exact colophonlaw15_works.mono _)
      | (with_reducible exact spot_Spots.mono _ _ _)
      | (with_reducible exact LeO.refl _)
      | (with_reducible exact LeO.none _)
      | (with_reducible refine LeO.ite ?_ ?_)
      | (with_reducible refine LeO.bind ?_ (fun _ => ?_))
      | exact ih0 _ _ _ _ _ _
      | exact ih1 _ _ _ _ _ _ _ _
      | exact ih2 _ _ _ _ _ _ _ _
      | exact ih3 _ _ _ _ _
      | exact colophonlaw15_works.mono _
      | exact spot_Spots.mono _ _ _
      | exact LeO.none _
      | refine LeO.ite ?_ ?_
      | refine LeO.bind ?_ (fun _ => ?_)
    · intro y0 y1 y2 y3 y4 y5 y6 y7
      unfold colophonlaw15_SpotColumns.j1
      repeat' first
      | (with_reducible exact ih0 _ _ _ _ _ _)
      | (with_reducible exact ih1 _ _ _ _ _ _ _ _)
      | (with_reducible exact ih2 _ _ _ _ _ _ _ _)
      | (with_reducible exact ih3 _ _ _ _ _)
      | (with_reducible exact colophonlaw15_works.mono _)
      | (with_reducible exact spot_Spots.mono _ _ _)
      | (with_reducible exact LeO.refl _)
      | (with_reducible exact LeO.none _)
      | (with_reducible refine LeO.ite ?_ ?_)
      | (with_reducible refine LeO.bind ?_ (fun _ => ?_))
      | exact ih0 _ _ _ _ _ _
      | exact ih1 _ _ _ _ _ _ _ _
      | exact ih2 _ _ _ _ _ _ _ _
      | exact ih3 _ _ _ _ _
      | exact colophonlaw15_works.mono _
      | exact spot_Spots.mono _ _ _
      | exact LeO.none _
      | refine LeO.ite ?_ ?_
      | refine LeO.bind ?_ (fun _ => ?_)
    · intro y0 y1 y2 y3 y4 y5 y6 y7
      unfold colophonlaw15_SpotColumns.j2
      repeat' first
      | (with_reducible exact ih0 _ _ _ _ _ _)
      | (with_reducible exact ih1 _ _ _ _ _ _ _ _)
      | (with_reducible exact ih2 _ _ _ _ _ _ _ _)
      | (with_reducible exact ih3 _ _ _ _ _)
      | (with_reducible exact colophonlaw15_works.mono _)
      | (with_reducible exact spot_Spots.mono _ _ _)
      | (with_reducible exact LeO.refl _)
      | (with_reducible exact LeO.none _)
      | (with_reducible refine LeO.ite ?_ ?_)
      | (with_reducible refine LeO.bind ?_ (fun _ => ?_))
      | exact ih0 _ _ _ _ _ _
      | exact ih1 _ _ _ _ _ _ _ _
      | exact ih2 _ _ _ _ _ _ _ _
      | exact ih3 _ _ _ _ _
      | exact colophonlaw15_works.mono _
      | exact spot_Spots.mono _ _ _
      | exact LeO.none _
      | refine LeO.ite ?_ ?_
      | refine LeO.bind ?_ (fun _ => ?_)
    · intro y0 y1 y2 y3 y4
      unfold colophonlaw15_SpotColumns.l1
      repeat' first
      | (with_reducible exact ih0 _ _ _ _ _ _)
      | (with_reducible exact ih1 _ _ _ _ _ _ _ _)
      | (with_reducible exact ih2 _ _ _ _ _ _ _ _)
      | (with_reducible exact ih3 _ _ _ _ _)
      | (with_reducible exact colophonlaw15_works.mono _)
      | (with_reducible exact spot_Spots.mono _ _ _)
      | (with_reducible exact LeO.refl _)
      | (with_reducible exact LeO.none _)
      | (with_reducible refine LeO.ite ?_ ?_)
      | (with_reducible refine LeO.bind ?_ (fun _ => ?_))
      | exact ih0 _ _ _ _ _ _
      | exact ih1 _ _ _ _ _ _ _ _
      | exact ih2 _ _ _ _ _ _ _ _
      | exact ih3 _ _ _ _ _
      | exact colophonlaw15_works.mono _
      | exact spot_Spots.mono _ _ _
      | exact LeO.none _
      | refine LeO.ite ?_ ?_
      | refine LeO.bind ?_ (fun _ => ?_)
theorem colophonlaw15_SpotColumns.mono : ∀ a0 a1 k, LeO (colophonlaw15_SpotColumns.f k a0 a1) (colophonlaw15_SpotColumns.f (k + 1) a0 a1) := by
  intro a0 a1 k
  obtain ⟨ih0, ih1, ih2, ih3⟩ := colophonlaw15_SpotColumns.mono_l k
  unfold colophonlaw15_SpotColumns.f
  repeat' first
      | (with_reducible exact ih0 _ _ _ _ _ _)
      | (with_reducible exact ih1 _ _ _ _ _ _ _ _)
      | (with_reducible exact ih2 _ _ _ _ _ _ _ _)
      | (with_reducible exact ih3 _ _ _ _ _)
      | (with_reducible exact colophonlaw15_works.mono _)
      | (with_reducible exact spot_Spots.mono _ _ _)
      | (with_reducible exact LeO.refl _)
      | (with_reducible exact LeO.none _)
      | (with_reducible refine LeO.ite ?_ ?_)
      | (with_reducible refine LeO.bind ?_ (fun _ => ?_))
      | exact ih0 _ _ _ _ _ _
      | exact ih1 _ _ _ _ _ _ _ _
      | exact ih2 _ _ _ _ _ _ _ _
      | exact ih3 _ _ _ _ _
      | exact colophonlaw15_works.mono _
      | exact spot_Spots.mono _ _ _
      | exact LeO.none _
      | refine LeO.ite ?_ ?_
      | refine LeO.bind ?_ (fun _ => ?_)
set_option maxHeartbeats 8000000 in
set_option maxRecDepth 100000 in
theorem colophonlaw15_SpotColumns.calls (k : Nat) (A0 : Option Addr) (c0 : Nat) (l0 : List Int) (a1 : Int) (r : Bool) (w : World) (hr0 : Kd.C (Kd.int .i64) w A0 l0.length l0) (hc0 : l0.length ≤ c0) (h : colophonlaw15_SpotColumns.f k l0 a1 = some r) :
    Calls Try.prog 8 #[.slice A0 l0.length c0, .int .i64 a1] w fun e w' => e = .returned (.bool r) ∧ Below w.heap.size w w' := by
  have HR0 := Aside0.mk hr0
  have HC0 := Aside0.mk hc0
  clear hr0 hc0
  have HB := Aside0.mk (Below.refl w.heap.size w)
  have H : ((colophonlaw15_works.f k).bind fun t296 => (if t296 = true then (if (l0.length : Int) > 500 then (some true) else ((spot_Spots.f k l0 a1).bind fun bt297 => (if bt297.2 = 0 then (colophonlaw15_SpotColumns.l0 k l0 bt297.1 0 bt297.1 (bt297.1.length : Int) 0) else (some ((bt297.1.length : Int) == 0))))) else (some false))) = some r := h
  clear h
  replace H := Option.bind_eq_some_iff.mp H
  obtain ⟨t296, A30, H⟩ := H
  replace H : (if t296 = true then (if (l0.length : Int) > 500 then (some true) else ((spot_Spots.f k l0 a1).bind fun bt297 => (if bt297.2 = 0 then (colophonlaw15_SpotColumns.l0 k l0 bt297.1 0 bt297.1 (bt297.1.length : Int) 0) else (some ((bt297.1.length : Int) == 0))))) else (some false)) = some r := H
  have A3 := Aside0.mk A30
  clear A30
  by_cases c4 : t296 = true
  · subst c4
    have H1 : (if (l0.length : Int) > 500 then (some true) else ((spot_Spots.f k l0 a1).bind fun bt297 => (if bt297.2 = 0 then (colophonlaw15_SpotColumns.l0 k l0 bt297.1 0 bt297.1 (bt297.1.length : Int) 0) else (some ((bt297.1.length : Int) == 0))))) = some r := by rw [if_pos rfl] at H; exact H
    clear H
    have H := H1
    clear H1
    by_cases c5 : (l0.length : Int) > 500
    · rw [if_pos c5] at H
      have c5b0 : decide (500 < (l0.length : Int)) = true := decide_eq_true c5
      have c5b1 : decide (500 < l0.length) = true := decide_eq_true (by omega)
      clear c5
      obtain rfl := Option.some.inj H
      go_enter Try.func8, Try.ntmps8
      (try rw [lit_f0]); (try rw [lit_f1]); (try rw [lit_fm1]); (try rw [lit_c01]); (try rw [lit_c2m]); (try rw [lit_c1m]); (try rw [lit_c31]); (try rw [lit_c3m]); (try rw [lit_c11])
      go_wp2_with (first | ((with_reducible refine gate_callee (f := 28) rfl ?_); refine goesL_ (some 14) rfl rfl Try.func28 (by kernel_rfl) rfl #[] rfl (by (try simp only [List.map_toArray, List.map_cons, List.map_nil]); first | done | rfl | (simp only [List.length_drop, List.length_take]; rfl)) ?_; (with_reducible refine (colophonlaw15_works.calls k  true _ A3.out).mono ?_); rintro e w6 ⟨rfl, hb⟩; refine ⟨_, rfl, ?_⟩; have n0_ := Aside0.mk (below_step (by repeat (first | (with_reducible first | exact HB.out | apply below_alloc | apply pw_below_drewN | apply below_drew1) | exact HB.out)) hb); clear HB; have HB := n0_; clear n0_; (try clear hb); (try clear hb2); (try clear hk); (try clear hi)))
      go_ret
      exact ⟨by first | rfl | (simp [errW_none, errW_some] <;> rfl) | (simp [*, errW_none, errW_some] <;> rfl), by repeat (first | (with_reducible first | exact HB.out | apply below_alloc | apply pw_below_drewN | apply below_drew1) | exact HB.out)⟩
    · rw [if_neg c5] at H
      have c5b0 : decide (500 < (l0.length : Int)) = false := decide_eq_false c5
      have c5b1 : decide (500 < l0.length) = false := decide_eq_false (by omega)
      clear c5
      replace H := Option.bind_eq_some_iff.mp H
      obtain ⟨⟨t297, t298⟩, A70, H⟩ := H
      replace H : (if t298 = 0 then (colophonlaw15_SpotColumns.l0 k l0 t297 0 t297 (t297.length : Int) 0) else (some ((t297.length : Int) == 0))) = some r := H
      have A7 := Aside0.mk A70
      clear A70
      by_cases c8 : t298 = 0
      · rw [if_pos c8] at H
        have c8b0 : (t298 == 0) = true := beq_iff_eq.mpr c8
        have c8b1 : (t298 != 0) = false := bne_eq_false_iff_eq.mpr c8
        clear c8
        have H' := Aside0.mk H
        clear H
        go_enter Try.func8, Try.ntmps8
        (try rw [lit_f0]); (try rw [lit_f1]); (try rw [lit_fm1]); (try rw [lit_c01]); (try rw [lit_c2m]); (try rw [lit_c1m]); (try rw [lit_c31]); (try rw [lit_c3m]); (try rw [lit_c11])
        go_wp2_with (first | ((with_reducible refine gate_callee (f := 28) rfl ?_); refine goesL_ (some 14) rfl rfl Try.func28 (by kernel_rfl) rfl #[] rfl (by (try simp only [List.map_toArray, List.map_cons, List.map_nil]); first | done | rfl | (simp only [List.length_drop, List.length_take]; rfl)) ?_; (with_reducible refine (colophonlaw15_works.calls k  true _ A3.out).mono ?_); rintro e w9 ⟨rfl, hb⟩; refine ⟨_, rfl, ?_⟩; have n0_ := Aside0.mk (below_step (by repeat (first | (with_reducible first | exact HB.out | apply below_alloc | apply pw_below_drewN | apply below_drew1) | exact HB.out)) hb); clear HB; have HB := n0_; clear n0_; (try clear hb); (try clear hb2); (try clear hk); (try clear hi)) | ((with_reducible refine gate_callee (f := 29) rfl ?_); refine goesL_ (some 22) rfl rfl Try.func29 (by kernel_rfl) rfl #[.slice A0 l0.length c0, .int .i64 a1] rfl (by (try simp only [List.map_toArray, List.map_cons, List.map_nil]); first | done | rfl | (simp only [List.length_drop, List.length_take]; rfl)) ?_; (with_reducible refine (spot_Spots.calls k _ _ l0 a1 t297 t298 _ ?side1 ?side2 A7.out).mono ?_); (case side1 => repeat (first | exact (Kd.C_below HR0.out HB.out) | (with_reducible refine Kd.C_alloc ?_ _) | (with_reducible refine Kd.C_drewN ?_ _) | (with_reducible refine Kd.C_drew ?_))); (case side2 => exact HC0.out); rintro e w10 ⟨v299, rfl, ho0, hb⟩; refine ⟨_, rfl, ?_⟩; have n0_ := Aside0.mk (Kd.R_lower ho0 (below_size (by repeat (first | (with_reducible first | exact HB.out | apply below_alloc | apply pw_below_drewN | apply below_drew1) | exact HB.out)))); have n1_ := Aside0.mk (below_step (by repeat (first | (with_reducible first | exact HB.out | apply below_alloc | apply pw_below_drewN | apply below_drew1) | exact HB.out)) hb); clear HB; have HO300 := n0_; have HB := n1_; clear n0_ n1_; (try clear hb); (try clear hb2); (try clear hk); (try clear hi); (try clear ho0); obtain ⟨Ao11, co11, eo11⟩ := Kd.R_slice HO300.out; subst eo11))
        go_loopg [7, 32] k (fun kq v7 v32 w' => ∃ (x7_1 : Int) (x32_1 : Int), v7 = .int .i64 x7_1 ∧ v32 = .int .i64 x32_1 ∧ Aside0 (colophonlaw15_SpotColumns.l0 kq l0 t297 x7_1 t297 (t297.length : Int) x32_1 = some r) ∧ Aside0 (kq ≤ k) ∧ Aside0 (Kd.R Kd.c128 38 w' w.heap.size (fun _ => True) (.slice Ao11 t297.length co11) t297) ∧ Aside0 (Kd.R Kd.c128 38 w' w.heap.size (fun _ => True) (.slice Ao11 t297.length co11) t297) ∧ Aside0 (Below w.heap.size w w'))
        case atStart => exact ⟨(0), (0), (by first | rfl | (simp; done) | (simp [*]; done)), (by first | rfl | (simp; done) | (simp [*]; done)), H', ⟨Nat.le_refl _⟩, ⟨by (with_reducible repeat (first | apply Kd.R_alloc | apply Kd.R_drewN | apply Kd.R_drew)); exact HO300.out⟩, ⟨by (with_reducible repeat (first | apply Kd.R_alloc | apply Kd.R_drewN | apply Kd.R_drew)); exact HO300.out⟩, ⟨by repeat (first | (with_reducible first | exact HB.out | apply below_alloc | apply pw_below_drewN | apply below_drew1) | exact HB.out)⟩⟩
        case round =>
          clear H'
          try clear c1
          try clear c2
          try clear p2
          try clear c4
          try clear c5
          try clear c5b0
          try clear c5b1
          try clear c8
          try clear c8b0
          try clear c8b1
          obtain ⟨x7_1, x32_1, rfl, rfl, HA, HK1, HO_5, HO_30, HB⟩ := hrel
          cases gk with
          | zero => exact absurd HA.out (by simp [colophonlaw15_SpotColumns.l0])
          | succ k1 =>
            have H := HA.out
            clear HA
            simp only [colophonlaw15_SpotColumns.l0] at H
            by_cases c12 : x32_1 < (t297.length : Int)
            · rw [if_pos c12] at H
              have c12b0 : decide (x32_1 < (t297.length : Int)) = true := decide_eq_true c12
              clear c12
              by_cases c13 : 0 ≤ x32_1
              · rw [if_pos c13] at H
                have c13b0 : decide (0 ≤ x32_1) = true := decide_eq_true c13
                clear c13
                by_cases c14 : x32_1 < (t297.length : Int)
                · rw [if_pos c14] at H
                  have c14b0 : decide (x32_1 < (t297.length : Int)) = true := decide_eq_true c14
                  clear c14
                  have HC15 := Aside0.mk H
                  clear H
                  have p301 : 0 ≤ (x32_1 : Int) := of_decide_eq_true (by first | (with_reducible assumption) | assumption)
                  have q301 : x32_1 < (t297.length : Int) := of_decide_eq_true (by first | (with_reducible assumption) | assumption)
                  obtain ⟨ad301, e301, hx301_0⟩ := Kd.at_c128 (Kd.R_reads' HO_30.out).2.2 x32_1 p301 q301
                  cases e301
                  replace p301 := eq_true p301
                  replace q301 := eq_true q301
                  go_upto_region 12 with (fail)
                  go_cut [10] (fun v10 wc => ∃ (kq : Nat) (x10_14 : Bool), v10 = .bool x10_14 ∧ Aside0 (colophonlaw15_SpotColumns.j1 kq l0 t297 x7_1 (rdOf zc t297 x32_1) x10_14 t297 (t297.length : Int) x32_1 = some r) ∧ Aside0 (kq ≤ k1) ∧ Aside0 (Kd.R Kd.c128 38 wc w.heap.size (fun _ => True) (.slice (some ad301) t297.length co11) t297) ∧ Aside0 (Kd.R Kd.c128 38 wc w.heap.size (fun _ => True) (.slice (some ad301) t297.length co11) t297) ∧ Aside0 (Below w.heap.size w wc))
                  case first =>
                    have H := HC15.out
                    clear HC15
                    by_cases c16 : x32_1 = (l0.length : Int)
                    · rw [if_pos c16] at H
                      have c16b0 : (x32_1 == (l0.length : Int)) = true := beq_iff_eq.mpr c16
                      have c16b1 : (x32_1 != (l0.length : Int)) = false := bne_eq_false_iff_eq.mpr c16
                      clear c16
                      (first | rw [c16b0] | (simp only [i64_w, i32_w]; rw [c16b0]) | skip)
                      have H' := Aside0.mk H
                      clear H
                      go_wp2
                      go_meet
                      case rel => exact ⟨_, (true), (by first | rfl | (simp; done) | (simp [*]; done)), H', ⟨by have := HK1.out; first | omega | exact Nat.le_refl _⟩, ⟨by (with_reducible repeat (first | apply Kd.R_alloc | apply Kd.R_drewN | apply Kd.R_drew)); exact HO_5.out⟩, ⟨by (with_reducible repeat (first | apply Kd.R_alloc | apply Kd.R_drewN | apply Kd.R_drew)); exact HO_30.out⟩, ⟨by repeat (first | (with_reducible first | exact HB.out | apply below_alloc | apply pw_below_drewN | apply below_drew1) | exact HB.out)⟩⟩
                    · rw [if_neg c16] at H
                      have c16b0 : (x32_1 == (l0.length : Int)) = false := beq_eq_false_iff_ne.mpr c16
                      have c16b1 : (x32_1 != (l0.length : Int)) = true := bne_iff_ne.mpr c16
                      (first | rw [c16b0] | (simp only [i64_w, i32_w]; rw [c16b0]) | skip)
                      by_cases c17 : x32_1 < (l0.length : Int)
                      · rw [if_pos c17] at H
                        have c17b0 : decide (x32_1 < (l0.length : Int)) = true := decide_eq_true c17
                        clear c17
                        have H' := Aside0.mk H
                        clear H
                        have p302 : 0 ≤ (x32_1 : Int) := of_decide_eq_true (by first | (with_reducible assumption) | assumption)
                        have q302 : x32_1 < (l0.length : Int) := of_decide_eq_true (by first | (with_reducible assumption) | assumption)
                        obtain ⟨ad302, e302, hx302_0⟩ := Kd.at_int HR0.out x32_1 p302 q302
                        cases e302
                        replace hx302_0 := (HB.out.cell (World.block_lt_of_cell? w _ hx302_0)).trans hx302_0
                        replace p302 := eq_true p302
                        replace q302 := eq_true q302
                        go_wp2
                        go_meet
                        case rel => exact ⟨_, (decide ((rd l0 x32_1) ≥ 0)), (by first | rfl | (simp; done) | (simp [*]; done)), H', ⟨by have := HK1.out; first | omega | exact Nat.le_refl _⟩, ⟨by (with_reducible repeat (first | apply Kd.R_alloc | apply Kd.R_drewN | apply Kd.R_drew)); exact HO_5.out⟩, ⟨by (with_reducible repeat (first | apply Kd.R_alloc | apply Kd.R_drewN | apply Kd.R_drew)); exact HO_30.out⟩, ⟨by repeat (first | (with_reducible first | exact HB.out | apply below_alloc | apply pw_below_drewN | apply below_drew1) | exact HB.out)⟩⟩
                      · rw [if_neg c17] at H
                        exact absurd H (by simp)
                  case rest =>
                    clear HC15
                    try clear c1
                    try clear c2
                    try clear p2
                    try clear p3
                    try clear q3
                    try clear hx3
                    try clear c4
                    try clear c5
                    try clear c5b0
                    try clear c5b1
                    try clear c8
                    try clear c8b0
                    try clear c8b1
                    try clear c12
                    try clear c12b0
                    try clear c13
                    try clear c13b0
                    try clear c14
                    try clear c14b0
                    try clear c16
                    try clear c16b0
                    try clear c16b1
                    try clear c17
                    try clear c17b0
                    try clear hx301_0
                    try clear hx302_0
                    try clear p2
                    try clear p301
                    try clear p302
                    try clear q301
                    try clear q302
                    obtain ⟨kq, x10_14, rfl, HA, HJ14, HO_5, HO_30, HB⟩ := hcut
                    cases kq with
                    | zero => exact absurd HA.out (by simp [colophonlaw15_SpotColumns.j1])
                    | succ kj14 =>
                      have H := HA.out
                      clear HA
                      simp only [colophonlaw15_SpotColumns.j1] at H
                      have HC18 := Aside0.mk H
                      clear H
                      go_upto_region 13 with (fail)
                      go_cut [66] (fun v66 wc => ∃ (kq : Nat) (x66_17 : Bool), v66 = .bool x66_17 ∧ Aside0 (colophonlaw15_SpotColumns.j2 kq l0 t297 x7_1 x10_14 t297 (t297.length : Int) x32_1 x66_17 = some r) ∧ Aside0 (kq ≤ kj14) ∧ Aside0 (Kd.R Kd.c128 38 wc w.heap.size (fun _ => True) (.slice (some ad301) t297.length co11) t297) ∧ Aside0 (Kd.R Kd.c128 38 wc w.heap.size (fun _ => True) (.slice (some ad301) t297.length co11) t297) ∧ Aside0 (Below w.heap.size w wc))
                      case first =>
                        have H := HC18.out
                        clear HC18
                        by_cases c19 : smA (rdOf zc t297 x32_1).im 1 = true
                        · rw [if_pos c19] at H
                          have c19b0 := eq_true c19
                          have c19b1 : decide (smA (rdOf zc t297 x32_1).im 1 = true) = true := decide_eq_true c19
                          clear c19
                          by_cases c20 : (rdOf zc t297 x32_1).im = 1
                          · rw [if_pos c20] at H
                            have c20b0 : ((rdOf zc t297 x32_1).im == 1) = true := beq_iff_eq.mpr c20
                            have c20b1 : ((rdOf zc t297 x32_1).im != 1) = false := bne_eq_false_iff_eq.mpr c20
                            clear c20
                            (first | rw [c20b0] | (simp only [i64_w, i32_w]; rw [c20b0]) | skip)
                            by_cases c21 : (x10_14 != true) = true
                            · rw [if_pos c21] at H
                              have c21b0 : (x10_14 != true) = true := c21
                              (try (have c21b1 : decide (x10_14 = true) = false := by simpa using c21))
                              (try (have c21b2 : (x10_14 == true) = false := by simpa using c21))
                              (try (have c21b3 : ¬ (x10_14 = true) := by simpa using c21))
                              clear c21
                              obtain rfl : x10_14 = false := by cases x10_14 <;> first | rfl | (simp at c21b0)
                              have H' := Aside0.mk H
                              clear H
                              go_wp2
                              go_meet
                              case rel => exact ⟨_, (true), (by first | rfl | (simp; done) | (simp [*]; done)), H', ⟨by have := HK1.out; have := HJ14.out; first | omega | exact Nat.le_refl _⟩, ⟨by (with_reducible repeat (first | apply Kd.R_alloc | apply Kd.R_drewN | apply Kd.R_drew)); exact HO_5.out⟩, ⟨by (with_reducible repeat (first | apply Kd.R_alloc | apply Kd.R_drewN | apply Kd.R_drew)); exact HO_30.out⟩, ⟨by repeat (first | (with_reducible first | exact HB.out | apply below_alloc | apply pw_below_drewN | apply below_drew1) | exact HB.out)⟩⟩
                            · rw [if_neg c21] at H
                              have c21b0 : (x10_14 != true) = false := by simpa using c21
                              (try (have c21b1 : decide (x10_14 = true) = true := by simpa using c21))
                              (try (have c21b2 : (x10_14 == true) = true := by simpa using c21))
                              clear c21
                              by_cases c22 : x10_14 = true
                              · subst c22
                                have H1 : (colophonlaw15_SpotColumns.j2 kj14 l0 t297 x7_1 true t297 (t297.length : Int) x32_1 false) = some r := by rw [if_pos rfl] at H; exact H
                                clear H
                                have H := H1
                                clear H1
                                have H' := Aside0.mk H
                                clear H
                                go_wp2
                                go_meet
                                case rel => exact ⟨_, (false), (by first | rfl | (simp; done) | (simp [*]; done)), H', ⟨by have := HK1.out; have := HJ14.out; first | omega | exact Nat.le_refl _⟩, ⟨by (with_reducible repeat (first | apply Kd.R_alloc | apply Kd.R_drewN | apply Kd.R_drew)); exact HO_5.out⟩, ⟨by (with_reducible repeat (first | apply Kd.R_alloc | apply Kd.R_drewN | apply Kd.R_drew)); exact HO_30.out⟩, ⟨by repeat (first | (with_reducible first | exact HB.out | apply below_alloc | apply pw_below_drewN | apply below_drew1) | exact HB.out)⟩⟩
                              · replace c22 := Bool.eq_false_iff.mpr c22
                                subst c22
                                have H1 : (if smA (rdOf zc t297 x32_1).im 0 = true then (colophonlaw15_SpotColumns.j2 kj14 l0 t297 x7_1 false t297 (t297.length : Int) x32_1 ((rdOf zc t297 x32_1).im != 0)) else (none)) = some r := by rw [if_neg (show ¬ (false = true) by decide)] at H; exact H
                                clear H
                                have H := H1
                                clear H1
                                by_cases c23 : smA (rdOf zc t297 x32_1).im 0 = true
                                · rw [if_pos c23] at H
                                  have c23b0 := eq_true c23
                                  have c23b1 : decide (smA (rdOf zc t297 x32_1).im 0 = true) = true := decide_eq_true c23
                                  clear c23
                                  have H' := Aside0.mk H
                                  clear H
                                  go_wp2
                                  go_meet
                                  case rel => exact ⟨_, (((rdOf zc t297 x32_1).im != 0)), (by first | rfl | (simp; done) | (simp [*]; done)), H', ⟨by have := HK1.out; have := HJ14.out; first | omega | exact Nat.le_refl _⟩, ⟨by (with_reducible repeat (first | apply Kd.R_alloc | apply Kd.R_drewN | apply Kd.R_drew)); exact HO_5.out⟩, ⟨by (with_reducible repeat (first | apply Kd.R_alloc | apply Kd.R_drewN | apply Kd.R_drew)); exact HO_30.out⟩, ⟨by repeat (first | (with_reducible first | exact HB.out | apply below_alloc | apply pw_below_drewN | apply below_drew1) | exact HB.out)⟩⟩
                                · rw [if_neg c23] at H
                                  exact absurd H (by simp)
                          · rw [if_neg c20] at H
                            have c20b0 : ((rdOf zc t297 x32_1).im == 1) = false := beq_eq_false_iff_ne.mpr c20
                            have c20b1 : ((rdOf zc t297 x32_1).im != 1) = true := bne_iff_ne.mpr c20
                            (first | rw [c20b0] | (simp only [i64_w, i32_w]; rw [c20b0]) | skip)
                            by_cases c24 : smA (rdOf zc t297 x32_1).im (-1) = true
                            · rw [if_pos c24] at H
                              have c24b0 := eq_true c24
                              have c24b1 : decide (smA (rdOf zc t297 x32_1).im (-1) = true) = true := decide_eq_true c24
                              clear c24
                              by_cases c25 : (x10_14 != ((rdOf zc t297 x32_1).im == (-1))) = true
                              · rw [if_pos c25] at H
                                have c25b0 : (x10_14 != ((rdOf zc t297 x32_1).im == (-1))) = true := c25
                                (try (have c25b1 : decide (x10_14 = ((rdOf zc t297 x32_1).im == (-1))) = false := by simpa using c25))
                                (try (have c25b2 : (x10_14 == ((rdOf zc t297 x32_1).im == (-1))) = false := by simpa using c25))
                                (try (have c25b3 : ¬ (x10_14 = ((rdOf zc t297 x32_1).im == (-1))) := by simpa using c25))
                                clear c25
                                have H' := Aside0.mk H
                                clear H
                                go_wp2
                                go_meet
                                case rel => exact ⟨_, (true), (by first | rfl | (simp; done) | (simp [*]; done)), H', ⟨by have := HK1.out; have := HJ14.out; first | omega | exact Nat.le_refl _⟩, ⟨by (with_reducible repeat (first | apply Kd.R_alloc | apply Kd.R_drewN | apply Kd.R_drew)); exact HO_5.out⟩, ⟨by (with_reducible repeat (first | apply Kd.R_alloc | apply Kd.R_drewN | apply Kd.R_drew)); exact HO_30.out⟩, ⟨by repeat (first | (with_reducible first | exact HB.out | apply below_alloc | apply pw_below_drewN | apply below_drew1) | exact HB.out)⟩⟩
                              · rw [if_neg c25] at H
                                have c25b0 : (x10_14 != ((rdOf zc t297 x32_1).im == (-1))) = false := by simpa using c25
                                (try (have c25b1 : decide (x10_14 = ((rdOf zc t297 x32_1).im == (-1))) = true := by simpa using c25))
                                (try (have c25b2 : (x10_14 == ((rdOf zc t297 x32_1).im == (-1))) = true := by simpa using c25))
                                clear c25
                                by_cases c26 : x10_14 = true
                                · subst c26
                                  have H1 : (colophonlaw15_SpotColumns.j2 kj14 l0 t297 x7_1 true t297 (t297.length : Int) x32_1 false) = some r := by rw [if_pos rfl] at H; exact H
                                  clear H
                                  have H := H1
                                  clear H1
                                  have H' := Aside0.mk H
                                  clear H
                                  go_wp2
                                  go_meet
                                  case rel => exact ⟨_, (false), (by first | rfl | (simp; done) | (simp [*]; done)), H', ⟨by have := HK1.out; have := HJ14.out; first | omega | exact Nat.le_refl _⟩, ⟨by (with_reducible repeat (first | apply Kd.R_alloc | apply Kd.R_drewN | apply Kd.R_drew)); exact HO_5.out⟩, ⟨by (with_reducible repeat (first | apply Kd.R_alloc | apply Kd.R_drewN | apply Kd.R_drew)); exact HO_30.out⟩, ⟨by repeat (first | (with_reducible first | exact HB.out | apply below_alloc | apply pw_below_drewN | apply below_drew1) | exact HB.out)⟩⟩
                                · replace c26 := Bool.eq_false_iff.mpr c26
                                  subst c26
                                  have H1 : (if smA (rdOf zc t297 x32_1).im 0 = true then (colophonlaw15_SpotColumns.j2 kj14 l0 t297 x7_1 false t297 (t297.length : Int) x32_1 ((rdOf zc t297 x32_1).im != 0)) else (none)) = some r := by rw [if_neg (show ¬ (false = true) by decide)] at H; exact H
                                  clear H
                                  have H := H1
                                  clear H1
                                  by_cases c27 : smA (rdOf zc t297 x32_1).im 0 = true
                                  · rw [if_pos c27] at H
                                    have c27b0 := eq_true c27
                                    have c27b1 : decide (smA (rdOf zc t297 x32_1).im 0 = true) = true := decide_eq_true c27
                                    clear c27
                                    have H' := Aside0.mk H
                                    clear H
                                    go_wp2
                                    go_meet
                                    case rel => exact ⟨_, (((rdOf zc t297 x32_1).im != 0)), (by first | rfl | (simp; done) | (simp [*]; done)), H', ⟨by have := HK1.out; have := HJ14.out; first | omega | exact Nat.le_refl _⟩, ⟨by (with_reducible repeat (first | apply Kd.R_alloc | apply Kd.R_drewN | apply Kd.R_drew)); exact HO_5.out⟩, ⟨by (with_reducible repeat (first | apply Kd.R_alloc | apply Kd.R_drewN | apply Kd.R_drew)); exact HO_30.out⟩, ⟨by repeat (first | (with_reducible first | exact HB.out | apply below_alloc | apply pw_below_drewN | apply below_drew1) | exact HB.out)⟩⟩
                                  · rw [if_neg c27] at H
                                    exact absurd H (by simp)
                            · rw [if_neg c24] at H
                              exact absurd H (by simp)
                        · rw [if_neg c19] at H
                          exact absurd H (by simp)
                      case rest =>
                        clear HC18
                        try clear c1
                        try clear c2
                        try clear p2
                        try clear p3
                        try clear q3
                        try clear hx3
                        try clear c4
                        try clear c5
                        try clear c5b0
                        try clear c5b1
                        try clear c8
                        try clear c8b0
                        try clear c8b1
                        try clear c12
                        try clear c12b0
                        try clear c13
                        try clear c13b0
                        try clear c14
                        try clear c14b0
                        try clear c16
                        try clear c16b0
                        try clear c16b1
                        try clear c17
                        try clear c17b0
                        try clear c19
                        try clear c19b0
                        try clear c19b1
                        try clear c20
                        try clear c20b0
                        try clear c20b1
                        try clear c21
                        try clear c21b0
                        try clear c21b1
                        try clear c21b2
                        try clear c22
                        try clear c23
                        try clear c23b0
                        try clear c23b1
                        try clear c24
                        try clear c24b0
                        try clear c24b1
                        try clear c25
                        try clear c25b0
                        try clear c25b1
                        try clear c25b2
                        try clear c26
                        try clear c27
                        try clear c27b0
                        try clear c27b1
                        try clear hx301_0
                        try clear hx302_0
                        try clear p2
                        try clear p3
                        try clear p301
                        try clear p302
                        try clear q3
                        try clear q301
                        try clear q302
                        obtain ⟨kq, x66_17, rfl, HA, HJ17, HO_5, HO_30, HB⟩ := hcut
                        cases kq with
                        | zero => exact absurd HA.out (by simp [colophonlaw15_SpotColumns.j2])
                        | succ kj17 =>
                          have H := HA.out
                          clear HA
                          simp only [colophonlaw15_SpotColumns.j2] at H
                          by_cases c28 : x66_17 = true
                          · subst c28
                            have H1 : (some false) = some r := by rw [if_pos rfl] at H; exact H
                            clear H
                            have H := H1
                            clear H1
                            obtain rfl := Option.some.inj H
                            go_wp2
                            go_ret
                            exact ⟨by first | rfl | (simp [errW_none, errW_some] <;> rfl) | (simp [*, errW_none, errW_some] <;> rfl), by repeat (first | (with_reducible first | exact HB.out | apply below_alloc | apply pw_below_drewN | apply below_drew1) | exact HB.out)⟩
                          · replace c28 := Bool.eq_false_iff.mpr c28
                            subst c28
                            have H1 : (if x10_14 = true then (colophonlaw15_SpotColumns.l0 kj17 l0 t297 (wrap64 (x7_1 + 1)) t297 (t297.length : Int) (wrap64 (x32_1 + 1))) else (colophonlaw15_SpotColumns.l0 kj17 l0 t297 x7_1 t297 (t297.length : Int) (wrap64 (x32_1 + 1)))) = some r := by rw [if_neg (show ¬ (false = true) by decide)] at H; exact H
                            clear H
                            have H := H1
                            clear H1
                            by_cases c29 : x10_14 = true
                            · subst c29
                              have H1 : (colophonlaw15_SpotColumns.l0 kj17 l0 t297 (wrap64 (x7_1 + 1)) t297 (t297.length : Int) (wrap64 (x32_1 + 1))) = some r := by rw [if_pos rfl] at H; exact H
                              clear H
                              have H := H1
                              clear H1
                              have H' := Aside0.mk H
                              clear H
                              go_wp2
                              go_roundg kj17
                              case measure => have := HK1.out; have := HJ14.out; have := HJ17.out; omega
                              case rel => exact ⟨(wrap64 (x7_1 + 1)), (wrap64 (x32_1 + 1)), (by first | rfl | (simp; done) | (simp [*]; done)), (by first | rfl | (simp; done) | (simp [*]; done)), H', ⟨by have := HK1.out; have := HJ14.out; have := HJ17.out; omega⟩, ⟨by (with_reducible repeat (first | apply Kd.R_alloc | apply Kd.R_drewN | apply Kd.R_drew)); exact HO_5.out⟩, ⟨by (with_reducible repeat (first | apply Kd.R_alloc | apply Kd.R_drewN | apply Kd.R_drew)); exact HO_30.out⟩, ⟨by repeat (first | (with_reducible first | exact HB.out | apply below_alloc | apply pw_below_drewN | apply below_drew1) | exact HB.out)⟩⟩
                            · replace c29 := Bool.eq_false_iff.mpr c29
                              subst c29
                              have H1 : (colophonlaw15_SpotColumns.l0 kj17 l0 t297 x7_1 t297 (t297.length : Int) (wrap64 (x32_1 + 1))) = some r := by rw [if_neg (show ¬ (false = true) by decide)] at H; exact H
                              clear H
                              have H := H1
                              clear H1
                              have H' := Aside0.mk H
                              clear H
                              go_wp2
                              go_roundg kj17
                              case measure => have := HK1.out; have := HJ14.out; have := HJ17.out; omega
                              case rel => exact ⟨(x7_1), (wrap64 (x32_1 + 1)), (by first | rfl | (simp; done) | (simp [*]; done)), (by first | rfl | (simp; done) | (simp [*]; done)), H', ⟨by have := HK1.out; have := HJ14.out; have := HJ17.out; omega⟩, ⟨by (with_reducible repeat (first | apply Kd.R_alloc | apply Kd.R_drewN | apply Kd.R_drew)); exact HO_5.out⟩, ⟨by (with_reducible repeat (first | apply Kd.R_alloc | apply Kd.R_drewN | apply Kd.R_drew)); exact HO_30.out⟩, ⟨by repeat (first | (with_reducible first | exact HB.out | apply below_alloc | apply pw_below_drewN | apply below_drew1) | exact HB.out)⟩⟩
                · rw [if_neg c14] at H
                  exact absurd H (by simp)
              · rw [if_neg c13] at H
                exact absurd H (by simp)
            · rw [if_neg c12] at H
              have c12b0 : decide (x32_1 < (t297.length : Int)) = false := decide_eq_false c12
              clear c12
              replace H := Option.bind_eq_some_iff.mp H
              obtain ⟨⟨t303, t304⟩, A300, H⟩ := H
              replace H : (colophonlaw15_SpotColumns.l1 k1 t297 x7_1 t303 t304 1) = some r := H
              have A30 := Aside0.mk A300
              clear A300
              have H' := Aside0.mk H
              clear H
              go_wp2_with (first | ((with_reducible refine gate_callee (f := 36) rfl ?_); refine goesL_ (some 73) rfl rfl Try.func36 (by kernel_rfl) rfl #[.slice Ao11 t297.length co11, .complex .f64 (floatOfInt .f64 (⟨0, 1⟩ : Cx).re) (floatOfInt .f64 (⟨0, 1⟩ : Cx).im)] rfl (by (try simp only [List.map_toArray, List.map_cons, List.map_nil]); first | done | rfl | (simp only [List.length_drop, List.length_take]; rfl)) ?_; (with_reducible refine (spot_Offset.calls _ _ t297 (⟨0, 1⟩ : Cx) t303 t304 _ ?side1 ?side2 A30.out).mono ?_); (case side1 => repeat (first | exact (Kd.R_reads' HO_5.out).2.2 | (with_reducible refine Kd.C_alloc ?_ _) | (with_reducible refine Kd.C_drewN ?_ _) | (with_reducible refine Kd.C_drew ?_))); (case side2 => exact (Kd.R_reads' HO_5.out).2.1); rintro e w31 ⟨rfl, hb⟩; refine ⟨_, rfl, ?_⟩; have n0_ := Aside0.mk (Kd.R_below (by (with_reducible repeat (first | apply Kd.R_alloc | apply Kd.R_drewN | apply Kd.R_drew)); exact HO_5.out) hb); have n1_ := Aside0.mk (Kd.R_below (by (with_reducible repeat (first | apply Kd.R_alloc | apply Kd.R_drewN | apply Kd.R_drew)); exact HO_30.out) hb); have n2_ := Aside0.mk (below_step (by repeat (first | (with_reducible first | exact HB.out | apply below_alloc | apply pw_below_drewN | apply below_drew1) | exact HB.out)) hb); clear HO_5; clear HO_30; clear HB; have HO_5 := n0_; have HO_30 := n1_; have HB := n2_; clear n0_ n1_ n2_; (try clear hb); (try clear hb2); (try clear hk); (try clear hi)))
              go_loopg [11, 12, 13] k1 (fun kq v11 v12 v13 w' => ∃ (x11_2 : Int) (x12_2 : Int) (x13_2 : Int), v11 = .int .i64 x11_2 ∧ v12 = .int .i64 x12_2 ∧ v13 = .int .i64 x13_2 ∧ Aside0 (colophonlaw15_SpotColumns.l1 kq t297 x7_1 x11_2 x12_2 x13_2 = some r) ∧ Aside0 (kq ≤ k1) ∧ Aside0 (Kd.R Kd.c128 38 w' w.heap.size (fun _ => True) (.slice Ao11 t297.length co11) t297) ∧ Aside0 (Below w.heap.size w w'))
              case atStart => exact ⟨(t303), (t304), (1), (by first | rfl | (simp; done) | (simp [*]; done)), (by first | rfl | (simp; done) | (simp [*]; done)), (by first | rfl | (simp; done) | (simp [*]; done)), H', ⟨Nat.le_refl _⟩, ⟨by (with_reducible repeat (first | apply Kd.R_alloc | apply Kd.R_drewN | apply Kd.R_drew)); exact HO_5.out⟩, ⟨by repeat (first | (with_reducible first | exact HB.out | apply below_alloc | apply pw_below_drewN | apply below_drew1) | exact HB.out)⟩⟩
              case round =>
                clear H'
                try clear c1
                try clear c2
                try clear p2
                try clear c3
                try clear p3
                try clear q3
                try clear hx3
                try clear c4
                try clear c5
                try clear c5b0
                try clear c5b1
                try clear p6
                try clear c8
                try clear c8b0
                try clear c8b1
                try clear c12
                try clear c12b0
                try clear c13
                try clear c13b0
                try clear c14
                try clear c14b0
                try clear c16
                try clear c16b0
                try clear c16b1
                try clear c17
                try clear c17b0
                try clear c19
                try clear c19b0
                try clear c19b1
                try clear c20
                try clear c20b0
                try clear c20b1
                try clear c21
                try clear c21b0
                try clear c21b1
                try clear c21b2
                try clear c22
                try clear c23
                try clear c23b0
                try clear c23b1
                try clear c24
                try clear c24b0
                try clear c24b1
                try clear c25
                try clear c25b0
                try clear c25b1
                try clear c25b2
                try clear c26
                try clear c27
                try clear c27b0
                try clear c27b1
                try clear c28
                try clear c29
                try clear p30
                try clear q30
                try clear hx30
                try clear hx301_0
                try clear hx302_0
                try clear p2
                try clear p3
                try clear p301
                try clear p302
                try clear q3
                try clear q301
                try clear q302
                obtain ⟨x11_2, x12_2, x13_2, rfl, rfl, rfl, HA, HK2, HO_5, HB⟩ := hrel
                cases gk with
                | zero => exact absurd HA.out (by simp [colophonlaw15_SpotColumns.l1])
                | succ k2 =>
                  have H := HA.out
                  clear HA
                  simp only [colophonlaw15_SpotColumns.l1] at H
                  by_cases c32 : x13_2 < x7_1
                  · rw [if_pos c32] at H
                    have c32b0 : decide (x13_2 < x7_1) = true := decide_eq_true c32
                    clear c32
                    by_cases c33 : x12_2 = 0
                    · rw [if_pos c33] at H
                      have c33b0 : (x12_2 == 0) = true := beq_iff_eq.mpr c33
                      have c33b1 : (x12_2 != 0) = false := bne_eq_false_iff_eq.mpr c33
                      clear c33
                      replace H := Option.bind_eq_some_iff.mp H
                      obtain ⟨⟨t305, t306⟩, A340, H⟩ := H
                      replace H : (colophonlaw15_SpotColumns.l1 k2 t297 x7_1 t305 t306 (wrap64 (x13_2 + 1))) = some r := H
                      have A34 := Aside0.mk A340
                      clear A340
                      have H' := Aside0.mk H
                      clear H
                      go_wp2_with (first | ((with_reducible refine gate_callee (f := 33) rfl ?_); refine goesL_ (some 86) rfl rfl Try.func33 (by kernel_rfl) rfl #[.slice Ao11 t297.length co11, .int .i64 x11_2, .int .i64 1] rfl (by (try simp only [List.map_toArray, List.map_cons, List.map_nil]); first | done | rfl | (simp only [List.length_drop, List.length_take]; rfl)) ?_; (with_reducible refine (spot_Step.calls _ _ t297 x11_2 1 t305 t306 _ ?side1 ?side2 A34.out).mono ?_); (case side1 => repeat (first | exact (Kd.R_reads' HO_5.out).2.2 | (with_reducible refine Kd.C_alloc ?_ _) | (with_reducible refine Kd.C_drewN ?_ _) | (with_reducible refine Kd.C_drew ?_))); (case side2 => exact (Kd.R_reads' HO_5.out).2.1); rintro e w35 ⟨rfl, hb⟩; refine ⟨_, rfl, ?_⟩; have n0_ := Aside0.mk (Kd.R_below (by (with_reducible repeat (first | apply Kd.R_alloc | apply Kd.R_drewN | apply Kd.R_drew)); exact HO_5.out) hb); have n1_ := Aside0.mk (below_step (by repeat (first | (with_reducible first | exact HB.out | apply below_alloc | apply pw_below_drewN | apply below_drew1) | exact HB.out)) hb); clear HO_5; clear HB; have HO_5 := n0_; have HB := n1_; clear n0_ n1_; (try clear hb); (try clear hb2); (try clear hk); (try clear hi)))
                      go_roundg k2
                      case measure => have := HK1.out; have := HK2.out; omega
                      case rel => exact ⟨(t305), (t306), (wrap64 (x13_2 + 1)), (by first | rfl | (simp; done) | (simp [*]; done)), (by first | rfl | (simp; done) | (simp [*]; done)), (by first | rfl | (simp; done) | (simp [*]; done)), H', ⟨by have := HK1.out; have := HK2.out; omega⟩, ⟨by (with_reducible repeat (first | apply Kd.R_alloc | apply Kd.R_drewN | apply Kd.R_drew)); exact HO_5.out⟩, ⟨by repeat (first | (with_reducible first | exact HB.out | apply below_alloc | apply pw_below_drewN | apply below_drew1) | exact HB.out)⟩⟩
                    · rw [if_neg c33] at H
                      have c33b0 : (x12_2 == 0) = false := beq_eq_false_iff_ne.mpr c33
                      have c33b1 : (x12_2 != 0) = true := bne_iff_ne.mpr c33
                      obtain rfl := Option.some.inj H
                      go_wp2
                      go_ret
                      exact ⟨by first | rfl | (simp [errW_none, errW_some] <;> rfl) | (simp [*, errW_none, errW_some] <;> rfl), by repeat (first | (with_reducible first | exact HB.out | apply below_alloc | apply pw_below_drewN | apply below_drew1) | exact HB.out)⟩
                  · rw [if_neg c32] at H
                    have c32b0 : decide (x13_2 < x7_1) = false := decide_eq_false c32
                    clear c32
                    by_cases c36 : x12_2 = 0
                    · rw [if_pos c36] at H
                      have c36b0 : (x12_2 == 0) = true := beq_iff_eq.mpr c36
                      have c36b1 : (x12_2 != 0) = false := bne_eq_false_iff_eq.mpr c36
                      clear c36
                      by_cases c37 : 0 ≤ x11_2
                      · rw [if_pos c37] at H
                        have c37b0 : decide (0 ≤ x11_2) = true := decide_eq_true c37
                        clear c37
                        by_cases c38 : x11_2 < (t297.length : Int)
                        · rw [if_pos c38] at H
                          have c38b0 : decide (x11_2 < (t297.length : Int)) = true := decide_eq_true c38
                          clear c38
                          by_cases c39 : smA ((rdOf zc t297 x11_2).re) (wrap64 (x7_1 - 1)) = true
                          · rw [if_pos c39] at H
                            have c39b0 := eq_true c39
                            have c39b1 : decide (smA ((rdOf zc t297 x11_2).re) (wrap64 (x7_1 - 1)) = true) = true := decide_eq_true c39
                            clear c39
                            by_cases c40 : ((rdOf zc t297 x11_2).re) = (wrap64 (x7_1 - 1))
                            · rw [if_pos c40] at H
                              have c40b0 : (((rdOf zc t297 x11_2).re) == (wrap64 (x7_1 - 1))) = true := beq_iff_eq.mpr c40
                              have c40b1 : (((rdOf zc t297 x11_2).re) != (wrap64 (x7_1 - 1))) = false := bne_eq_false_iff_eq.mpr c40
                              clear c40
                              replace H := Option.bind_eq_some_iff.mp H
                              obtain ⟨⟨t308, t309⟩, A410, H⟩ := H
                              replace H : (some (t309 == 150)) = some r := H
                              have A41 := Aside0.mk A410
                              clear A410
                              obtain rfl := Option.some.inj H
                              have p307 : 0 ≤ (x11_2 : Int) := of_decide_eq_true (by first | (with_reducible assumption) | assumption)
                              have q307 : x11_2 < (t297.length : Int) := of_decide_eq_true (by first | (with_reducible assumption) | assumption)
                              obtain ⟨ad307, e307, hx307_0⟩ := Kd.at_c128 (Kd.R_reads' HO_5.out).2.2 x11_2 p307 q307
                              cases e307
                              replace p307 := eq_true p307
                              replace q307 := eq_true q307
                              go_wp2_with (first | ((with_reducible refine gate_callee (f := 33) rfl ?_); refine goesL_ (some 105) rfl rfl Try.func33 (by kernel_rfl) rfl #[.slice (some ad307) t297.length co11, .int .i64 x11_2, .int .i64 1] rfl (by (try simp only [List.map_toArray, List.map_cons, List.map_nil]); first | done | rfl | (simp only [List.length_drop, List.length_take]; rfl)) ?_; (with_reducible refine (spot_Step.calls _ _ t297 x11_2 1 t308 t309 _ ?side1 ?side2 A41.out).mono ?_); (case side1 => repeat (first | exact (Kd.R_reads' HO_5.out).2.2 | (with_reducible refine Kd.C_alloc ?_ _) | (with_reducible refine Kd.C_drewN ?_ _) | (with_reducible refine Kd.C_drew ?_))); (case side2 => exact (Kd.R_reads' HO_5.out).2.1); rintro e w42 ⟨rfl, hb⟩; refine ⟨_, rfl, ?_⟩; have n0_ := Aside0.mk (Kd.R_below (by (with_reducible repeat (first | apply Kd.R_alloc | apply Kd.R_drewN | apply Kd.R_drew)); exact HO_5.out) hb); have n1_ := Aside0.mk (below_step (by repeat (first | (with_reducible first | exact HB.out | apply below_alloc | apply pw_below_drewN | apply below_drew1) | exact HB.out)) hb); clear HO_5; clear HB; have HO_5 := n0_; have HB := n1_; clear n0_ n1_; (try clear hb); (try clear hb2); (try clear hk); (try clear hi)))
                              go_ret
                              exact ⟨by first | rfl | (simp [errW_none, errW_some] <;> rfl) | (simp [*, errW_none, errW_some] <;> rfl), by repeat (first | (with_reducible first | exact HB.out | apply below_alloc | apply pw_below_drewN | apply below_drew1) | exact HB.out)⟩
                            · rw [if_neg c40] at H
                              have c40b0 : (((rdOf zc t297 x11_2).re) == (wrap64 (x7_1 - 1))) = false := beq_eq_false_iff_ne.mpr c40
                              have c40b1 : (((rdOf zc t297 x11_2).re) != (wrap64 (x7_1 - 1))) = true := bne_iff_ne.mpr c40
                              obtain rfl := Option.some.inj H
                              have p307 : 0 ≤ (x11_2 : Int) := of_decide_eq_true (by first | (with_reducible assumption) | assumption)
                              have q307 : x11_2 < (t297.length : Int) := of_decide_eq_true (by first | (with_reducible assumption) | assumption)
                              obtain ⟨ad307, e307, hx307_0⟩ := Kd.at_c128 (Kd.R_reads' HO_5.out).2.2 x11_2 p307 q307
                              cases e307
                              replace p307 := eq_true p307
                              replace q307 := eq_true q307
                              go_wp2
                              go_ret
                              exact ⟨by first | rfl | (simp [errW_none, errW_some] <;> rfl) | (simp [*, errW_none, errW_some] <;> rfl), by repeat (first | (with_reducible first | exact HB.out | apply below_alloc | apply pw_below_drewN | apply below_drew1) | exact HB.out)⟩
                          · rw [if_neg c39] at H
                            exact absurd H (by simp)
                        · rw [if_neg c38] at H
                          exact absurd H (by simp)
                      · rw [if_neg c37] at H
                        exact absurd H (by simp)
                    · rw [if_neg c36] at H
                      have c36b0 : (x12_2 == 0) = false := beq_eq_false_iff_ne.mpr c36
                      have c36b1 : (x12_2 != 0) = true := bne_iff_ne.mpr c36
                      obtain rfl := Option.some.inj H
                      go_wp2
                      go_ret
                      exact ⟨by first | rfl | (simp [errW_none, errW_some] <;> rfl) | (simp [*, errW_none, errW_some] <;> rfl), by repeat (first | (with_reducible first | exact HB.out | apply below_alloc | apply pw_below_drewN | apply below_drew1) | exact HB.out)⟩
      · rw [if_neg c8] at H
        have c8b0 : (t298 == 0) = false := beq_eq_false_iff_ne.mpr c8
        have c8b1 : (t298 != 0) = true := bne_iff_ne.mpr c8
        obtain rfl := Option.some.inj H
        go_enter Try.func8, Try.ntmps8
        (try rw [lit_f0]); (try rw [lit_f1]); (try rw [lit_fm1]); (try rw [lit_c01]); (try rw [lit_c2m]); (try rw [lit_c1m]); (try rw [lit_c31]); (try rw [lit_c3m]); (try rw [lit_c11])
        go_wp2_with (first | ((with_reducible refine gate_callee (f := 28) rfl ?_); refine goesL_ (some 14) rfl rfl Try.func28 (by kernel_rfl) rfl #[] rfl (by (try simp only [List.map_toArray, List.map_cons, List.map_nil]); first | done | rfl | (simp only [List.length_drop, List.length_take]; rfl)) ?_; (with_reducible refine (colophonlaw15_works.calls k  true _ A3.out).mono ?_); rintro e w43 ⟨rfl, hb⟩; refine ⟨_, rfl, ?_⟩; have n0_ := Aside0.mk (below_step (by repeat (first | (with_reducible first | exact HB.out | apply below_alloc | apply pw_below_drewN | apply below_drew1) | exact HB.out)) hb); clear HB; have HB := n0_; clear n0_; (try clear hb); (try clear hb2); (try clear hk); (try clear hi)) | ((with_reducible refine gate_callee (f := 29) rfl ?_); refine goesL_ (some 22) rfl rfl Try.func29 (by kernel_rfl) rfl #[.slice A0 l0.length c0, .int .i64 a1] rfl (by (try simp only [List.map_toArray, List.map_cons, List.map_nil]); first | done | rfl | (simp only [List.length_drop, List.length_take]; rfl)) ?_; (with_reducible refine (spot_Spots.calls k _ _ l0 a1 t297 t298 _ ?side1 ?side2 A7.out).mono ?_); (case side1 => repeat (first | exact (Kd.C_below HR0.out HB.out) | (with_reducible refine Kd.C_alloc ?_ _) | (with_reducible refine Kd.C_drewN ?_ _) | (with_reducible refine Kd.C_drew ?_))); (case side2 => exact HC0.out); rintro e w44 ⟨v299, rfl, ho0, hb⟩; refine ⟨_, rfl, ?_⟩; have n0_ := Aside0.mk (Kd.R_lower ho0 (below_size (by repeat (first | (with_reducible first | exact HB.out | apply below_alloc | apply pw_below_drewN | apply below_drew1) | exact HB.out)))); have n1_ := Aside0.mk (below_step (by repeat (first | (with_reducible first | exact HB.out | apply below_alloc | apply pw_below_drewN | apply below_drew1) | exact HB.out)) hb); clear HB; have HO300 := n0_; have HB := n1_; clear n0_ n1_; (try clear hb); (try clear hb2); (try clear hk); (try clear hi); (try clear ho0); obtain ⟨Ao45, co45, eo45⟩ := Kd.R_slice HO300.out; subst eo45))
        go_ret
        exact ⟨by first | rfl | (simp [errW_none, errW_some] <;> rfl) | (simp [*, errW_none, errW_some] <;> rfl), by repeat (first | (with_reducible first | exact HB.out | apply below_alloc | apply pw_below_drewN | apply below_drew1) | exact HB.out)⟩
  · replace c4 := Bool.eq_false_iff.mpr c4
    subst c4
    have H1 : (some false) = some r := by rw [if_neg (show ¬ (false = true) by decide)] at H; exact H
    clear H
    have H := H1
    clear H1
    obtain rfl := Option.some.inj H
    go_enter Try.func8, Try.ntmps8
    (try rw [lit_f0]); (try rw [lit_f1]); (try rw [lit_fm1]); (try rw [lit_c01]); (try rw [lit_c2m]); (try rw [lit_c1m]); (try rw [lit_c31]); (try rw [lit_c3m]); (try rw [lit_c11])
    go_wp2_with (first | ((with_reducible refine gate_callee (f := 28) rfl ?_); refine goesL_ (some 14) rfl rfl Try.func28 (by kernel_rfl) rfl #[] rfl (by (try simp only [List.map_toArray, List.map_cons, List.map_nil]); first | done | rfl | (simp only [List.length_drop, List.length_take]; rfl)) ?_; (with_reducible refine (colophonlaw15_works.calls k  false _ A3.out).mono ?_); rintro e w46 ⟨rfl, hb⟩; refine ⟨_, rfl, ?_⟩; have n0_ := Aside0.mk (below_step (by repeat (first | (with_reducible first | exact HB.out | apply below_alloc | apply pw_below_drewN | apply below_drew1) | exact HB.out)) hb); clear HB; have HB := n0_; clear n0_; (try clear hb); (try clear hb2); (try clear hk); (try clear hi)))
    go_ret
    exact ⟨by first | rfl | (simp [errW_none, errW_some] <;> rfl) | (simp [*, errW_none, errW_some] <;> rfl), by repeat (first | (with_reducible first | exact HB.out | apply below_alloc | apply pw_below_drewN | apply below_drew1) | exact HB.out)⟩

/-- THE ONE PURE STATEMENT of colophonlaw15_SpotColumns: yours. -/
def colophonlaw15_SpotColumns.Pure : Prop := ∀ (l0 : List Int) (a1 : Int), l0.length ≤ maxLen → l0.length * 8 ≤ 140737488351232 → (∀ x ∈ l0, (Lit.int .i64 x).wf = true) → (Lit.int .i64 a1).wf = true → ∃ k, colophonlaw15_SpotColumns.f k l0 a1 = some true
theorem colophonlaw15_SpotColumns.walk (P : colophonlaw15_SpotColumns.Pure) (a0 : Option Addr) (len0 cap0 : Nat) (z0 : List Int) (a1 : Int) (w : World) (w0 : (a0 = none ∧ len0 = 0 ∧ cap0 = 0 ∧ z0 = []) ∨ ∃ x, a0 = some x ∧ len0 ≤ cap0 ∧ cap0 ≤ maxLen ∧ z0.length = cap0 ∧ (∀ i, i < z0.length → w.cell? (x.add i) = some (.int .i64 (z0.getD i 0))) ∧ ∀ n ∈ z0, (Lit.int .i64 n).wf = true) (y0 : len0 * 8 ≤ 140737488351232) (w1 : (Lit.int .i64 a1).wf = true) :
    Calls Try.prog 8 #[.slice a0 len0 cap0, .int .i64 a1] w fun e w' => e = .returned (.bool true) ∧ Below w.heap.size w w' := by
  obtain ⟨l0, rfl, hr0, hm0, hw0, hc0⟩ := ReadsInt.ofRowC w0
  obtain ⟨k, h⟩ := P l0 a1 hm0 y0 hw0 w1
  refine (colophonlaw15_SpotColumns.calls k _ _ l0 a1 true w (Kd.C_of_reads (d := (0 : Int)) (h1 := fun _ => rfl) hr0) hc0 h).mono ?_
  rintro e w' ⟨rfl, hd⟩
  exact ⟨rfl, hd⟩

end Go.Proofs.Ytccleelhheilnaa.S
