-- PRINTED by print.py (a twelfth state) out of the translation. Not trusted: Lean checks it.
import Derived.Test.YtccleelhheilnaaFx0
import Derived.Test.YtccleelhheilnaaFGMir
namespace Go.Proofs.Ytccleelhheilnaa.F
open Go.RowKit Go.Proofs.YtccleelhheilnaaW.PrintWords Go.Proofs.YtccleelhheilnaaW.PrintLast Go.Proofs.YtccleelhheilnaaW.PrintMore
attribute [local go_sem] max2_int min2_int max_two min_two max_three min_three max_four min_four   -- for this text's walks alone
set_option linter.unusedVariables false
set_option linter.unusedSimpArgs false

-- GIVEN: function 59 (ucd_Mirror)

/-! ### mirror_Glyph: function 37 -/
def mirror_Glyph.j0 : Nat → Int → Bool → Option (Int)
  | 0, _, _ => none
  | k + 1, x0, x13 => if x13 = true then ((ucd_Mirror.f x0).bind fun bt418 => (if bt418.2 = true then (some bt418.1) else (some x0))) else (some x0)
def mirror_Glyph.f (k : Nat) (a0 : Int) (a1 : Int) : Option (Int) := if a1 > 0 then (mirror_Glyph.j0 k a0 ((Int.tmod a1 2) == 1)) else (mirror_Glyph.j0 k a0 false)
theorem mirror_Glyph.mono_l : ∀ k, (∀ y0 y1, LeO (mirror_Glyph.j0 k y0 y1) (mirror_Glyph.j0 (k + 1) y0 y1))
  | 0 => fun _ _ r h => by simp [mirror_Glyph.j0] at h
  | k + 1 => by
    have ih0 := mirror_Glyph.mono_l k
    · intro y0 y1
      unfold mirror_Glyph.j0
      repeat' first
      | (with_reducible exact ih0 _ _)
      | (with_reducible exact LeO.refl _)
      | (with_reducible exact LeO.none _)
      | (with_reducible refine LeO.ite ?_ ?_)
      | (with_reducible refine LeO.bind ?_ (fun _ => ?_))
      | exact ih0 _ _
      | exact LeO.none _
      | refine LeO.ite ?_ ?_
      | refine LeO.bind ?_ (fun _ => ?_)
theorem mirror_Glyph.mono : ∀ a0 a1 k, LeO (mirror_Glyph.f k a0 a1) (mirror_Glyph.f (k + 1) a0 a1) := by
  intro a0 a1 k
  have ih0 := mirror_Glyph.mono_l k
  unfold mirror_Glyph.f
  repeat' first
      | (with_reducible exact ih0 _ _)
      | (with_reducible exact LeO.refl _)
      | (with_reducible exact LeO.none _)
      | (with_reducible refine LeO.ite ?_ ?_)
      | (with_reducible refine LeO.bind ?_ (fun _ => ?_))
      | exact ih0 _ _
      | exact LeO.none _
      | refine LeO.ite ?_ ?_
      | refine LeO.bind ?_ (fun _ => ?_)
set_option maxHeartbeats 8000000 in
set_option maxRecDepth 100000 in
theorem mirror_Glyph.calls (k : Nat) (a0 : Int) (a1 : Int) (r : Int) (w : World) (h : mirror_Glyph.f k a0 a1 = some r) :
    Calls Try.prog 37 #[.int .i32 a0, .int .i64 a1] w fun e w' => e = .returned (.int .i32 r) ∧ Below w.heap.size w w' := by
  have HB := Aside0.mk (Below.refl w.heap.size w)
  have H : (if a1 > 0 then (mirror_Glyph.j0 k a0 ((Int.tmod a1 2) == 1)) else (mirror_Glyph.j0 k a0 false)) = some r := h
  clear h
  have HC3 := Aside0.mk H
  clear H
  go_enter Try.func37, Try.ntmps37
  go_upto_region 1 with (fail)
  go_cut [13] (fun v13 wc => ∃ (kq : Nat) (x13_2 : Bool), v13 = .bool x13_2 ∧ Aside0 (mirror_Glyph.j0 kq a0 x13_2 = some r) ∧ Aside0 (kq ≤ k) ∧ Aside0 (Below w.heap.size w wc))
  case first =>
    have H := HC3.out
    clear HC3
    by_cases c4 : a1 > 0
    · rw [if_pos c4] at H
      have c4b0 : decide (0 < a1) = true := decide_eq_true c4
      clear c4
      (first | rw [c4b0] | (simp only [i64_w, i32_w]; rw [c4b0]) | skip)
      have H' := Aside0.mk H
      clear H
      go_wp2
      go_meet
      case rel => exact ⟨_, (((Int.tmod a1 2) == 1)), (by first | rfl | (simp; done) | (simp [*]; done)), H', ⟨by first | omega | exact Nat.le_refl _⟩, ⟨by repeat (first | (with_reducible first | exact HB.out | apply below_alloc | apply pw_below_drewN | apply below_drew1) | exact HB.out)⟩⟩
    · rw [if_neg c4] at H
      have c4b0 : decide (0 < a1) = false := decide_eq_false c4
      clear c4
      (first | rw [c4b0] | (simp only [i64_w, i32_w]; rw [c4b0]) | skip)
      have H' := Aside0.mk H
      clear H
      go_wp2
      go_meet
      case rel => exact ⟨_, (false), (by first | rfl | (simp; done) | (simp [*]; done)), H', ⟨by first | omega | exact Nat.le_refl _⟩, ⟨by repeat (first | (with_reducible first | exact HB.out | apply below_alloc | apply pw_below_drewN | apply below_drew1) | exact HB.out)⟩⟩
  case rest =>
    clear HC3
    try clear p2
    try clear c3
    try clear c4
    try clear c4b0
    obtain ⟨kq, x13_2, rfl, HA, HJ2, HB⟩ := hcut
    cases kq with
    | zero => exact absurd HA.out (by simp [mirror_Glyph.j0])
    | succ kj2 =>
      have H := HA.out
      clear HA
      simp only [mirror_Glyph.j0] at H
      by_cases c5 : x13_2 = true
      · subst c5
        have H1 : ((ucd_Mirror.f a0).bind fun bt418 => (if bt418.2 = true then (some bt418.1) else (some a0))) = some r := by rw [if_pos rfl] at H; exact H
        clear H
        have H := H1
        clear H1
        replace H := Option.bind_eq_some_iff.mp H
        obtain ⟨⟨t418, t419⟩, A60, H⟩ := H
        replace H : (if t419 = true then (some t418) else (some a0)) = some r := H
        have A6 := Aside0.mk A60
        clear A60
        by_cases c7 : t419 = true
        · subst c7
          have H1 : (some t418) = some r := by rw [if_pos rfl] at H; exact H
          clear H
          have H := H1
          clear H1
          obtain rfl := Option.some.inj H
          go_wp2_with (first | ((with_reducible refine gate_callee (f := 59) rfl ?_); refine goesL_ (some 16) rfl rfl Try.func59 (by kernel_rfl) rfl #[.int .i32 a0] rfl (by (try simp only [List.map_toArray, List.map_cons, List.map_nil]); first | done | rfl | (simp only [List.length_drop, List.length_take]; rfl)) ?_; (with_reducible refine (ucd_Mirror.calls a0 t418 true _ A6.out).mono ?_); rintro e w8 ⟨rfl, hb⟩; refine ⟨_, rfl, ?_⟩; have n0_ := Aside0.mk (below_step (by repeat (first | (with_reducible first | exact HB.out | apply below_alloc | apply pw_below_drewN | apply below_drew1) | exact HB.out)) hb); clear HB; have HB := n0_; clear n0_; (try clear hb); (try clear hb2); (try clear hk); (try clear hi)))
          go_ret
          exact ⟨by first | rfl | (simp [errW_none, errW_some] <;> rfl) | (simp [*, errW_none, errW_some] <;> rfl), by repeat (first | (with_reducible first | exact HB.out | apply below_alloc | apply pw_below_drewN | apply below_drew1) | exact HB.out)⟩
        · replace c7 := Bool.eq_false_iff.mpr c7
          subst c7
          have H1 : (some a0) = some r := by rw [if_neg (show ¬ (false = true) by decide)] at H; exact H
          clear H
          have H := H1
          clear H1
          obtain rfl := Option.some.inj H
          go_wp2_with (first | ((with_reducible refine gate_callee (f := 59) rfl ?_); refine goesL_ (some 16) rfl rfl Try.func59 (by kernel_rfl) rfl #[.int .i32 a0] rfl (by (try simp only [List.map_toArray, List.map_cons, List.map_nil]); first | done | rfl | (simp only [List.length_drop, List.length_take]; rfl)) ?_; (with_reducible refine (ucd_Mirror.calls a0 t418 false _ A6.out).mono ?_); rintro e w9 ⟨rfl, hb⟩; refine ⟨_, rfl, ?_⟩; have n0_ := Aside0.mk (below_step (by repeat (first | (with_reducible first | exact HB.out | apply below_alloc | apply pw_below_drewN | apply below_drew1) | exact HB.out)) hb); clear HB; have HB := n0_; clear n0_; (try clear hb); (try clear hb2); (try clear hk); (try clear hi)))
          go_ret
          exact ⟨by first | rfl | (simp [errW_none, errW_some] <;> rfl) | (simp [*, errW_none, errW_some] <;> rfl), by repeat (first | (with_reducible first | exact HB.out | apply below_alloc | apply pw_below_drewN | apply below_drew1) | exact HB.out)⟩
      · replace c5 := Bool.eq_false_iff.mpr c5
        subst c5
        have H1 : (some a0) = some r := by rw [if_neg (show ¬ (false = true) by decide)] at H; exact H
        clear H
        have H := H1
        clear H1
        obtain rfl := Option.some.inj H
        go_wp2
        go_ret
        exact ⟨by first | rfl | (simp [errW_none, errW_some] <;> rfl) | (simp [*, errW_none, errW_some] <;> rfl), by repeat (first | (with_reducible first | exact HB.out | apply below_alloc | apply pw_below_drewN | apply below_drew1) | exact HB.out)⟩

/-! ### colophonref03_partner: function 78 -/
def colophonref03_partner.l0 : Nat → List Int → Int → Int → Option (Int × Int)
  | 0, _, _, _ => none
  | k + 1, x0, x1, x6 => if x6 < (x0.length : Int) then (if 0 ≤ x6 then (if (rd x0 x6) = x1 then (if (Int.tmod x6 2) = 0 then (if 0 ≤ (wrap64 (x6 + 1)) then (if (wrap64 (x6 + 1)) < (x0.length : Int) then (some (x6, rd x0 (wrap64 (x6 + 1)))) else (none)) else (none)) else (if 0 ≤ (wrap64 (x6 - 1)) then (if (wrap64 (x6 - 1)) < (x0.length : Int) then (some (x6, rd x0 (wrap64 (x6 - 1)))) else (none)) else (none))) else (colophonref03_partner.l0 k x0 x1 (wrap64 (x6 + 1)))) else (none)) else (some ((-1), 0))
def colophonref03_partner.f (k : Nat) (l0 : List Int) (a1 : Int) : Option (Int × Int) := colophonref03_partner.l0 k l0 a1 0
theorem colophonref03_partner.mono_l : ∀ k, (∀ y0 y1 y2, LeO (colophonref03_partner.l0 k y0 y1 y2) (colophonref03_partner.l0 (k + 1) y0 y1 y2))
  | 0 => fun _ _ _ r h => by simp [colophonref03_partner.l0] at h
  | k + 1 => by
    have ih0 := colophonref03_partner.mono_l k
    · intro y0 y1 y2
      unfold colophonref03_partner.l0
      repeat' first
      | (with_reducible exact ih0 _ _ _)
      | (with_reducible exact LeO.refl _)
      | (with_reducible exact LeO.none _)
      | (with_reducible refine LeO.ite ?_ ?_)
      | (with_reducible refine LeO.bind ?_ (fun _ => ?_))
      | exact ih0 _ _ _
      | exact LeO.none _
      | refine LeO.ite ?_ ?_
      | refine LeO.bind ?_ (fun _ => ?_)
theorem colophonref03_partner.mono : ∀ a0 a1 k, LeO (colophonref03_partner.f k a0 a1) (colophonref03_partner.f (k + 1) a0 a1) := by
  intro a0 a1 k
  have ih0 := colophonref03_partner.mono_l k
  unfold colophonref03_partner.f
  repeat' first
      | (with_reducible exact ih0 _ _ _)
      | (with_reducible exact LeO.refl _)
      | (with_reducible exact LeO.none _)
      | (with_reducible refine LeO.ite ?_ ?_)
      | (with_reducible refine LeO.bind ?_ (fun _ => ?_))
      | exact ih0 _ _ _
      | exact LeO.none _
      | refine LeO.ite ?_ ?_
      | refine LeO.bind ?_ (fun _ => ?_)
set_option maxHeartbeats 8000000 in
set_option maxRecDepth 100000 in
theorem colophonref03_partner.calls (k : Nat) (A0 : Option Addr) (c0 : Nat) (l0 : List Int) (a1 : Int) (r1 : Int) (r2 : Int) (w : World) (hr0 : Kd.C (Kd.int .i32) w A0 l0.length l0) (hc0 : l0.length ≤ c0) (h : colophonref03_partner.f k l0 a1 = some (r1, r2)) :
    Calls Try.prog 78 #[.slice A0 l0.length c0, .int .i32 a1] w fun e w' => e = .returned (.tuple #[.int .i64 r1, .int .i32 r2]) ∧ Drawn0 w w' := by
  have HR0 := Aside0.mk hr0
  have HC0 := Aside0.mk hc0
  clear hr0 hc0
  have H : (colophonref03_partner.l0 k l0 a1 0) = some (r1, r2) := h
  clear h
  have H' := Aside0.mk H
  clear H
  go_enter Try.func78, Try.ntmps78
  go_wp2
  repeat (go_quiet (fail); try go_wp2)
  go_loopg [6] k (fun kq v6 w' => ∃ (x6_1 : Int), v6 = .int .i64 x6_1 ∧ Aside0 (colophonref03_partner.l0 kq l0 a1 x6_1 = some (r1, r2)) ∧ Aside0 (kq ≤ k) ∧ Drawn0 w w')
  case atStart => exact ⟨(0), (by first | rfl | (simp; done) | (simp [*]; done)), H', ⟨Nat.le_refl _⟩, by repeat (first | exact Drawn0.refl _ | apply Drawn0.step)⟩
  case round =>
    clear H'
    try clear p2
    obtain ⟨x6_1, rfl, HA, HK1, ⟨m1, rfl⟩⟩ := hrel
    cases gk with
    | zero => exact absurd HA.out (by simp [colophonref03_partner.l0])
    | succ k1 =>
      have H := HA.out
      clear HA
      simp only [colophonref03_partner.l0] at H
      by_cases c3 : x6_1 < (l0.length : Int)
      · rw [if_pos c3] at H
        have c3b0 : decide (x6_1 < (l0.length : Int)) = true := decide_eq_true c3
        clear c3
        by_cases c4 : 0 ≤ x6_1
        · rw [if_pos c4] at H
          have c4b0 : decide (0 ≤ x6_1) = true := decide_eq_true c4
          clear c4
          by_cases c5 : (rd l0 x6_1) = a1
          · rw [if_pos c5] at H
            have c5b0 : ((rd l0 x6_1) == a1) = true := beq_iff_eq.mpr c5
            have c5b1 : ((rd l0 x6_1) != a1) = false := bne_eq_false_iff_eq.mpr c5
            clear c5
            by_cases c6 : (Int.tmod x6_1 2) = 0
            · rw [if_pos c6] at H
              have c6b0 : ((Int.tmod x6_1 2) == 0) = true := beq_iff_eq.mpr c6
              have c6b1 : ((Int.tmod x6_1 2) != 0) = false := bne_eq_false_iff_eq.mpr c6
              clear c6
              obtain ⟨ji7, hji7⟩ : ∃ j_ : Int, (wrap64 (x6_1 + 1)) = j_ := ⟨_, rfl⟩
              replace H : (if 0 ≤ (ji7) then (if (ji7) < (l0.length : Int) then (some (x6_1, rd l0 (ji7))) else (none)) else (none)) = some (r1, r2) := by first | (rw [hji7] at H; exact H) | (simp only [hji7] at H ⊢; exact H)
              have hji7w : (IntKind.i64.wrap (x6_1 + 1)) = ji7 := (i64_w _).trans hji7
              by_cases c8 : 0 ≤ (ji7)
              · rw [if_pos c8] at H
                have c8b0 : decide (0 ≤ (ji7)) = true := decide_eq_true c8
                clear c8
                by_cases c9 : (ji7) < (l0.length : Int)
                · rw [if_pos c9] at H
                  have c9b0 : decide ((ji7) < (l0.length : Int)) = true := decide_eq_true c9
                  clear c9
                  simp only [Option.some.injEq, Prod.mk.injEq] at H
                  obtain ⟨rfl, rfl⟩ := H
                  have p420 : 0 ≤ (x6_1 : Int) := of_decide_eq_true (by first | (with_reducible assumption) | assumption)
                  have q420 : x6_1 < (l0.length : Int) := of_decide_eq_true (by first | (with_reducible assumption) | assumption)
                  obtain ⟨ad420, e420, hx420_0⟩ := Kd.at_int HR0.out x6_1 p420 q420
                  cases e420
                  replace p420 := eq_true p420
                  replace q420 := eq_true q420
                  have p421 : 0 ≤ ((ji7) : Int) := of_decide_eq_true (by first | (with_reducible assumption) | assumption)
                  have q421 : (ji7) < (l0.length : Int) := of_decide_eq_true (by first | (with_reducible assumption) | assumption)
                  obtain ⟨ad421, e421, hx421_0⟩ := Kd.at_int HR0.out (ji7) p421 q421
                  obtain rfl : ad420 = ad421 := (by injection e421)
                  replace p421 := eq_true p421
                  replace q421 := eq_true q421
                  go_wp2
                  repeat (go_quiet (fail); try go_wp2)
                  go_ret2
                  exact ⟨by first | rfl | (simp; done) | (simp only [← hji7] <;> (first | rfl | simp)) | (simp [*]; done), by repeat (first | exact Drawn0.refl _ | apply Drawn0.step)⟩
                · rw [if_neg c9] at H
                  exact absurd H (by simp)
              · rw [if_neg c8] at H
                exact absurd H (by simp)
            · rw [if_neg c6] at H
              have c6b0 : ((Int.tmod x6_1 2) == 0) = false := beq_eq_false_iff_ne.mpr c6
              have c6b1 : ((Int.tmod x6_1 2) != 0) = true := bne_iff_ne.mpr c6
              obtain ⟨ji10, hji10⟩ : ∃ j_ : Int, (wrap64 (x6_1 - 1)) = j_ := ⟨_, rfl⟩
              replace H : (if 0 ≤ (ji10) then (if (ji10) < (l0.length : Int) then (some (x6_1, rd l0 (ji10))) else (none)) else (none)) = some (r1, r2) := by first | (rw [hji10] at H; exact H) | (simp only [hji10] at H ⊢; exact H)
              have hji10w : (IntKind.i64.wrap (x6_1 - 1)) = ji10 := (i64_w _).trans hji10
              by_cases c11 : 0 ≤ (ji10)
              · rw [if_pos c11] at H
                have c11b0 : decide (0 ≤ (ji10)) = true := decide_eq_true c11
                clear c11
                by_cases c12 : (ji10) < (l0.length : Int)
                · rw [if_pos c12] at H
                  have c12b0 : decide ((ji10) < (l0.length : Int)) = true := decide_eq_true c12
                  clear c12
                  simp only [Option.some.injEq, Prod.mk.injEq] at H
                  obtain ⟨rfl, rfl⟩ := H
                  have p420 : 0 ≤ (x6_1 : Int) := of_decide_eq_true (by first | (with_reducible assumption) | assumption)
                  have q420 : x6_1 < (l0.length : Int) := of_decide_eq_true (by first | (with_reducible assumption) | assumption)
                  obtain ⟨ad420, e420, hx420_0⟩ := Kd.at_int HR0.out x6_1 p420 q420
                  cases e420
                  replace p420 := eq_true p420
                  replace q420 := eq_true q420
                  have p422 : 0 ≤ ((ji10) : Int) := of_decide_eq_true (by first | (with_reducible assumption) | assumption)
                  have q422 : (ji10) < (l0.length : Int) := of_decide_eq_true (by first | (with_reducible assumption) | assumption)
                  obtain ⟨ad422, e422, hx422_0⟩ := Kd.at_int HR0.out (ji10) p422 q422
                  obtain rfl : ad420 = ad422 := (by injection e422)
                  replace p422 := eq_true p422
                  replace q422 := eq_true q422
                  go_wp2
                  repeat (go_quiet (fail); try go_wp2)
                  go_ret2
                  exact ⟨by first | rfl | (simp; done) | (simp only [← hji10] <;> (first | rfl | simp)) | (simp [*]; done), by repeat (first | exact Drawn0.refl _ | apply Drawn0.step)⟩
                · rw [if_neg c12] at H
                  exact absurd H (by simp)
              · rw [if_neg c11] at H
                exact absurd H (by simp)
          · rw [if_neg c5] at H
            have c5b0 : ((rd l0 x6_1) == a1) = false := beq_eq_false_iff_ne.mpr c5
            have c5b1 : ((rd l0 x6_1) != a1) = true := bne_iff_ne.mpr c5
            have H' := Aside0.mk H
            clear H
            have p420 : 0 ≤ (x6_1 : Int) := of_decide_eq_true (by first | (with_reducible assumption) | assumption)
            have q420 : x6_1 < (l0.length : Int) := of_decide_eq_true (by first | (with_reducible assumption) | assumption)
            obtain ⟨ad420, e420, hx420_0⟩ := Kd.at_int HR0.out x6_1 p420 q420
            cases e420
            replace p420 := eq_true p420
            replace q420 := eq_true q420
            go_wp2
            repeat (go_quiet (fail); try go_wp2)
            go_roundg k1
            case measure => have := HK1.out; omega
            case rel => exact ⟨(wrap64 (x6_1 + 1)), (by first | rfl | (simp; done) | (simp [*]; done)), H', ⟨by have := HK1.out; omega⟩, by repeat (first | exact Drawn0.refl _ | apply Drawn0.step)⟩
        · rw [if_neg c4] at H
          exact absurd H (by simp)
      · rw [if_neg c3] at H
        have c3b0 : decide (x6_1 < (l0.length : Int)) = false := decide_eq_false c3
        clear c3
        simp only [Option.some.injEq, Prod.mk.injEq] at H
        obtain ⟨rfl, rfl⟩ := H
        go_wp2
        repeat (go_quiet (fail); try go_wp2)
        go_ret2
        exact ⟨by first | rfl | (simp; done) | (simp [*]; done), by repeat (first | exact Drawn0.refl _ | apply Drawn0.step)⟩

/-! ### colophonref03_brackets: function 79 -/
def colophonref03_brackets.f  : Option (List Int) := some (([40, 41, 91, 93, 123, 125, 8261, 8262, 8317, 8318, 8333, 8334, 9001, 9002, 10214, 10215, 10216, 10217, 10218, 10219, 10220, 10221, 10222, 10223, 12296, 12297, 12298, 12299, 12300, 12301, 12302, 12303, 12304, 12305, 12308, 12309, 12310, 12311, 12312, 12313, 12314, 12315] : List Int))
set_option maxHeartbeats 8000000 in
set_option maxRecDepth 100000 in
theorem colophonref03_brackets.calls  (r : List Int) (w : World) (h : colophonref03_brackets.f  = some r) :
    Calls Try.prog 79 #[] w fun e w' => ∃ v0_ : Value, e = .returned (v0_) ∧ Kd.R (Kd.int .i32) 21 w' w.heap.size (fun _ => True) v0_ r ∧ Below w.heap.size w w' := by
  have HB := Aside0.mk (Below.refl w.heap.size w)
  have H : (some (([40, 41, 91, 93, 123, 125, 8261, 8262, 8317, 8318, 8333, 8334, 9001, 9002, 10214, 10215, 10216, 10217, 10218, 10219, 10220, 10221, 10222, 10223, 12296, 12297, 12298, 12299, 12300, 12301, 12302, 12303, 12304, 12305, 12308, 12309, 12310, 12311, 12312, 12313, 12314, 12315] : List Int))) = some r := h
  clear h
  obtain ⟨y423, hy423⟩ : ∃ y_ : List Int, y_ = (([40, 41, 91, 93, 123, 125, 8261, 8262, 8317, 8318, 8333, 8334, 9001, 9002, 10214, 10215, 10216, 10217, 10218, 10219, 10220, 10221, 10222, 10223, 12296, 12297, 12298, 12299, 12300, 12301, 12302, 12303, 12304, 12305, 12308, 12309, 12310, 12311, 12312, 12313, 12314, 12315] : List Int)) := ⟨_, rfl⟩
  replace H : (some y423) = some r := by first | (rw [hy423]; with_reducible exact H) | (have H2_ := (Option.bind_some _ _).symm.trans H; rw [hy423]; with_reducible exact H2_) | (have H2_ := (Option.bind_some _ _).symm.trans H; with_reducible exact H2_) | with_reducible exact H | (rw [hy423]; exact H) | exact H
  have Ny423 := Aside0.mk hy423
  clear hy423
  obtain rfl := Option.some.inj H
  go_enter Try.func79, Try.ntmps79
  go_wp2_with (first | ((with_reducible refine gate_dst (N := 1) rfl ?_); refine Kd.R_lit (Kd.int .i32) _ 21 ?hg (N := 1) ?hd (xs := ([40, 41, 91, 93, 123, 125, 8261, 8262, 8317, 8318, 8333, 8334, 9001, 9002, 10214, 10215, 10216, 10217, 10218, 10219, 10220, 10221, 10222, 10223, 12296, 12297, 12298, 12299, 12300, 12301, 12302, 12303, 12304, 12305, 12308, 12309, 12310, 12311, 12312, 12313, 12314, 12315] : List Int)) (inner := [.int .i32 40, .int .i32 41, .int .i32 91, .int .i32 93, .int .i32 123, .int .i32 125, .int .i32 8261, .int .i32 8262, .int .i32 8317, .int .i32 8318, .int .i32 8333, .int .i32 8334, .int .i32 9001, .int .i32 9002, .int .i32 10214, .int .i32 10215, .int .i32 10216, .int .i32 10217, .int .i32 10218, .int .i32 10219, .int .i32 10220, .int .i32 10221, .int .i32 10222, .int .i32 10223, .int .i32 12296, .int .i32 12297, .int .i32 12298, .int .i32 12299, .int .i32 12300, .int .i32 12301, .int .i32 12302, .int .i32 12303, .int .i32 12304, .int .i32 12305, .int .i32 12308, .int .i32 12309, .int .i32 12310, .int .i32 12311, .int .i32 12312, .int .i32 12313, .int .i32 12314, .int .i32 12315]) (ok := fun _ => True) (okp := fun _ => True) ?hr ?hp (fun _ hk => hk) trivial (Below.refl _ _) (Nat.le_refl _) (by simp) ?_; (case hd => rfl); (case hg => rfl); (case hr => first | (go_simp; done) | (go_simp; rfl)); (case hp => exact (Reps.one (show Kd.M (Kd.int .i32) _ _ _ 40 [.int .i32 40] from rfl) (Reps.one (show Kd.M (Kd.int .i32) _ _ _ 41 [.int .i32 41] from rfl) (Reps.one (show Kd.M (Kd.int .i32) _ _ _ 91 [.int .i32 91] from rfl) (Reps.one (show Kd.M (Kd.int .i32) _ _ _ 93 [.int .i32 93] from rfl) (Reps.one (show Kd.M (Kd.int .i32) _ _ _ 123 [.int .i32 123] from rfl) (Reps.one (show Kd.M (Kd.int .i32) _ _ _ 125 [.int .i32 125] from rfl) (Reps.one (show Kd.M (Kd.int .i32) _ _ _ 8261 [.int .i32 8261] from rfl) (Reps.one (show Kd.M (Kd.int .i32) _ _ _ 8262 [.int .i32 8262] from rfl) (Reps.one (show Kd.M (Kd.int .i32) _ _ _ 8317 [.int .i32 8317] from rfl) (Reps.one (show Kd.M (Kd.int .i32) _ _ _ 8318 [.int .i32 8318] from rfl) (Reps.one (show Kd.M (Kd.int .i32) _ _ _ 8333 [.int .i32 8333] from rfl) (Reps.one (show Kd.M (Kd.int .i32) _ _ _ 8334 [.int .i32 8334] from rfl) (Reps.one (show Kd.M (Kd.int .i32) _ _ _ 9001 [.int .i32 9001] from rfl) (Reps.one (show Kd.M (Kd.int .i32) _ _ _ 9002 [.int .i32 9002] from rfl) (Reps.one (show Kd.M (Kd.int .i32) _ _ _ 10214 [.int .i32 10214] from rfl) (Reps.one (show Kd.M (Kd.int .i32) _ _ _ 10215 [.int .i32 10215] from rfl) (Reps.one (show Kd.M (Kd.int .i32) _ _ _ 10216 [.int .i32 10216] from rfl) (Reps.one (show Kd.M (Kd.int .i32) _ _ _ 10217 [.int .i32 10217] from rfl) (Reps.one (show Kd.M (Kd.int .i32) _ _ _ 10218 [.int .i32 10218] from rfl) (Reps.one (show Kd.M (Kd.int .i32) _ _ _ 10219 [.int .i32 10219] from rfl) (Reps.one (show Kd.M (Kd.int .i32) _ _ _ 10220 [.int .i32 10220] from rfl) (Reps.one (show Kd.M (Kd.int .i32) _ _ _ 10221 [.int .i32 10221] from rfl) (Reps.one (show Kd.M (Kd.int .i32) _ _ _ 10222 [.int .i32 10222] from rfl) (Reps.one (show Kd.M (Kd.int .i32) _ _ _ 10223 [.int .i32 10223] from rfl) (Reps.one (show Kd.M (Kd.int .i32) _ _ _ 12296 [.int .i32 12296] from rfl) (Reps.one (show Kd.M (Kd.int .i32) _ _ _ 12297 [.int .i32 12297] from rfl) (Reps.one (show Kd.M (Kd.int .i32) _ _ _ 12298 [.int .i32 12298] from rfl) (Reps.one (show Kd.M (Kd.int .i32) _ _ _ 12299 [.int .i32 12299] from rfl) (Reps.one (show Kd.M (Kd.int .i32) _ _ _ 12300 [.int .i32 12300] from rfl) (Reps.one (show Kd.M (Kd.int .i32) _ _ _ 12301 [.int .i32 12301] from rfl) (Reps.one (show Kd.M (Kd.int .i32) _ _ _ 12302 [.int .i32 12302] from rfl) (Reps.one (show Kd.M (Kd.int .i32) _ _ _ 12303 [.int .i32 12303] from rfl) (Reps.one (show Kd.M (Kd.int .i32) _ _ _ 12304 [.int .i32 12304] from rfl) (Reps.one (show Kd.M (Kd.int .i32) _ _ _ 12305 [.int .i32 12305] from rfl) (Reps.one (show Kd.M (Kd.int .i32) _ _ _ 12308 [.int .i32 12308] from rfl) (Reps.one (show Kd.M (Kd.int .i32) _ _ _ 12309 [.int .i32 12309] from rfl) (Reps.one (show Kd.M (Kd.int .i32) _ _ _ 12310 [.int .i32 12310] from rfl) (Reps.one (show Kd.M (Kd.int .i32) _ _ _ 12311 [.int .i32 12311] from rfl) (Reps.one (show Kd.M (Kd.int .i32) _ _ _ 12312 [.int .i32 12312] from rfl) (Reps.one (show Kd.M (Kd.int .i32) _ _ _ 12313 [.int .i32 12313] from rfl) (Reps.one (show Kd.M (Kd.int .i32) _ _ _ 12314 [.int .i32 12314] from rfl) (Reps.one (show Kd.M (Kd.int .i32) _ _ _ 12315 [.int .i32 12315] from rfl) (Reps.none _ _)))))))))))))))))))))))))))))))))))))))))))); intro v424 w1 ho2 hb hg_ hnew_; clear hg_ hnew_; (first | rw [← Ny423.out] at ho2 | (simp only [Int.reduceToNat] at ho2; rw [← Ny423.out] at ho2)); have n0_ := Aside0.mk (Kd.R_lower ho2 (below_size (by repeat (first | (with_reducible first | exact HB.out | apply below_alloc | apply pw_below_drewN | apply below_drew1) | exact HB.out)))); have n1_ := Aside0.mk (below_step (by repeat (first | (with_reducible first | exact HB.out | apply below_alloc | apply pw_below_drewN | apply below_drew1) | exact HB.out)) hb); clear HB; have HO425 := n0_; have HB := n1_; clear n0_ n1_; clear hb ho2))
  go_ret
  exact ⟨_, by first | rfl | (simp [errW_none, errW_some] <;> rfl) | (simp [*, errW_none, errW_some] <;> rfl), by (with_reducible repeat (first | apply Kd.R_alloc | apply Kd.R_drewN | apply Kd.R_drew)); exact HO425.out, by repeat (first | (with_reducible first | exact HB.out | apply below_alloc | apply pw_below_drewN | apply below_drew1) | exact HB.out)⟩

/-! ### colophonref03_others: function 80 -/
def colophonref03_others.f  : Option (List Int) := some (([60, 62, 171, 187, 8249, 8250, 8712, 8715, 8804, 8805, 8806, 8807, 8810, 8811, 8822, 8823, 8834, 8835, 8838, 8839] : List Int))
set_option maxHeartbeats 8000000 in
set_option maxRecDepth 100000 in
theorem colophonref03_others.calls  (r : List Int) (w : World) (h : colophonref03_others.f  = some r) :
    Calls Try.prog 80 #[] w fun e w' => ∃ v0_ : Value, e = .returned (v0_) ∧ Kd.R (Kd.int .i32) 21 w' w.heap.size (fun _ => True) v0_ r ∧ Below w.heap.size w w' := by
  have HB := Aside0.mk (Below.refl w.heap.size w)
  have H : (some (([60, 62, 171, 187, 8249, 8250, 8712, 8715, 8804, 8805, 8806, 8807, 8810, 8811, 8822, 8823, 8834, 8835, 8838, 8839] : List Int))) = some r := h
  clear h
  obtain ⟨y426, hy426⟩ : ∃ y_ : List Int, y_ = (([60, 62, 171, 187, 8249, 8250, 8712, 8715, 8804, 8805, 8806, 8807, 8810, 8811, 8822, 8823, 8834, 8835, 8838, 8839] : List Int)) := ⟨_, rfl⟩
  replace H : (some y426) = some r := by first | (rw [hy426]; with_reducible exact H) | (have H2_ := (Option.bind_some _ _).symm.trans H; rw [hy426]; with_reducible exact H2_) | (have H2_ := (Option.bind_some _ _).symm.trans H; with_reducible exact H2_) | with_reducible exact H | (rw [hy426]; exact H) | exact H
  have Ny426 := Aside0.mk hy426
  clear hy426
  obtain rfl := Option.some.inj H
  go_enter Try.func80, Try.ntmps80
  go_wp2_with (first | ((with_reducible refine gate_dst (N := 1) rfl ?_); refine Kd.R_lit (Kd.int .i32) _ 21 ?hg (N := 1) ?hd (xs := ([60, 62, 171, 187, 8249, 8250, 8712, 8715, 8804, 8805, 8806, 8807, 8810, 8811, 8822, 8823, 8834, 8835, 8838, 8839] : List Int)) (inner := [.int .i32 60, .int .i32 62, .int .i32 171, .int .i32 187, .int .i32 8249, .int .i32 8250, .int .i32 8712, .int .i32 8715, .int .i32 8804, .int .i32 8805, .int .i32 8806, .int .i32 8807, .int .i32 8810, .int .i32 8811, .int .i32 8822, .int .i32 8823, .int .i32 8834, .int .i32 8835, .int .i32 8838, .int .i32 8839]) (ok := fun _ => True) (okp := fun _ => True) ?hr ?hp (fun _ hk => hk) trivial (Below.refl _ _) (Nat.le_refl _) (by simp) ?_; (case hd => rfl); (case hg => rfl); (case hr => first | (go_simp; done) | (go_simp; rfl)); (case hp => exact (Reps.one (show Kd.M (Kd.int .i32) _ _ _ 60 [.int .i32 60] from rfl) (Reps.one (show Kd.M (Kd.int .i32) _ _ _ 62 [.int .i32 62] from rfl) (Reps.one (show Kd.M (Kd.int .i32) _ _ _ 171 [.int .i32 171] from rfl) (Reps.one (show Kd.M (Kd.int .i32) _ _ _ 187 [.int .i32 187] from rfl) (Reps.one (show Kd.M (Kd.int .i32) _ _ _ 8249 [.int .i32 8249] from rfl) (Reps.one (show Kd.M (Kd.int .i32) _ _ _ 8250 [.int .i32 8250] from rfl) (Reps.one (show Kd.M (Kd.int .i32) _ _ _ 8712 [.int .i32 8712] from rfl) (Reps.one (show Kd.M (Kd.int .i32) _ _ _ 8715 [.int .i32 8715] from rfl) (Reps.one (show Kd.M (Kd.int .i32) _ _ _ 8804 [.int .i32 8804] from rfl) (Reps.one (show Kd.M (Kd.int .i32) _ _ _ 8805 [.int .i32 8805] from rfl) (Reps.one (show Kd.M (Kd.int .i32) _ _ _ 8806 [.int .i32 8806] from rfl) (Reps.one (show Kd.M (Kd.int .i32) _ _ _ 8807 [.int .i32 8807] from rfl) (Reps.one (show Kd.M (Kd.int .i32) _ _ _ 8810 [.int .i32 8810] from rfl) (Reps.one (show Kd.M (Kd.int .i32) _ _ _ 8811 [.int .i32 8811] from rfl) (Reps.one (show Kd.M (Kd.int .i32) _ _ _ 8822 [.int .i32 8822] from rfl) (Reps.one (show Kd.M (Kd.int .i32) _ _ _ 8823 [.int .i32 8823] from rfl) (Reps.one (show Kd.M (Kd.int .i32) _ _ _ 8834 [.int .i32 8834] from rfl) (Reps.one (show Kd.M (Kd.int .i32) _ _ _ 8835 [.int .i32 8835] from rfl) (Reps.one (show Kd.M (Kd.int .i32) _ _ _ 8838 [.int .i32 8838] from rfl) (Reps.one (show Kd.M (Kd.int .i32) _ _ _ 8839 [.int .i32 8839] from rfl) (Reps.none _ _)))))))))))))))))))))); intro v427 w1 ho2 hb hg_ hnew_; clear hg_ hnew_; (first | rw [← Ny426.out] at ho2 | (simp only [Int.reduceToNat] at ho2; rw [← Ny426.out] at ho2)); have n0_ := Aside0.mk (Kd.R_lower ho2 (below_size (by repeat (first | (with_reducible first | exact HB.out | apply below_alloc | apply pw_below_drewN | apply below_drew1) | exact HB.out)))); have n1_ := Aside0.mk (below_step (by repeat (first | (with_reducible first | exact HB.out | apply below_alloc | apply pw_below_drewN | apply below_drew1) | exact HB.out)) hb); clear HB; have HO428 := n0_; have HB := n1_; clear n0_ n1_; clear hb ho2))
  go_ret
  exact ⟨_, by first | rfl | (simp [errW_none, errW_some] <;> rfl) | (simp [*, errW_none, errW_some] <;> rfl), by (with_reducible repeat (first | apply Kd.R_alloc | apply Kd.R_drewN | apply Kd.R_drew)); exact HO428.out, by repeat (first | (with_reducible first | exact HB.out | apply below_alloc | apply pw_below_drewN | apply below_drew1) | exact HB.out)⟩

/-! ### colophonref03_Mirror: function 60 -/
def colophonref03_Mirror.f (k : Nat) (a0 : Int) : Option (Int × Bool) := (colophonref03_brackets.f).bind fun t429 => ((colophonref03_others.f).bind fun t432 => (if t429.length + t432.length < 35184372088832 then ((colophonref03_partner.f k (t429 ++ t432) a0).bind fun bt438 => (some (bt438.2, decide (bt438.1 ≥ 0)))) else (none)))
theorem colophonref03_Mirror.mono : ∀ a0 k, LeO (colophonref03_Mirror.f k a0) (colophonref03_Mirror.f (k + 1) a0) := by
  intro a0 k
  unfold colophonref03_Mirror.f
  repeat' first
      | (with_reducible exact colophonref03_partner.mono _ _ _)
      | (with_reducible exact LeO.refl _)
      | (with_reducible exact LeO.none _)
      | (with_reducible refine LeO.ite ?_ ?_)
      | (with_reducible refine LeO.bind ?_ (fun _ => ?_))
      | exact colophonref03_partner.mono _ _ _
      | exact LeO.none _
      | refine LeO.ite ?_ ?_
      | refine LeO.bind ?_ (fun _ => ?_)
set_option maxHeartbeats 8000000 in
set_option maxRecDepth 100000 in
theorem colophonref03_Mirror.calls (k : Nat) (a0 : Int) (r1 : Int) (r2 : Bool) (w : World) (h : colophonref03_Mirror.f k a0 = some (r1, r2)) :
    Calls Try.prog 60 #[.int .i32 a0] w fun e w' => e = .returned (.tuple #[.int .i32 r1, .bool r2]) ∧ Below w.heap.size w w' := by
  have HB := Aside0.mk (Below.refl w.heap.size w)
  have H : ((colophonref03_brackets.f).bind fun t429 => ((colophonref03_others.f).bind fun t432 => (if t429.length + t432.length < 35184372088832 then ((colophonref03_partner.f k (t429 ++ t432) a0).bind fun bt438 => (some (bt438.2, decide (bt438.1 ≥ 0)))) else (none)))) = some (r1, r2) := h
  clear h
  replace H := Option.bind_eq_some_iff.mp H
  obtain ⟨t429, A20, H⟩ := H
  replace H : ((colophonref03_others.f).bind fun t432 => (if t429.length + t432.length < 35184372088832 then ((colophonref03_partner.f k (t429 ++ t432) a0).bind fun bt438 => (some (bt438.2, decide (bt438.1 ≥ 0)))) else (none))) = some (r1, r2) := H
  have A2 := Aside0.mk A20
  clear A20
  replace H := Option.bind_eq_some_iff.mp H
  obtain ⟨t432, A30, H⟩ := H
  replace H : (if t429.length + t432.length < 35184372088832 then ((colophonref03_partner.f k (t429 ++ t432) a0).bind fun bt438 => (some (bt438.2, decide (bt438.1 ≥ 0)))) else (none)) = some (r1, r2) := H
  have A3 := Aside0.mk A30
  clear A30
  by_cases c4 : t429.length + t432.length < 35184372088832
  · rw [if_pos c4] at H
    have LMc4 := Aside0.mk c4
    clear c4
    obtain ⟨y435, hy435⟩ : ∃ y_ : List Int, y_ = (t429 ++ t432) := ⟨_, rfl⟩
    replace H : ((colophonref03_partner.f k y435 a0).bind fun bt438 => (some (bt438.2, decide (bt438.1 ≥ 0)))) = some (r1, r2) := by first | (rw [hy435]; with_reducible exact H) | (have H2_ := (Option.bind_some _ _).symm.trans H; rw [hy435]; with_reducible exact H2_) | (have H2_ := (Option.bind_some _ _).symm.trans H; with_reducible exact H2_) | with_reducible exact H | (rw [hy435]; exact H) | exact H
    have Ny435 := Aside0.mk hy435
    clear hy435
    replace H := Option.bind_eq_some_iff.mp H
    obtain ⟨⟨t438, t439⟩, A50, H⟩ := H
    replace H : (some (t439, decide (t438 ≥ 0))) = some (r1, r2) := H
    have A5 := Aside0.mk A50
    clear A50
    simp only [Option.some.injEq, Prod.mk.injEq] at H
    obtain ⟨rfl, rfl⟩ := H
    go_enter Try.func60, Try.ntmps60
    go_wp2_with (first | ((with_reducible refine gate_callee (f := 79) rfl ?_); refine goesL_ (some 7) rfl rfl Try.func79 (by kernel_rfl) rfl #[] rfl (by (try simp only [List.map_toArray, List.map_cons, List.map_nil]); first | done | rfl | (simp only [List.length_drop, List.length_take]; rfl)) ?_; (with_reducible refine (colophonref03_brackets.calls  t429 _ A2.out).mono ?_); rintro e w6 ⟨v430, rfl, ho0, hb⟩; refine ⟨_, rfl, ?_⟩; have n0_ := Aside0.mk (Kd.R_lower ho0 (below_size (by repeat (first | (with_reducible first | exact HB.out | apply below_alloc | apply pw_below_drewN | apply below_drew1) | exact HB.out)))); have n1_ := Aside0.mk (below_step (by repeat (first | (with_reducible first | exact HB.out | apply below_alloc | apply pw_below_drewN | apply below_drew1) | exact HB.out)) hb); clear HB; have HO431 := n0_; have HB := n1_; clear n0_ n1_; (try clear hb); (try clear hb2); (try clear hk); (try clear hi); (try clear ho0)) | ((with_reducible refine gate_callee (f := 80) rfl ?_); refine goesL_ (some 8) rfl rfl Try.func80 (by kernel_rfl) rfl #[] rfl (by (try simp only [List.map_toArray, List.map_cons, List.map_nil]); first | done | rfl | (simp only [List.length_drop, List.length_take]; rfl)) ?_; (with_reducible refine (colophonref03_others.calls  t432 _ A3.out).mono ?_); rintro e w7 ⟨v433, rfl, ho0, hb⟩; refine ⟨_, rfl, ?_⟩; have n0_ := Aside0.mk (Kd.R_elder' (by (with_reducible repeat (first | apply Kd.R_alloc | apply Kd.R_drewN | apply Kd.R_drew)); exact HO431.out) (Kd.R_base ho0) hb); have n1_ := Aside0.mk (Kd.R_lower (Kd.R_new' ho0 (Kd.R_lt (by (with_reducible repeat (first | apply Kd.R_alloc | apply Kd.R_drewN | apply Kd.R_drew)); exact HO431.out))) (below_size (by repeat (first | (with_reducible first | exact HB.out | apply below_alloc | apply pw_below_drewN | apply below_drew1) | exact HB.out)))); have n2_ := Aside0.mk (below_step (by repeat (first | (with_reducible first | exact HB.out | apply below_alloc | apply pw_below_drewN | apply below_drew1) | exact HB.out)) hb); clear HO431; clear HB; have HO431 := n0_; have HO434 := n1_; have HB := n2_; clear n0_ n1_ n2_; (try clear hb); (try clear hb2); (try clear hk); (try clear hi); (try clear ho0); obtain ⟨Ao9, co9, eo9⟩ := Kd.R_slice HO434.out; subst eo9) | ((with_reducible refine gate_builtin (b := .append) (xs := #[.tmp 7, .tmp 8]) rfl ?_); at_builtin; refine Kd.R_append_rows (Kd.int .i32) (w0 := w) w.heap.size rfl (.tmp 7) (.tmp 8) 49 21 (.int .i32 0) 4 rfl Try.underlying49 info21 rfl (by decide) (by omega) v430 t429 t432 _ _ _ (fun k_ => some k_ ≠ (.slice Ao9 t432.length co9 : Value).ownBlock) (fun _ => False) rfl rfl ?aO ?aR (fun _ _ h => h) (fun _ h => h.elim) ?aF ?aB ?aS ?aL ?_; (case aR => repeat (first | exact (Kd.R_reads' HO434.out).2.2 | (with_reducible refine Kd.C_alloc ?_ _) | (with_reducible refine Kd.C_drewN ?_ _) | (with_reducible refine Kd.C_drew ?_))); (case aB => exact (by repeat (first | (with_reducible first | exact HB.out | apply below_alloc | apply pw_below_drewN | apply below_drew1) | exact HB.out))); (case aF => exact (fun k_ hk => Kd.fresh' (Kd.R_lt (by (with_reducible repeat (first | apply Kd.R_alloc | apply Kd.R_drewN | apply Kd.R_drew)); exact HO434.out)) k_ hk)); (case aO => exact (by (with_reducible repeat (first | apply Kd.R_alloc | apply Kd.R_drewN | apply Kd.R_drew)); exact Kd.R_mono HO431.out (fun _ hk => hk.2))); (case aS => exact (below_size (by repeat (first | (with_reducible first | exact HB.out | apply below_alloc | apply pw_below_drewN | apply below_drew1) | exact HB.out)))); (case aL => have := LMc4.out; omega); intro v436 w8 ho hb hg hat; rw [← Ny435.out] at ho; have n0_ := Aside0.mk (Kd.R_after (ok := (fun _ => True)) (by (with_reducible repeat (first | apply Kd.R_alloc | apply Kd.R_drewN | apply Kd.R_drew)); exact HO434.out) hg hat); have n1_ := Aside0.mk (hb); have n2_ := Aside0.mk (ho); clear HO434; clear HB; clear HO431; have HO434 := n0_; have HB := n1_; have HO437 := n2_; clear n0_ n1_ n2_; clear ho hb hg hat; obtain ⟨Ao10, co10, eo10⟩ := Kd.R_slice HO437.out; subst eo10) | ((with_reducible refine gate_callee (f := 78) rfl ?_); refine goesL_ (some 11) rfl rfl Try.func78 (by kernel_rfl) rfl #[.slice Ao10 y435.length co10, .int .i32 a0] rfl (by (try simp only [List.map_toArray, List.map_cons, List.map_nil]); first | done | rfl | (simp only [List.length_drop, List.length_take]; rfl)) ?_; (with_reducible refine (colophonref03_partner.calls k _ _ y435 a0 t438 t439 _ ?side1 ?side2 A5.out).mono ?_); (case side1 => repeat (first | exact (Kd.R_reads' HO437.out).2.2 | (with_reducible refine Kd.C_alloc ?_ _) | (with_reducible refine Kd.C_drewN ?_ _) | (with_reducible refine Kd.C_drew ?_))); (case side2 => exact (Kd.R_reads' HO437.out).2.1); rintro e w' ⟨rfl, ⟨nd, rfl⟩⟩; refine ⟨_, rfl, ?_⟩))
    go_ret2
    exact ⟨by first | rfl | (simp [errW_none, errW_some] <;> rfl) | (simp [*, errW_none, errW_some] <;> rfl), by repeat (first | (with_reducible first | exact HB.out | apply below_alloc | apply pw_below_drewN | apply below_drew1) | exact HB.out)⟩
  · rw [if_neg c4] at H
    exact absurd H (by simp)

/-! ### colophonref14_Glyph: function 38 -/
def colophonref14_Glyph.f (k : Nat) (a0 : Int) (a1 : Int) : Option (Int) := (colophonref03_Mirror.f k a0).bind fun bt440 => (if bt440.2 = true then (if a1 ≥ 0 then (if (Int.tmod a1 2) = 1 then (some bt440.1) else (some a0)) else (some a0)) else (some a0))
theorem colophonref14_Glyph.mono : ∀ a0 a1 k, LeO (colophonref14_Glyph.f k a0 a1) (colophonref14_Glyph.f (k + 1) a0 a1) := by
  intro a0 a1 k
  unfold colophonref14_Glyph.f
  repeat' first
      | (with_reducible exact colophonref03_Mirror.mono _ _)
      | (with_reducible exact LeO.refl _)
      | (with_reducible exact LeO.none _)
      | (with_reducible refine LeO.ite ?_ ?_)
      | (with_reducible refine LeO.bind ?_ (fun _ => ?_))
      | exact colophonref03_Mirror.mono _ _
      | exact LeO.none _
      | refine LeO.ite ?_ ?_
      | refine LeO.bind ?_ (fun _ => ?_)
set_option maxHeartbeats 8000000 in
set_option maxRecDepth 100000 in
theorem colophonref14_Glyph.calls (k : Nat) (a0 : Int) (a1 : Int) (r : Int) (w : World) (h : colophonref14_Glyph.f k a0 a1 = some r) :
    Calls Try.prog 38 #[.int .i32 a0, .int .i64 a1] w fun e w' => e = .returned (.int .i32 r) ∧ Below w.heap.size w w' := by
  have HB := Aside0.mk (Below.refl w.heap.size w)
  have H : ((colophonref03_Mirror.f k a0).bind fun bt440 => (if bt440.2 = true then (if a1 ≥ 0 then (if (Int.tmod a1 2) = 1 then (some bt440.1) else (some a0)) else (some a0)) else (some a0))) = some r := h
  clear h
  replace H := Option.bind_eq_some_iff.mp H
  obtain ⟨⟨t440, t441⟩, A30, H⟩ := H
  replace H : (if t441 = true then (if a1 ≥ 0 then (if (Int.tmod a1 2) = 1 then (some t440) else (some a0)) else (some a0)) else (some a0)) = some r := H
  have A3 := Aside0.mk A30
  clear A30
  by_cases c4 : t441 = true
  · subst c4
    have H1 : (if a1 ≥ 0 then (if (Int.tmod a1 2) = 1 then (some t440) else (some a0)) else (some a0)) = some r := by rw [if_pos rfl] at H; exact H
    clear H
    have H := H1
    clear H1
    by_cases c5 : a1 ≥ 0
    · rw [if_pos c5] at H
      have c5b0 : decide (0 ≤ a1) = true := decide_eq_true c5
      clear c5
      by_cases c6 : (Int.tmod a1 2) = 1
      · rw [if_pos c6] at H
        have c6b0 : ((Int.tmod a1 2) == 1) = true := beq_iff_eq.mpr c6
        have c6b1 : ((Int.tmod a1 2) != 1) = false := bne_eq_false_iff_eq.mpr c6
        clear c6
        obtain rfl := Option.some.inj H
        go_enter Try.func38, Try.ntmps38
        go_wp2_with (first | ((with_reducible refine gate_callee (f := 60) rfl ?_); refine goesL_ (some 9) rfl rfl Try.func60 (by kernel_rfl) rfl #[.int .i32 a0] rfl (by (try simp only [List.map_toArray, List.map_cons, List.map_nil]); first | done | rfl | (simp only [List.length_drop, List.length_take]; rfl)) ?_; (with_reducible refine (colophonref03_Mirror.calls k a0 t440 true _ A3.out).mono ?_); rintro e w7 ⟨rfl, hb⟩; refine ⟨_, rfl, ?_⟩; have n0_ := Aside0.mk (below_step (by repeat (first | (with_reducible first | exact HB.out | apply below_alloc | apply pw_below_drewN | apply below_drew1) | exact HB.out)) hb); clear HB; have HB := n0_; clear n0_; (try clear hb); (try clear hb2); (try clear hk); (try clear hi)))
        go_ret
        exact ⟨by first | rfl | (simp [errW_none, errW_some] <;> rfl) | (simp [*, errW_none, errW_some] <;> rfl), by repeat (first | (with_reducible first | exact HB.out | apply below_alloc | apply pw_below_drewN | apply below_drew1) | exact HB.out)⟩
      · rw [if_neg c6] at H
        have c6b0 : ((Int.tmod a1 2) == 1) = false := beq_eq_false_iff_ne.mpr c6
        have c6b1 : ((Int.tmod a1 2) != 1) = true := bne_iff_ne.mpr c6
        obtain rfl := Option.some.inj H
        go_enter Try.func38, Try.ntmps38
        go_wp2_with (first | ((with_reducible refine gate_callee (f := 60) rfl ?_); refine goesL_ (some 9) rfl rfl Try.func60 (by kernel_rfl) rfl #[.int .i32 a0] rfl (by (try simp only [List.map_toArray, List.map_cons, List.map_nil]); first | done | rfl | (simp only [List.length_drop, List.length_take]; rfl)) ?_; (with_reducible refine (colophonref03_Mirror.calls k a0 t440 true _ A3.out).mono ?_); rintro e w8 ⟨rfl, hb⟩; refine ⟨_, rfl, ?_⟩; have n0_ := Aside0.mk (below_step (by repeat (first | (with_reducible first | exact HB.out | apply below_alloc | apply pw_below_drewN | apply below_drew1) | exact HB.out)) hb); clear HB; have HB := n0_; clear n0_; (try clear hb); (try clear hb2); (try clear hk); (try clear hi)))
        go_ret
        exact ⟨by first | rfl | (simp [errW_none, errW_some] <;> rfl) | (simp [*, errW_none, errW_some] <;> rfl), by repeat (first | (with_reducible first | exact HB.out | apply below_alloc | apply pw_below_drewN | apply below_drew1) | exact HB.out)⟩
    · rw [if_neg c5] at H
      have c5b0 : decide (0 ≤ a1) = false := decide_eq_false c5
      clear c5
      obtain rfl := Option.some.inj H
      go_enter Try.func38, Try.ntmps38
      go_wp2_with (first | ((with_reducible refine gate_callee (f := 60) rfl ?_); refine goesL_ (some 9) rfl rfl Try.func60 (by kernel_rfl) rfl #[.int .i32 a0] rfl (by (try simp only [List.map_toArray, List.map_cons, List.map_nil]); first | done | rfl | (simp only [List.length_drop, List.length_take]; rfl)) ?_; (with_reducible refine (colophonref03_Mirror.calls k a0 t440 true _ A3.out).mono ?_); rintro e w9 ⟨rfl, hb⟩; refine ⟨_, rfl, ?_⟩; have n0_ := Aside0.mk (below_step (by repeat (first | (with_reducible first | exact HB.out | apply below_alloc | apply pw_below_drewN | apply below_drew1) | exact HB.out)) hb); clear HB; have HB := n0_; clear n0_; (try clear hb); (try clear hb2); (try clear hk); (try clear hi)))
      go_ret
      exact ⟨by first | rfl | (simp [errW_none, errW_some] <;> rfl) | (simp [*, errW_none, errW_some] <;> rfl), by repeat (first | (with_reducible first | exact HB.out | apply below_alloc | apply pw_below_drewN | apply below_drew1) | exact HB.out)⟩
  · replace c4 := Bool.eq_false_iff.mpr c4
    subst c4
    have H1 : (some a0) = some r := by rw [if_neg (show ¬ (false = true) by decide)] at H; exact H
    clear H
    have H := H1
    clear H1
    obtain rfl := Option.some.inj H
    go_enter Try.func38, Try.ntmps38
    go_wp2_with (first | ((with_reducible refine gate_callee (f := 60) rfl ?_); refine goesL_ (some 9) rfl rfl Try.func60 (by kernel_rfl) rfl #[.int .i32 a0] rfl (by (try simp only [List.map_toArray, List.map_cons, List.map_nil]); first | done | rfl | (simp only [List.length_drop, List.length_take]; rfl)) ?_; (with_reducible refine (colophonref03_Mirror.calls k a0 t440 false _ A3.out).mono ?_); rintro e w10 ⟨rfl, hb⟩; refine ⟨_, rfl, ?_⟩; have n0_ := Aside0.mk (below_step (by repeat (first | (with_reducible first | exact HB.out | apply below_alloc | apply pw_below_drewN | apply below_drew1) | exact HB.out)) hb); clear HB; have HB := n0_; clear n0_; (try clear hb); (try clear hb2); (try clear hk); (try clear hi)))
    go_ret
    exact ⟨by first | rfl | (simp [errW_none, errW_some] <;> rfl) | (simp [*, errW_none, errW_some] <;> rfl), by repeat (first | (with_reducible first | exact HB.out | apply below_alloc | apply pw_below_drewN | apply below_drew1) | exact HB.out)⟩

/-! ### mirror_joined: function 61 -/
def mirror_joined.l0 : Nat → List Int → List (List Int) → Int → Int → Option (List Int)
  | 0, _, _, _, _ => none
  | k + 1, x3, x6, x7, x8 => if x8 < x7 then (if 0 ≤ x8 then (if x8 < (x6.length : Int) then (if x3.length + (rd_L4 x6 x8).length < 35184372088832 then (mirror_joined.l0 k (x3 ++ (rd_L4 x6 x8)) x6 x7 (wrap64 (x8 + 1))) else (none)) else (none)) else (none)) else (some x3)
def mirror_joined.f (k : Nat) (l0 : List (List Int)) : Option (List Int) := mirror_joined.l0 k ([] : List Int) l0 (l0.length : Int) 0
theorem mirror_joined.mono_l : ∀ k, (∀ y0 y1 y2 y3, LeO (mirror_joined.l0 k y0 y1 y2 y3) (mirror_joined.l0 (k + 1) y0 y1 y2 y3))
  | 0 => fun _ _ _ _ r h => by simp [mirror_joined.l0] at h
  | k + 1 => by
    have ih0 := mirror_joined.mono_l k
    · intro y0 y1 y2 y3
      unfold mirror_joined.l0
      repeat' first
      | (with_reducible exact ih0 _ _ _ _)
      | (with_reducible exact LeO.refl _)
      | (with_reducible exact LeO.none _)
      | (with_reducible refine LeO.ite ?_ ?_)
      | (with_reducible refine LeO.bind ?_ (fun _ => ?_))
      | exact ih0 _ _ _ _
      | exact LeO.none _
      | refine LeO.ite ?_ ?_
      | refine LeO.bind ?_ (fun _ => ?_)
theorem mirror_joined.mono : ∀ a0 k, LeO (mirror_joined.f k a0) (mirror_joined.f (k + 1) a0) := by
  intro a0 k
  have ih0 := mirror_joined.mono_l k
  unfold mirror_joined.f
  repeat' first
      | (with_reducible exact ih0 _ _ _ _)
      | (with_reducible exact LeO.refl _)
      | (with_reducible exact LeO.none _)
      | (with_reducible refine LeO.ite ?_ ?_)
      | (with_reducible refine LeO.bind ?_ (fun _ => ?_))
      | exact ih0 _ _ _ _
      | exact LeO.none _
      | refine LeO.ite ?_ ?_
      | refine LeO.bind ?_ (fun _ => ?_)
set_option maxHeartbeats 8000000 in
set_option maxRecDepth 100000 in
theorem mirror_joined.calls (k : Nat) (A0 : Option Addr) (c0 : Nat) (l0 : List (List Int)) (r : List Int) (w : World) (hr0 : Kd.C (Kd.slice 21 (Kd.int .i32)) w A0 l0.length l0) (hc0 : l0.length ≤ c0) (h : mirror_joined.f k l0 = some r) :
    Calls Try.prog 61 #[.slice A0 l0.length c0] w fun e w' => ∃ v0_ : Value, e = .returned (v0_) ∧ Kd.R (Kd.int .i32) 21 w' w.heap.size (fun _ => True) v0_ r ∧ Below w.heap.size w w' := by
  have HR0 := Aside0.mk hr0
  have HC0 := Aside0.mk hc0
  clear hr0 hc0
  have HB := Aside0.mk (Below.refl w.heap.size w)
  have H : (mirror_joined.l0 k ([] : List Int) l0 (l0.length : Int) 0) = some r := h
  clear h
  have H' := Aside0.mk H
  clear H
  go_enter Try.func61, Try.ntmps61
  go_wp2
  go_loopg [3, 8] k (fun kq v3 v8 w' => ∃ (x3_1 : List Int) (x8_1 : Int), v8 = .int .i64 x8_1 ∧ Aside0 (mirror_joined.l0 kq x3_1 l0 (l0.length : Int) x8_1 = some r) ∧ Aside0 (kq ≤ k) ∧ Aside0 (Kd.R (Kd.int .i32) 21 w' w.heap.size (fun _ => True) v3 x3_1) ∧ Aside0 (Below w.heap.size w w'))
  case atStart => exact ⟨(([] : List Int)), (0), (by first | rfl | (simp; done) | (simp [*]; done)), H', ⟨Nat.le_refl _⟩, ⟨by first | exact Kd.R_nil _ _ _ _ _ | exact Kd.N_nil _ _ _ _ _ | exact Kd.V_nil _ _ _ _ _ | exact Kd.Q_nil _ _ _ _ _ | exact Kd.S_nil _ _ _ _ _⟩, ⟨by repeat (first | (with_reducible first | exact HB.out | apply below_alloc | apply pw_below_drewN | apply below_drew1) | exact HB.out)⟩⟩
  case round =>
    clear H'
    obtain ⟨x3_1, x8_1, rfl, HA, HK1, HO_3, HB⟩ := hrel
    cases gk with
    | zero => exact absurd HA.out (by simp [mirror_joined.l0])
    | succ k1 =>
      have H := HA.out
      clear HA
      simp only [mirror_joined.l0] at H
      by_cases c2 : x8_1 < (l0.length : Int)
      · rw [if_pos c2] at H
        have c2b0 : decide (x8_1 < (l0.length : Int)) = true := decide_eq_true c2
        clear c2
        by_cases c3 : 0 ≤ x8_1
        · rw [if_pos c3] at H
          have c3b0 : decide (0 ≤ x8_1) = true := decide_eq_true c3
          clear c3
          by_cases c4 : x8_1 < (l0.length : Int)
          · rw [if_pos c4] at H
            have c4b0 : decide (x8_1 < (l0.length : Int)) = true := decide_eq_true c4
            clear c4
            by_cases c5 : x3_1.length + (rd_L4 l0 x8_1).length < 35184372088832
            · rw [if_pos c5] at H
              have LMc5 := Aside0.mk c5
              clear c5
              obtain ⟨y443, hy443⟩ : ∃ y_ : List Int, y_ = (x3_1 ++ (rd_L4 l0 x8_1)) := ⟨_, rfl⟩
              replace H : (mirror_joined.l0 k1 y443 l0 (l0.length : Int) (wrap64 (x8_1 + 1))) = some r := by first | (rw [hy443]; with_reducible exact H) | (have H2_ := (Option.bind_some _ _).symm.trans H; rw [hy443]; with_reducible exact H2_) | (have H2_ := (Option.bind_some _ _).symm.trans H; with_reducible exact H2_) | with_reducible exact H | (rw [hy443]; exact H) | exact H
              have Ny443 := Aside0.mk hy443
              clear hy443
              have H' := Aside0.mk H
              clear H
              have p442 : 0 ≤ (x8_1 : Int) := of_decide_eq_true (by first | (with_reducible assumption) | assumption)
              have q442 : x8_1 < (l0.length : Int) := of_decide_eq_true (by first | (with_reducible assumption) | assumption)
              obtain ⟨ad442, A442_0, c442_0, e442, hx442_0, hl442_0, hi442_0⟩ := at_L4 HR0.out x8_1 p442 q442
              cases e442
              replace hx442_0 := (HB.out.cell (World.block_lt_of_cell? w _ hx442_0)).trans hx442_0
              have HR442_0 := Aside0.mk hi442_0
              have HC442_0 := Aside0.mk hl442_0
              clear hi442_0 hl442_0
              replace p442 := eq_true p442
              replace q442 := eq_true q442
              go_wp2_with (first | ((with_reducible refine gate_builtin (b := .append) (xs := #[.tmp 12, .tmp 13]) rfl ?_); at_builtin; refine Kd.R_append_rows (Kd.int .i32) (w0 := w) w.heap.size rfl (.tmp 12) (.tmp 13) 49 21 (.int .i32 0) 4 rfl Try.underlying49 info21 rfl (by decide) (by omega) u3 x3_1 (rd_L4 l0 x8_1) _ _ _ (fun _ => True) (fun _ => False) rfl rfl ?aO ?aR (fun _ _ h => h) (fun _ h => h.elim) ?aF ?aB ?aS ?aL ?_; (case aR => repeat (first | exact (Kd.C_below HR442_0.out HB.out) | (with_reducible refine Kd.C_alloc ?_ _) | (with_reducible refine Kd.C_drewN ?_ _) | (with_reducible refine Kd.C_drew ?_))); (case aB => exact (by repeat (first | (with_reducible first | exact HB.out | apply below_alloc | apply pw_below_drewN | apply below_drew1) | exact HB.out))); (case aF => exact (fun _ _ => trivial)); (case aO => exact (by (with_reducible repeat (first | apply Kd.R_alloc | apply Kd.R_drewN | apply Kd.R_drew)); exact HO_3.out)); (case aS => exact (below_size (by repeat (first | (with_reducible first | exact HB.out | apply below_alloc | apply pw_below_drewN | apply below_drew1) | exact HB.out)))); (case aL => have := LMc5.out; omega); intro v444 w6 ho hb hg hat; rw [← Ny443.out] at ho; have n0_ := Aside0.mk (hb); have n1_ := Aside0.mk (ho); clear HB; clear HO_3; have HB := n0_; have HO445 := n1_; clear n0_ n1_; clear ho hb hg hat))
              go_roundg k1
              case measure => have := HK1.out; omega
              case rel => exact ⟨(y443), (wrap64 (x8_1 + 1)), (by first | rfl | (simp; done) | (simp [*]; done)), H', ⟨by have := HK1.out; omega⟩, ⟨by (with_reducible repeat (first | apply Kd.R_alloc | apply Kd.R_drewN | apply Kd.R_drew)); exact HO445.out⟩, ⟨by repeat (first | (with_reducible first | exact HB.out | apply below_alloc | apply pw_below_drewN | apply below_drew1) | exact HB.out)⟩⟩
            · rw [if_neg c5] at H
              exact absurd H (by simp)
          · rw [if_neg c4] at H
            exact absurd H (by simp)
        · rw [if_neg c3] at H
          exact absurd H (by simp)
      · rw [if_neg c2] at H
        have c2b0 : decide (x8_1 < (l0.length : Int)) = false := decide_eq_false c2
        clear c2
        obtain rfl := Option.some.inj H
        go_wp2
        go_ret
        exact ⟨_, by first | rfl | (simp [errW_none, errW_some] <;> rfl) | (simp [*, errW_none, errW_some] <;> rfl), by (with_reducible repeat (first | apply Kd.R_alloc | apply Kd.R_drewN | apply Kd.R_drew)); exact HO_3.out, by repeat (first | (with_reducible first | exact HB.out | apply below_alloc | apply pw_below_drewN | apply below_drew1) | exact HB.out)⟩

end Go.Proofs.Ytccleelhheilnaa.F
