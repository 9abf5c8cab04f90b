-- PRINTED by print.py (a twelfth state) out of the translation. Not trusted: Lean checks it.
import Derived.Test.YtenjldfflkinkaaFx0
namespace Go.Proofs.Ytenjldfflkinkaa.F
open Go.RowKit Go.Proofs.YtenjldfflkinkaaW.PrintWords Go.Proofs.YtenjldfflkinkaaW.PrintLast Go.Proofs.YtenjldfflkinkaaW.PrintMore
attribute [local go_sem] max2_int min2_int max_two min_two max_three min_three max_four min_four   -- for this text's walks alone
set_option linter.unusedVariables false
set_option linter.unusedSimpArgs false

-- GIVEN: function 67 (ucd_Class)

-- NOT PRINTED: function 59 (rope_made)

-- NOT PRINTED: function 34 (rope_grown)

-- NOT PRINTED: function 10 (rope_New)

-- NOT PRINTED: function 45 (rope_Rope_none)

-- NOT PRINTED: function 17 (rope_Rope_Len)

-- NOT PRINTED: function 21 (rope_Rope_All)

-- NOT PRINTED: function 23 (rope_Rope_Breaks)

/-! ### colophonref01_Size: function 83 -/
def colophonref01_Size.j0 : Nat → Int → Bool → Option (Int)
  | 0, _, _ => none
  | k + 1, x3, x19 => if x19 = true then (some 0) else (if x3 < 128 then (some 1) else (if x3 < 2048 then (some 2) else (if x3 < 65536 then (some 3) else (some 4))))
def colophonref01_Size.f (k : Nat) (a0 : Int) : Option (Int) := if (wrap64 (a0)) < 0 then (colophonref01_Size.j0 k (wrap64 (a0)) true) else (if (wrap64 (a0)) > 1114111 then (colophonref01_Size.j0 k (wrap64 (a0)) true) else (if (wrap64 (a0)) ≥ 55296 then (colophonref01_Size.j0 k (wrap64 (a0)) (decide ((wrap64 (a0)) ≤ 57343))) else (colophonref01_Size.j0 k (wrap64 (a0)) false)))
theorem colophonref01_Size.mono_l : ∀ k, (∀ y0 y1, LeO (colophonref01_Size.j0 k y0 y1) (colophonref01_Size.j0 (k + 1) y0 y1))
  | 0 => fun _ _ r h => by simp [colophonref01_Size.j0] at h
  | k + 1 => by
    have ih0 := colophonref01_Size.mono_l k
    · intro y0 y1
      unfold colophonref01_Size.j0
      repeat' first
      | (with_reducible exact ih0 _ _)
      | (with_reducible exact LeO.refl _)
      | (with_reducible exact LeO.none _)
      | (with_reducible refine LeO.ite ?_ ?_)
      | (with_reducible refine LeO.bind ?_ (fun _ => ?_))
      | exact ih0 _ _
      | exact LeO.none _
      | refine LeO.ite ?_ ?_
      | refine LeO.bind ?_ (fun _ => ?_)
theorem colophonref01_Size.mono : ∀ a0 k, LeO (colophonref01_Size.f k a0) (colophonref01_Size.f (k + 1) a0) := by
  intro a0 k
  have ih0 := colophonref01_Size.mono_l k
  unfold colophonref01_Size.f
  repeat' first
      | (with_reducible exact ih0 _ _)
      | (with_reducible exact LeO.refl _)
      | (with_reducible exact LeO.none _)
      | (with_reducible refine LeO.ite ?_ ?_)
      | (with_reducible refine LeO.bind ?_ (fun _ => ?_))
      | exact ih0 _ _
      | exact LeO.none _
      | refine LeO.ite ?_ ?_
      | refine LeO.bind ?_ (fun _ => ?_)
set_option maxHeartbeats 8000000 in
set_option maxRecDepth 100000 in
theorem colophonref01_Size.calls (k : Nat) (a0 : Int) (r : Int) (w : World) (h : colophonref01_Size.f k a0 = some r) :
    Calls Try.prog 83 #[.int .i32 a0] w fun e w' => e = .returned (.int .i64 r) ∧ Drawn0 w w' := by
  have H : (if (wrap64 (a0)) < 0 then (colophonref01_Size.j0 k (wrap64 (a0)) true) else (if (wrap64 (a0)) > 1114111 then (colophonref01_Size.j0 k (wrap64 (a0)) true) else (if (wrap64 (a0)) ≥ 55296 then (colophonref01_Size.j0 k (wrap64 (a0)) (decide ((wrap64 (a0)) ≤ 57343))) else (colophonref01_Size.j0 k (wrap64 (a0)) false)))) = some r := h
  clear h
  have HC2 := Aside0.mk H
  clear H
  go_enter Try.func83, Try.ntmps83
  go_upto_region 2 with (fail)
  go_cut [19] (fun v19 wc => ∃ (kq : Nat) (x19_1 : Bool), v19 = .bool x19_1 ∧ Aside0 (colophonref01_Size.j0 kq (wrap64 (a0)) x19_1 = some r) ∧ Aside0 (kq ≤ k) ∧ Drawn0 w wc)
  case first =>
    have H := HC2.out
    clear HC2
    by_cases c3 : (wrap64 (a0)) < 0
    · rw [if_pos c3] at H
      have c3b0 : decide ((wrap64 (a0)) < 0) = true := decide_eq_true c3
      clear c3
      (first | rw [c3b0] | (simp only [i64_w, i32_w]; rw [c3b0]) | skip)
      have H' := Aside0.mk H
      clear H
      go_wp2
      go_meet
      case rel => exact ⟨_, (true), (by first | rfl | (simp; done) | (simp [*]; done)), H', ⟨by first | omega | exact Nat.le_refl _⟩, by repeat (first | exact Drawn0.refl _ | apply Drawn0.step)⟩
    · rw [if_neg c3] at H
      have c3b0 : decide ((wrap64 (a0)) < 0) = false := decide_eq_false c3
      clear c3
      (first | rw [c3b0] | (simp only [i64_w, i32_w]; rw [c3b0]) | skip)
      by_cases c4 : (wrap64 (a0)) > 1114111
      · rw [if_pos c4] at H
        have c4b0 : decide (1114111 < (wrap64 (a0))) = true := decide_eq_true c4
        clear c4
        have H' := Aside0.mk H
        clear H
        go_wp2
        go_meet
        case rel => exact ⟨_, (true), (by first | rfl | (simp; done) | (simp [*]; done)), H', ⟨by first | omega | exact Nat.le_refl _⟩, by repeat (first | exact Drawn0.refl _ | apply Drawn0.step)⟩
      · rw [if_neg c4] at H
        have c4b0 : decide (1114111 < (wrap64 (a0))) = false := decide_eq_false c4
        clear c4
        by_cases c5 : (wrap64 (a0)) ≥ 55296
        · rw [if_pos c5] at H
          have c5b0 : decide (55296 ≤ (wrap64 (a0))) = true := decide_eq_true c5
          clear c5
          have H' := Aside0.mk H
          clear H
          go_wp2
          go_meet
          case rel => exact ⟨_, (decide ((wrap64 (a0)) ≤ 57343)), (by first | rfl | (simp; done) | (simp [*]; done)), H', ⟨by first | omega | exact Nat.le_refl _⟩, by repeat (first | exact Drawn0.refl _ | apply Drawn0.step)⟩
        · rw [if_neg c5] at H
          have c5b0 : decide (55296 ≤ (wrap64 (a0))) = false := decide_eq_false c5
          clear c5
          have H' := Aside0.mk H
          clear H
          go_wp2
          go_meet
          case rel => exact ⟨_, (false), (by first | rfl | (simp; done) | (simp [*]; done)), H', ⟨by first | omega | exact Nat.le_refl _⟩, by repeat (first | exact Drawn0.refl _ | apply Drawn0.step)⟩
  case rest =>
    clear HC2
    try clear p2
    try clear c3
    try clear c3b0
    try clear c4
    try clear c4b0
    try clear c5
    try clear c5b0
    obtain ⟨kq, x19_1, rfl, HA, HJ1, ⟨mc1, rfl⟩⟩ := hcut
    cases kq with
    | zero => exact absurd HA.out (by simp [colophonref01_Size.j0])
    | succ kj1 =>
      have H := HA.out
      clear HA
      simp only [colophonref01_Size.j0] at H
      by_cases c6 : x19_1 = true
      · subst c6
        have H1 : (some 0) = some r := by rw [if_pos rfl] at H; exact H
        clear H
        have H := H1
        clear H1
        obtain rfl := Option.some.inj H
        go_wp2
        go_ret
        exact ⟨by first | rfl | (simp; done) | (simp [*]; done), by repeat (first | exact Drawn0.refl _ | apply Drawn0.step)⟩
      · replace c6 := Bool.eq_false_iff.mpr c6
        subst c6
        have H1 : (if (wrap64 (a0)) < 128 then (some 1) else (if (wrap64 (a0)) < 2048 then (some 2) else (if (wrap64 (a0)) < 65536 then (some 3) else (some 4)))) = some r := by rw [if_neg (show ¬ (false = true) by decide)] at H; exact H
        clear H
        have H := H1
        clear H1
        by_cases c7 : (wrap64 (a0)) < 128
        · rw [if_pos c7] at H
          have c7b0 : decide ((wrap64 (a0)) < 128) = true := decide_eq_true c7
          clear c7
          obtain rfl := Option.some.inj H
          go_wp2
          go_ret
          exact ⟨by first | rfl | (simp; done) | (simp [*]; done), by repeat (first | exact Drawn0.refl _ | apply Drawn0.step)⟩
        · rw [if_neg c7] at H
          have c7b0 : decide ((wrap64 (a0)) < 128) = false := decide_eq_false c7
          clear c7
          by_cases c8 : (wrap64 (a0)) < 2048
          · rw [if_pos c8] at H
            have c8b0 : decide ((wrap64 (a0)) < 2048) = true := decide_eq_true c8
            clear c8
            obtain rfl := Option.some.inj H
            go_wp2
            go_ret
            exact ⟨by first | rfl | (simp; done) | (simp [*]; done), by repeat (first | exact Drawn0.refl _ | apply Drawn0.step)⟩
          · rw [if_neg c8] at H
            have c8b0 : decide ((wrap64 (a0)) < 2048) = false := decide_eq_false c8
            clear c8
            by_cases c9 : (wrap64 (a0)) < 65536
            · rw [if_pos c9] at H
              have c9b0 : decide ((wrap64 (a0)) < 65536) = true := decide_eq_true c9
              clear c9
              obtain rfl := Option.some.inj H
              go_wp2
              go_ret
              exact ⟨by first | rfl | (simp; done) | (simp [*]; done), by repeat (first | exact Drawn0.refl _ | apply Drawn0.step)⟩
            · rw [if_neg c9] at H
              have c9b0 : decide ((wrap64 (a0)) < 65536) = false := decide_eq_false c9
              clear c9
              obtain rfl := Option.some.inj H
              go_wp2
              go_ret
              exact ⟨by first | rfl | (simp; done) | (simp [*]; done), by repeat (first | exact Drawn0.refl _ | apply Drawn0.step)⟩

end Go.Proofs.Ytenjldfflkinkaa.F
