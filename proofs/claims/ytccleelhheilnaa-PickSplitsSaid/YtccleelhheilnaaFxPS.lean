-- PRINTED by print.py (a twelfth state) out of the translation. Not trusted: Lean checks it.
import Derived.Test.YtccleelhheilnaaFx0
import Derived.Test.YtccleelhheilnaaFx29
import Derived.Test.YtccleelhheilnaaFGPRuns
namespace Go.Proofs.Ytccleelhheilnaa.F
open Go.RowKit Go.Proofs.YtccleelhheilnaaW.PrintWords Go.Proofs.YtccleelhheilnaaW.PrintLast Go.Proofs.YtccleelhheilnaaW.PrintMore
attribute [local go_sem] max2_int min2_int max_two min_two max_three min_three max_four min_four   -- for this text's walks alone
set_option linter.unusedVariables false
set_option linter.unusedSimpArgs false

/-! ### colophonlaw16_PickSplits: function 27 -/
mutual
def colophonlaw16_PickSplits.j0 : Nat → List Int → List (S45) → List (S45) → List (S45) → Int → Bool → Option (Bool)
  | 0, _, _, _, _, _, _ => none
  | k + 1, x0, x9, x11, x13, x14, x54 => if x54 = true then (some true) else (if x14 = 0 then (if 0 ≤ (x0.length : Int) then (if ((x0.length : Int) : Int).toNat ≤ 35184372088832 then ((some (([x9, x11] : List (List (S45))) : List (List (S45)))).bind fun y274 => (colophonlaw16_PickSplits.l0 k x13 (List.replicate ((x0.length : Int) : Int).toNat 0) y274 (y274.length : Int) 0)) else (none)) else (none)) else (some false))
def colophonlaw16_PickSplits.l0 : Nat → List (S45) → List Int → List (List (S45)) → Int → Int → Option (Bool)
  | 0, _, _, _, _, _ => none
  | k + 1, x13, x15, x62, x63, x64 => if x64 < x63 then (if 0 ≤ x64 then (if x64 < (x62.length : Int) then (colophonlaw16_PickSplits.l1 k x13 x15 x62 x63 x64 (rd_L6 x62 x64) ((rd_L6 x62 x64).length : Int) 0) else (none)) else (none)) else (colophonlaw16_PickSplits.l3 k x15 x13 (x13.length : Int) 0)
def colophonlaw16_PickSplits.l1 : Nat → List (S45) → List Int → List (List (S45)) → Int → Int → List (S45) → Int → Int → Option (Bool)
  | 0, _, _, _, _, _, _, _, _ => none
  | k + 1, x13, x15, x62, x63, x64, x68, x69, x70 => if x70 < x69 then (if 0 ≤ x70 then (if x70 < (x68.length : Int) then (colophonlaw16_PickSplits.l2 k x13 x15 (mx 0 ((rd_T45 x68 x70).f0)) x62 x63 x64 x68 x69 x70 ((rd_T45 x68 x70).f0) ((rd_T45 x68 x70).f1)) else (none)) else (none)) else (colophonlaw16_PickSplits.l0 k x13 x15 x62 x63 (wrap64 (x64 + 1)))
def colophonlaw16_PickSplits.l2 : Nat → List (S45) → List Int → Int → List (List (S45)) → Int → Int → List (S45) → Int → Int → Int → Int → Option (Bool)
  | 0, _, _, _, _, _, _, _, _, _, _, _ => none
  | k + 1, x13, x15, x20, x62, x63, x64, x68, x69, x70, x280000, x280001 => if x20 < x280001 then (if x20 < (x15.length : Int) then (if 0 ≤ x20 then (colophonlaw16_PickSplits.l2 k x13 (x15.set (x20 : Int).toNat (wrap64 ((rd x15 x20) + 1))) (wrap64 (x20 + 1)) x62 x63 x64 x68 x69 x70 x280000 x280001) else (none)) else (colophonlaw16_PickSplits.l1 k x13 x15 x62 x63 x64 x68 x69 (wrap64 (x70 + 1)))) else (colophonlaw16_PickSplits.l1 k x13 x15 x62 x63 x64 x68 x69 (wrap64 (x70 + 1)))
def colophonlaw16_PickSplits.l3 : Nat → List Int → List (S45) → Int → Int → Option (Bool)
  | 0, _, _, _, _ => none
  | k + 1, x15, x97, x98, x99 => if x99 < x98 then (if 0 ≤ x99 then (if x99 < (x97.length : Int) then (colophonlaw16_PickSplits.l4 k x15 (mx 0 ((rd_T45 x97 x99).f0)) x97 x98 x99 ((rd_T45 x97 x99).f0) ((rd_T45 x97 x99).f1)) else (none)) else (none)) else (colophonlaw16_PickSplits.l5 k x15 (x15.length : Int) 0)
def colophonlaw16_PickSplits.l4 : Nat → List Int → Int → List (S45) → Int → Int → Int → Int → Option (Bool)
  | 0, _, _, _, _, _, _, _ => none
  | k + 1, x15, x23, x97, x98, x99, x284000, x284001 => if x23 < x284001 then (if x23 < (x15.length : Int) then (if 0 ≤ x23 then (colophonlaw16_PickSplits.l4 k (x15.set (x23 : Int).toNat (wrap64 ((rd x15 x23) + 10))) (wrap64 (x23 + 1)) x97 x98 x99 x284000 x284001) else (none)) else (colophonlaw16_PickSplits.l3 k x15 x97 x98 (wrap64 (x99 + 1)))) else (colophonlaw16_PickSplits.l3 k x15 x97 x98 (wrap64 (x99 + 1)))
def colophonlaw16_PickSplits.l5 : Nat → List Int → Int → Int → Option (Bool)
  | 0, _, _, _ => none
  | k + 1, x125, x126, x127 => if x127 < x126 then (if 0 ≤ x127 then (if x127 < (x125.length : Int) then (if (rd x125 x127) = 0 then (colophonlaw16_PickSplits.l5 k x125 x126 (wrap64 (x127 + 1))) else (if (rd x125 x127) = 11 then (colophonlaw16_PickSplits.l5 k x125 x126 (wrap64 (x127 + 1))) else (some false))) else (none)) else (none)) else (some true)
end
def colophonlaw16_PickSplits.f (k : Nat) (l0 : List Int) (a1 : Int) (a2 : Int) (a3 : Int) : Option (Bool) := (colophonlaw16_works.f k).bind fun t258 => (if t258 = true then ((pick_Runs.f l0 a1 a2).bind fun bt259 => ((pick_Runs.f l0 a2 a3).bind fun bt263 => ((pick_Runs.f l0 a1 a3).bind fun bt267 => (if bt259.2 = 0 then (colophonlaw16_PickSplits.j0 k l0 bt259.1 bt263.1 bt267.1 bt267.2 (bt263.2 != 0)) else (colophonlaw16_PickSplits.j0 k l0 bt259.1 bt263.1 bt267.1 bt267.2 true))))) else (some false))
theorem colophonlaw16_PickSplits.mono_l : ∀ k, (∀ y0 y1 y2 y3 y4 y5, LeO (colophonlaw16_PickSplits.j0 k y0 y1 y2 y3 y4 y5) (colophonlaw16_PickSplits.j0 (k + 1) y0 y1 y2 y3 y4 y5)) ∧ (∀ y0 y1 y2 y3 y4, LeO (colophonlaw16_PickSplits.l0 k y0 y1 y2 y3 y4) (colophonlaw16_PickSplits.l0 (k + 1) y0 y1 y2 y3 y4)) ∧ (∀ y0 y1 y2 y3 y4 y5 y6 y7, LeO (colophonlaw16_PickSplits.l1 k y0 y1 y2 y3 y4 y5 y6 y7) (colophonlaw16_PickSplits.l1 (k + 1) y0 y1 y2 y3 y4 y5 y6 y7)) ∧ (∀ y0 y1 y2 y3 y4 y5 y6 y7 y8 y9 y10, LeO (colophonlaw16_PickSplits.l2 k y0 y1 y2 y3 y4 y5 y6 y7 y8 y9 y10) (colophonlaw16_PickSplits.l2 (k + 1) y0 y1 y2 y3 y4 y5 y6 y7 y8 y9 y10)) ∧ (∀ y0 y1 y2 y3, LeO (colophonlaw16_PickSplits.l3 k y0 y1 y2 y3) (colophonlaw16_PickSplits.l3 (k + 1) y0 y1 y2 y3)) ∧ (∀ y0 y1 y2 y3 y4 y5 y6, LeO (colophonlaw16_PickSplits.l4 k y0 y1 y2 y3 y4 y5 y6) (colophonlaw16_PickSplits.l4 (k + 1) y0 y1 y2 y3 y4 y5 y6)) ∧ (∀ y0 y1 y2, LeO (colophonlaw16_PickSplits.l5 k y0 y1 y2) (colophonlaw16_PickSplits.l5 (k + 1) y0 y1 y2))
  | 0 => ⟨fun _ _ _ _ _ _ r h => by simp [colophonlaw16_PickSplits.j0] at h, fun _ _ _ _ _ r h => by simp [colophonlaw16_PickSplits.l0] at h, fun _ _ _ _ _ _ _ _ r h => by simp [colophonlaw16_PickSplits.l1] at h, fun _ _ _ _ _ _ _ _ _ _ _ r h => by simp [colophonlaw16_PickSplits.l2] at h, fun _ _ _ _ r h => by simp [colophonlaw16_PickSplits.l3] at h, fun _ _ _ _ _ _ _ r h => by simp [colophonlaw16_PickSplits.l4] at h, fun _ _ _ r h => by simp [colophonlaw16_PickSplits.l5] at h⟩
  | k + 1 => by
    obtain ⟨ih0, ih1, ih2, ih3, ih4, ih5, ih6⟩ := colophonlaw16_PickSplits.mono_l k
    refine ⟨?_, ?_, ?_, ?_, ?_, ?_, ?_⟩
    · intro y0 y1 y2 y3 y4 y5
      unfold colophonlaw16_PickSplits.j0
      repeat' first
      | (with_reducible exact ih0 _ _ _ _ _ _)
      | (with_reducible exact ih1 _ _ _ _ _)
      | (with_reducible exact ih2 _ _ _ _ _ _ _ _)
      | (with_reducible exact ih3 _ _ _ _ _ _ _ _ _ _ _)
      | (with_reducible exact ih4 _ _ _ _)
      | (with_reducible exact ih5 _ _ _ _ _ _ _)
      | (with_reducible exact ih6 _ _ _)
      | (with_reducible exact colophonlaw16_works.mono _)
      | (with_reducible exact LeO.refl _)
      | (with_reducible exact LeO.none _)
      | (with_reducible refine LeO.ite ?_ ?_)
      | (with_reducible refine LeO.bind ?_ (fun _ => ?_))
      | exact ih0 _ _ _ _ _ _
      | exact ih1 _ _ _ _ _
      | exact ih2 _ _ _ _ _ _ _ _
      | exact ih3 _ _ _ _ _ _ _ _ _ _ _
      | exact ih4 _ _ _ _
      | exact ih5 _ _ _ _ _ _ _
      | exact ih6 _ _ _
      | exact colophonlaw16_works.mono _
      | exact LeO.none _
      | refine LeO.ite ?_ ?_
      | refine LeO.bind ?_ (fun _ => ?_)
    · intro y0 y1 y2 y3 y4
      unfold colophonlaw16_PickSplits.l0
      repeat' first
      | (with_reducible exact ih0 _ _ _ _ _ _)
      | (with_reducible exact ih1 _ _ _ _ _)
      | (with_reducible exact ih2 _ _ _ _ _ _ _ _)
      | (with_reducible exact ih3 _ _ _ _ _ _ _ _ _ _ _)
      | (with_reducible exact ih4 _ _ _ _)
      | (with_reducible exact ih5 _ _ _ _ _ _ _)
      | (with_reducible exact ih6 _ _ _)
      | (with_reducible exact colophonlaw16_works.mono _)
      | (with_reducible exact LeO.refl _)
      | (with_reducible exact LeO.none _)
      | (with_reducible refine LeO.ite ?_ ?_)
      | (with_reducible refine LeO.bind ?_ (fun _ => ?_))
      | exact ih0 _ _ _ _ _ _
      | exact ih1 _ _ _ _ _
      | exact ih2 _ _ _ _ _ _ _ _
      | exact ih3 _ _ _ _ _ _ _ _ _ _ _
      | exact ih4 _ _ _ _
      | exact ih5 _ _ _ _ _ _ _
      | exact ih6 _ _ _
      | exact colophonlaw16_works.mono _
      | exact LeO.none _
      | refine LeO.ite ?_ ?_
      | refine LeO.bind ?_ (fun _ => ?_)
    · intro y0 y1 y2 y3 y4 y5 y6 y7
      unfold colophonlaw16_PickSplits.l1
      repeat' first
      | (with_reducible exact ih0 _ _ _ _ _ _)
      | (with_reducible exact ih1 _ _ _ _ _)
      | (with_reducible exact ih2 _ _ _ _ _ _ _ _)
      | (with_reducible exact ih3 _ _ _ _ _ _ _ _ _ _ _)
      | (with_reducible exact ih4 _ _ _ _)
      | (with_reducible exact ih5 _ _ _ _ _ _ _)
      | (with_reducible exact ih6 _ _ _)
      | (with_reducible exact colophonlaw16_works.mono _)
      | (with_reducible exact LeO.refl _)
      | (with_reducible exact LeO.none _)
      | (with_reducible refine LeO.ite ?_ ?_)
      | (with_reducible refine LeO.bind ?_ (fun _ => ?_))
      | exact ih0 _ _ _ _ _ _
      | exact ih1 _ _ _ _ _
      | exact ih2 _ _ _ _ _ _ _ _
      | exact ih3 _ _ _ _ _ _ _ _ _ _ _
      | exact ih4 _ _ _ _
      | exact ih5 _ _ _ _ _ _ _
      | exact ih6 _ _ _
      | exact colophonlaw16_works.mono _
      | exact LeO.none _
      | refine LeO.ite ?_ ?_
      | refine LeO.bind ?_ (fun _ => ?_)
    · intro y0 y1 y2 y3 y4 y5 y6 y7 y8 y9 y10
      unfold colophonlaw16_PickSplits.l2
      repeat' first
      | (with_reducible exact ih0 _ _ _ _ _ _)
      | (with_reducible exact ih1 _ _ _ _ _)
      | (with_reducible exact ih2 _ _ _ _ _ _ _ _)
      | (with_reducible exact ih3 _ _ _ _ _ _ _ _ _ _ _)
      | (with_reducible exact ih4 _ _ _ _)
      | (with_reducible exact ih5 _ _ _ _ _ _ _)
      | (with_reducible exact ih6 _ _ _)
      | (with_reducible exact colophonlaw16_works.mono _)
      | (with_reducible exact LeO.refl _)
      | (with_reducible exact LeO.none _)
      | (with_reducible refine LeO.ite ?_ ?_)
      | (with_reducible refine LeO.bind ?_ (fun _ => ?_))
      | exact ih0 _ _ _ _ _ _
      | exact ih1 _ _ _ _ _
      | exact ih2 _ _ _ _ _ _ _ _
      | exact ih3 _ _ _ _ _ _ _ _ _ _ _
      | exact ih4 _ _ _ _
      | exact ih5 _ _ _ _ _ _ _
      | exact ih6 _ _ _
      | exact colophonlaw16_works.mono _
      | exact LeO.none _
      | refine LeO.ite ?_ ?_
      | refine LeO.bind ?_ (fun _ => ?_)
    · intro y0 y1 y2 y3
      unfold colophonlaw16_PickSplits.l3
      repeat' first
      | (with_reducible exact ih0 _ _ _ _ _ _)
      | (with_reducible exact ih1 _ _ _ _ _)
      | (with_reducible exact ih2 _ _ _ _ _ _ _ _)
      | (with_reducible exact ih3 _ _ _ _ _ _ _ _ _ _ _)
      | (with_reducible exact ih4 _ _ _ _)
      | (with_reducible exact ih5 _ _ _ _ _ _ _)
      | (with_reducible exact ih6 _ _ _)
      | (with_reducible exact colophonlaw16_works.mono _)
      | (with_reducible exact LeO.refl _)
      | (with_reducible exact LeO.none _)
      | (with_reducible refine LeO.ite ?_ ?_)
      | (with_reducible refine LeO.bind ?_ (fun _ => ?_))
      | exact ih0 _ _ _ _ _ _
      | exact ih1 _ _ _ _ _
      | exact ih2 _ _ _ _ _ _ _ _
      | exact ih3 _ _ _ _ _ _ _ _ _ _ _
      | exact ih4 _ _ _ _
      | exact ih5 _ _ _ _ _ _ _
      | exact ih6 _ _ _
      | exact colophonlaw16_works.mono _
      | exact LeO.none _
      | refine LeO.ite ?_ ?_
      | refine LeO.bind ?_ (fun _ => ?_)
    · intro y0 y1 y2 y3 y4 y5 y6
      unfold colophonlaw16_PickSplits.l4
      repeat' first
      | (with_reducible exact ih0 _ _ _ _ _ _)
      | (with_reducible exact ih1 _ _ _ _ _)
      | (with_reducible exact ih2 _ _ _ _ _ _ _ _)
      | (with_reducible exact ih3 _ _ _ _ _ _ _ _ _ _ _)
      | (with_reducible exact ih4 _ _ _ _)
      | (with_reducible exact ih5 _ _ _ _ _ _ _)
      | (with_reducible exact ih6 _ _ _)
      | (with_reducible exact colophonlaw16_works.mono _)
      | (with_reducible exact LeO.refl _)
      | (with_reducible exact LeO.none _)
      | (with_reducible refine LeO.ite ?_ ?_)
      | (with_reducible refine LeO.bind ?_ (fun _ => ?_))
      | exact ih0 _ _ _ _ _ _
      | exact ih1 _ _ _ _ _
      | exact ih2 _ _ _ _ _ _ _ _
      | exact ih3 _ _ _ _ _ _ _ _ _ _ _
      | exact ih4 _ _ _ _
      | exact ih5 _ _ _ _ _ _ _
      | exact ih6 _ _ _
      | exact colophonlaw16_works.mono _
      | exact LeO.none _
      | refine LeO.ite ?_ ?_
      | refine LeO.bind ?_ (fun _ => ?_)
    · intro y0 y1 y2
      unfold colophonlaw16_PickSplits.l5
      repeat' first
      | (with_reducible exact ih0 _ _ _ _ _ _)
      | (with_reducible exact ih1 _ _ _ _ _)
      | (with_reducible exact ih2 _ _ _ _ _ _ _ _)
      | (with_reducible exact ih3 _ _ _ _ _ _ _ _ _ _ _)
      | (with_reducible exact ih4 _ _ _ _)
      | (with_reducible exact ih5 _ _ _ _ _ _ _)
      | (with_reducible exact ih6 _ _ _)
      | (with_reducible exact colophonlaw16_works.mono _)
      | (with_reducible exact LeO.refl _)
      | (with_reducible exact LeO.none _)
      | (with_reducible refine LeO.ite ?_ ?_)
      | (with_reducible refine LeO.bind ?_ (fun _ => ?_))
      | exact ih0 _ _ _ _ _ _
      | exact ih1 _ _ _ _ _
      | exact ih2 _ _ _ _ _ _ _ _
      | exact ih3 _ _ _ _ _ _ _ _ _ _ _
      | exact ih4 _ _ _ _
      | exact ih5 _ _ _ _ _ _ _
      | exact ih6 _ _ _
      | exact colophonlaw16_works.mono _
      | exact LeO.none _
      | refine LeO.ite ?_ ?_
      | refine LeO.bind ?_ (fun _ => ?_)
theorem colophonlaw16_PickSplits.mono : ∀ a0 a1 a2 a3 k, LeO (colophonlaw16_PickSplits.f k a0 a1 a2 a3) (colophonlaw16_PickSplits.f (k + 1) a0 a1 a2 a3) := by
  intro a0 a1 a2 a3 k
  obtain ⟨ih0, ih1, ih2, ih3, ih4, ih5, ih6⟩ := colophonlaw16_PickSplits.mono_l k
  unfold colophonlaw16_PickSplits.f
  repeat' first
      | (with_reducible exact ih0 _ _ _ _ _ _)
      | (with_reducible exact ih1 _ _ _ _ _)
      | (with_reducible exact ih2 _ _ _ _ _ _ _ _)
      | (with_reducible exact ih3 _ _ _ _ _ _ _ _ _ _ _)
      | (with_reducible exact ih4 _ _ _ _)
      | (with_reducible exact ih5 _ _ _ _ _ _ _)
      | (with_reducible exact ih6 _ _ _)
      | (with_reducible exact colophonlaw16_works.mono _)
      | (with_reducible exact LeO.refl _)
      | (with_reducible exact LeO.none _)
      | (with_reducible refine LeO.ite ?_ ?_)
      | (with_reducible refine LeO.bind ?_ (fun _ => ?_))
      | exact ih0 _ _ _ _ _ _
      | exact ih1 _ _ _ _ _
      | exact ih2 _ _ _ _ _ _ _ _
      | exact ih3 _ _ _ _ _ _ _ _ _ _ _
      | exact ih4 _ _ _ _
      | exact ih5 _ _ _ _ _ _ _
      | exact ih6 _ _ _
      | exact colophonlaw16_works.mono _
      | exact LeO.none _
      | refine LeO.ite ?_ ?_
      | refine LeO.bind ?_ (fun _ => ?_)
set_option maxHeartbeats 8000000 in
set_option maxRecDepth 100000 in
theorem colophonlaw16_PickSplits.calls (k : Nat) (A0 : Option Addr) (c0 : Nat) (l0 : List Int) (a1 : Int) (a2 : Int) (a3 : Int) (r : Bool) (w : World) (hr0 : Kd.C (Kd.int .i64) w A0 l0.length l0) (hc0 : l0.length ≤ c0) (h : colophonlaw16_PickSplits.f k l0 a1 a2 a3 = some r) :
    Calls Try.prog 27 #[.slice A0 l0.length c0, .int .i64 a1, .int .i64 a2, .int .i64 a3] w fun e w' => e = .returned (.bool r) ∧ Below w.heap.size w w' := by
  have hu45 := Try.underlying45
  have HR0 := Aside0.mk hr0
  have HC0 := Aside0.mk hc0
  clear hr0 hc0
  have HB := Aside0.mk (Below.refl w.heap.size w)
  have H : ((colophonlaw16_works.f k).bind fun t258 => (if t258 = true then ((pick_Runs.f l0 a1 a2).bind fun bt259 => ((pick_Runs.f l0 a2 a3).bind fun bt263 => ((pick_Runs.f l0 a1 a3).bind fun bt267 => (if bt259.2 = 0 then (colophonlaw16_PickSplits.j0 k l0 bt259.1 bt263.1 bt267.1 bt267.2 (bt263.2 != 0)) else (colophonlaw16_PickSplits.j0 k l0 bt259.1 bt263.1 bt267.1 bt267.2 true))))) else (some false))) = some r := h
  clear h
  replace H := Option.bind_eq_some_iff.mp H
  obtain ⟨t258, A50, H⟩ := H
  replace H : (if t258 = true then ((pick_Runs.f l0 a1 a2).bind fun bt259 => ((pick_Runs.f l0 a2 a3).bind fun bt263 => ((pick_Runs.f l0 a1 a3).bind fun bt267 => (if bt259.2 = 0 then (colophonlaw16_PickSplits.j0 k l0 bt259.1 bt263.1 bt267.1 bt267.2 (bt263.2 != 0)) else (colophonlaw16_PickSplits.j0 k l0 bt259.1 bt263.1 bt267.1 bt267.2 true))))) else (some false)) = some r := H
  have A5 := Aside0.mk A50
  clear A50
  by_cases c6 : t258 = true
  · subst c6
    have H1 : ((pick_Runs.f l0 a1 a2).bind fun bt259 => ((pick_Runs.f l0 a2 a3).bind fun bt263 => ((pick_Runs.f l0 a1 a3).bind fun bt267 => (if bt259.2 = 0 then (colophonlaw16_PickSplits.j0 k l0 bt259.1 bt263.1 bt267.1 bt267.2 (bt263.2 != 0)) else (colophonlaw16_PickSplits.j0 k l0 bt259.1 bt263.1 bt267.1 bt267.2 true))))) = some r := by rw [if_pos rfl] at H; exact H
    clear H
    have H := H1
    clear H1
    replace H := Option.bind_eq_some_iff.mp H
    obtain ⟨⟨t259, t260⟩, A70, H⟩ := H
    replace H : ((pick_Runs.f l0 a2 a3).bind fun bt263 => ((pick_Runs.f l0 a1 a3).bind fun bt267 => (if t260 = 0 then (colophonlaw16_PickSplits.j0 k l0 t259 bt263.1 bt267.1 bt267.2 (bt263.2 != 0)) else (colophonlaw16_PickSplits.j0 k l0 t259 bt263.1 bt267.1 bt267.2 true)))) = some r := H
    have A7 := Aside0.mk A70
    clear A70
    replace H := Option.bind_eq_some_iff.mp H
    obtain ⟨⟨t263, t264⟩, A80, H⟩ := H
    replace H : ((pick_Runs.f l0 a1 a3).bind fun bt267 => (if t260 = 0 then (colophonlaw16_PickSplits.j0 k l0 t259 t263 bt267.1 bt267.2 (t264 != 0)) else (colophonlaw16_PickSplits.j0 k l0 t259 t263 bt267.1 bt267.2 true))) = some r := H
    have A8 := Aside0.mk A80
    clear A80
    replace H := Option.bind_eq_some_iff.mp H
    obtain ⟨⟨t267, t268⟩, A90, H⟩ := H
    replace H : (if t260 = 0 then (colophonlaw16_PickSplits.j0 k l0 t259 t263 t267 t268 (t264 != 0)) else (colophonlaw16_PickSplits.j0 k l0 t259 t263 t267 t268 true)) = some r := H
    have A9 := Aside0.mk A90
    clear A90
    have HC10 := Aside0.mk H
    clear H
    go_enter Try.func27, Try.ntmps27
    go_upto_region 6 with (first | ((with_reducible refine gate_callee (f := 52) rfl ?_); refine goesL_ (some 26) rfl rfl Try.func52 (by kernel_rfl) rfl #[] rfl (by (try simp only [List.map_toArray, List.map_cons, List.map_nil]); first | done | rfl | (simp only [List.length_drop, List.length_take]; rfl)) ?_; (with_reducible refine (colophonlaw16_works.calls k  true _ A5.out).mono ?_); rintro e w11 ⟨rfl, hb⟩; refine ⟨_, rfl, ?_⟩; have n0_ := Aside0.mk (below_step (by repeat (first | (with_reducible first | exact HB.out | apply below_alloc | apply pw_below_drewN | apply below_drew1) | exact HB.out)) hb); clear HB; have HB := n0_; clear n0_; (try clear hb); (try clear hb2); (try clear hk); (try clear hi)) | ((with_reducible refine gate_callee (f := 53) rfl ?_); refine goesL_ (some 32) rfl rfl Try.func53 (by kernel_rfl) rfl #[.slice A0 l0.length c0, .int .i64 a1, .int .i64 a2] rfl (by (try simp only [List.map_toArray, List.map_cons, List.map_nil]); first | done | rfl | (simp only [List.length_drop, List.length_take]; rfl)) ?_; (with_reducible refine (pick_Runs.calls _ _ l0 a1 a2 t259 t260 _ ?side1 ?side2 A7.out).mono ?_); (case side1 => repeat (first | exact (Kd.C_below HR0.out HB.out) | (with_reducible refine Kd.C_alloc ?_ _) | (with_reducible refine Kd.C_drewN ?_ _) | (with_reducible refine Kd.C_drew ?_))); (case side2 => exact HC0.out); rintro e w12 ⟨v261, rfl, ho0, hb⟩; refine ⟨_, rfl, ?_⟩; have n0_ := Aside0.mk (Kd.R_lower ho0 (below_size (by repeat (first | (with_reducible first | exact HB.out | apply below_alloc | apply pw_below_drewN | apply below_drew1) | exact HB.out)))); have n1_ := Aside0.mk (below_step (by repeat (first | (with_reducible first | exact HB.out | apply below_alloc | apply pw_below_drewN | apply below_drew1) | exact HB.out)) hb); clear HB; have HO262 := n0_; have HB := n1_; clear n0_ n1_; (try clear hb); (try clear hb2); (try clear hk); (try clear hi); (try clear ho0)) | ((with_reducible refine gate_callee (f := 53) rfl ?_); refine goesL_ (some 39) rfl rfl Try.func53 (by kernel_rfl) rfl #[.slice A0 l0.length c0, .int .i64 a2, .int .i64 a3] rfl (by (try simp only [List.map_toArray, List.map_cons, List.map_nil]); first | done | rfl | (simp only [List.length_drop, List.length_take]; rfl)) ?_; (with_reducible refine (pick_Runs.calls _ _ l0 a2 a3 t263 t264 _ ?side1 ?side2 A8.out).mono ?_); (case side1 => repeat (first | exact (Kd.C_below HR0.out HB.out) | (with_reducible refine Kd.C_alloc ?_ _) | (with_reducible refine Kd.C_drewN ?_ _) | (with_reducible refine Kd.C_drew ?_))); (case side2 => exact HC0.out); rintro e w13 ⟨v265, rfl, ho0, hb⟩; refine ⟨_, rfl, ?_⟩; have n0_ := Aside0.mk (Kd.R_elder' (by (with_reducible repeat (first | apply Kd.R_alloc | apply Kd.R_drewN | apply Kd.R_drew)); exact HO262.out) (Kd.R_base ho0) hb); have n1_ := Aside0.mk (Kd.R_lower (Kd.R_new' ho0 (Kd.R_lt (by (with_reducible repeat (first | apply Kd.R_alloc | apply Kd.R_drewN | apply Kd.R_drew)); exact HO262.out))) (below_size (by repeat (first | (with_reducible first | exact HB.out | apply below_alloc | apply pw_below_drewN | apply below_drew1) | exact HB.out)))); have n2_ := Aside0.mk (below_step (by repeat (first | (with_reducible first | exact HB.out | apply below_alloc | apply pw_below_drewN | apply below_drew1) | exact HB.out)) hb); clear HO262; clear HB; have HO262 := n0_; have HO266 := n1_; have HB := n2_; clear n0_ n1_ n2_; (try clear hb); (try clear hb2); (try clear hk); (try clear hi); (try clear ho0)) | ((with_reducible refine gate_callee (f := 53) rfl ?_); refine goesL_ (some 46) rfl rfl Try.func53 (by kernel_rfl) rfl #[.slice A0 l0.length c0, .int .i64 a1, .int .i64 a3] rfl (by (try simp only [List.map_toArray, List.map_cons, List.map_nil]); first | done | rfl | (simp only [List.length_drop, List.length_take]; rfl)) ?_; (with_reducible refine (pick_Runs.calls _ _ l0 a1 a3 t267 t268 _ ?side1 ?side2 A9.out).mono ?_); (case side1 => repeat (first | exact (Kd.C_below HR0.out HB.out) | (with_reducible refine Kd.C_alloc ?_ _) | (with_reducible refine Kd.C_drewN ?_ _) | (with_reducible refine Kd.C_drew ?_))); (case side2 => exact HC0.out); rintro e w14 ⟨v269, rfl, ho0, hb⟩; refine ⟨_, rfl, ?_⟩; have n0_ := Aside0.mk (Kd.R_elder' (by (with_reducible repeat (first | apply Kd.R_alloc | apply Kd.R_drewN | apply Kd.R_drew)); exact HO262.out) (Kd.R_base ho0) hb); have n1_ := Aside0.mk (Kd.R_elder' (by (with_reducible repeat (first | apply Kd.R_alloc | apply Kd.R_drewN | apply Kd.R_drew)); exact HO266.out) (Kd.R_base ho0) hb); have n2_ := Aside0.mk (Kd.R_lower (Kd.R_new' (Kd.R_new' ho0 (Kd.R_lt (by (with_reducible repeat (first | apply Kd.R_alloc | apply Kd.R_drewN | apply Kd.R_drew)); exact HO262.out))) (Kd.R_lt (by (with_reducible repeat (first | apply Kd.R_alloc | apply Kd.R_drewN | apply Kd.R_drew)); exact HO266.out))) (below_size (by repeat (first | (with_reducible first | exact HB.out | apply below_alloc | apply pw_below_drewN | apply below_drew1) | exact HB.out)))); have n3_ := Aside0.mk (below_step (by repeat (first | (with_reducible first | exact HB.out | apply below_alloc | apply pw_below_drewN | apply below_drew1) | exact HB.out)) hb); clear HO262; clear HO266; clear HB; have HO262 := n0_; have HO266 := n1_; have HO270 := n2_; have HB := n3_; clear n0_ n1_ n2_ n3_; (try clear hb); (try clear hb2); (try clear hk); (try clear hi); (try clear ho0)))
    (try simp only [Act.put, List.setIfInBounds_toArray, List.set_cons_zero, List.set_cons_succ])
    go_cut [54] (fun v54 wc => ∃ (kq : Nat) (x54_9 : Bool), v54 = .bool x54_9 ∧ Aside0 (colophonlaw16_PickSplits.j0 kq l0 t259 t263 t267 t268 x54_9 = some r) ∧ Aside0 (kq ≤ k) ∧ Aside0 (Kd.R k45 45 wc w.heap.size (fun k_ => some k_ ≠ (v265 : Value).ownBlock ∧ some k_ ≠ (v269 : Value).ownBlock) v261 t259) ∧ Aside0 (Kd.R k45 45 wc w.heap.size (fun k_ => some k_ ≠ (v261 : Value).ownBlock ∧ some k_ ≠ (v269 : Value).ownBlock) v265 t263) ∧ Aside0 (Kd.R k45 45 wc w.heap.size (fun k_ => some k_ ≠ (v261 : Value).ownBlock ∧ some k_ ≠ (v265 : Value).ownBlock) v269 t267) ∧ Aside0 (Below w.heap.size w wc))
    case first =>
      have H := HC10.out
      clear HC10
      by_cases c15 : t260 = 0
      · rw [if_pos c15] at H
        have c15b0 : (t260 == 0) = true := beq_iff_eq.mpr c15
        have c15b1 : (t260 != 0) = false := bne_eq_false_iff_eq.mpr c15
        clear c15
        (first | rw [c15b0] | (simp only [i64_w, i32_w]; rw [c15b0]) | skip)
        have H' := Aside0.mk H
        clear H
        go_wp2
        go_meet
        case rel => exact ⟨_, ((t264 != 0)), (by first | rfl | (simp; done) | (simp [*]; done)), H', ⟨by first | omega | exact Nat.le_refl _⟩, ⟨by (with_reducible repeat (first | apply Kd.R_alloc | apply Kd.R_drewN | apply Kd.R_drew)); exact Kd.R_mono HO262.out (fun _ hk => ⟨hk.1.2, hk.2⟩)⟩, ⟨by (with_reducible repeat (first | apply Kd.R_alloc | apply Kd.R_drewN | apply Kd.R_drew)); exact Kd.R_mono HO266.out (fun _ hk => ⟨hk.1.2, hk.2⟩)⟩, ⟨by (with_reducible repeat (first | apply Kd.R_alloc | apply Kd.R_drewN | apply Kd.R_drew)); exact Kd.R_mono HO270.out (fun _ hk => ⟨hk.1.2, hk.2⟩)⟩, ⟨by repeat (first | (with_reducible first | exact HB.out | apply below_alloc | apply pw_below_drewN | apply below_drew1) | exact HB.out)⟩⟩
      · rw [if_neg c15] at H
        have c15b0 : (t260 == 0) = false := beq_eq_false_iff_ne.mpr c15
        have c15b1 : (t260 != 0) = true := bne_iff_ne.mpr c15
        (first | rw [c15b0] | (simp only [i64_w, i32_w]; rw [c15b0]) | skip)
        have H' := Aside0.mk H
        clear H
        go_wp2
        go_meet
        case rel => exact ⟨_, (true), (by first | rfl | (simp; done) | (simp [*]; done)), H', ⟨by first | omega | exact Nat.le_refl _⟩, ⟨by (with_reducible repeat (first | apply Kd.R_alloc | apply Kd.R_drewN | apply Kd.R_drew)); exact Kd.R_mono HO262.out (fun _ hk => ⟨hk.1.2, hk.2⟩)⟩, ⟨by (with_reducible repeat (first | apply Kd.R_alloc | apply Kd.R_drewN | apply Kd.R_drew)); exact Kd.R_mono HO266.out (fun _ hk => ⟨hk.1.2, hk.2⟩)⟩, ⟨by (with_reducible repeat (first | apply Kd.R_alloc | apply Kd.R_drewN | apply Kd.R_drew)); exact Kd.R_mono HO270.out (fun _ hk => ⟨hk.1.2, hk.2⟩)⟩, ⟨by repeat (first | (with_reducible first | exact HB.out | apply below_alloc | apply pw_below_drewN | apply below_drew1) | exact HB.out)⟩⟩
    case rest =>
      clear HC10
      try clear c1
      try clear c2
      try clear p2
      try clear c5
      try clear c6
      try clear c15
      try clear c15b0
      try clear c15b1
      obtain ⟨kq, x54_9, rfl, HA, HJ9, HO_9, HO_11, HO_13, HB⟩ := hcut
      cases kq with
      | zero => exact absurd HA.out (by simp [colophonlaw16_PickSplits.j0])
      | succ kj9 =>
        have H := HA.out
        clear HA
        simp only [colophonlaw16_PickSplits.j0] at H
        by_cases c16 : x54_9 = true
        · subst c16
          have H1 : (some true) = some r := by rw [if_pos rfl] at H; exact H
          clear H
          have H := H1
          clear H1
          obtain rfl := Option.some.inj H
          go_wp2
          go_ret
          exact ⟨by first | rfl | (simp [errW_none, errW_some] <;> rfl) | (simp [*, errW_none, errW_some] <;> rfl), by repeat (first | (with_reducible first | exact HB.out | apply below_alloc | apply pw_below_drewN | apply below_drew1) | exact HB.out)⟩
        · replace c16 := Bool.eq_false_iff.mpr c16
          subst c16
          have H1 : (if t268 = 0 then (if 0 ≤ (l0.length : Int) then (if ((l0.length : Int) : Int).toNat ≤ 35184372088832 then ((some (([t259, t263] : List (List (S45))) : List (List (S45)))).bind fun y274 => (colophonlaw16_PickSplits.l0 kj9 t267 (List.replicate ((l0.length : Int) : Int).toNat 0) y274 (y274.length : Int) 0)) else (none)) else (none)) else (some false)) = some r := by rw [if_neg (show ¬ (false = true) by decide)] at H; exact H
          clear H
          have H := H1
          clear H1
          by_cases c17 : t268 = 0
          · rw [if_pos c17] at H
            have c17b0 : (t268 == 0) = true := beq_iff_eq.mpr c17
            have c17b1 : (t268 != 0) = false := bne_eq_false_iff_eq.mpr c17
            clear c17
            by_cases c18 : 0 ≤ (l0.length : Int)
            · rw [if_pos c18] at H
              have c18b0 := eq_true c18
              have c18b1 : decide (0 ≤ (l0.length : Int)) = true := decide_eq_true c18
              clear c18
              by_cases c19 : ((l0.length : Int) : Int).toNat ≤ 35184372088832
              · rw [if_pos c19] at H
                have c19b0 := eq_true c19
                have c19b1 : decide (((l0.length : Int) : Int).toNat ≤ 35184372088832) = true := decide_eq_true c19
                clear c19
                obtain ⟨y271, hy271⟩ : ∃ y_ : List Int, y_ = (List.replicate ((l0.length : Int) : Int).toNat 0) := ⟨_, rfl⟩
                replace H : ((some (([t259, t263] : List (List (S45))) : List (List (S45)))).bind fun y274 => (colophonlaw16_PickSplits.l0 kj9 t267 y271 y274 (y274.length : Int) 0)) = some r := by first | (rw [hy271]; with_reducible exact H) | (have H2_ := (Option.bind_some _ _).symm.trans H; rw [hy271]; with_reducible exact H2_) | (have H2_ := (Option.bind_some _ _).symm.trans H; with_reducible exact H2_) | with_reducible exact H | (rw [hy271]; exact H) | exact H
                have Ny271 := Aside0.mk hy271
                clear hy271
                obtain ⟨y274, hy274⟩ : ∃ y_ : List (List (S45)), y_ = (([t259, t263] : List (List (S45)))) := ⟨_, rfl⟩
                replace H : (colophonlaw16_PickSplits.l0 kj9 t267 y271 y274 (y274.length : Int) 0) = some r := by first | (rw [hy274]; with_reducible exact H) | (have H2_ := (Option.bind_some _ _).symm.trans H; rw [hy274]; with_reducible exact H2_) | (have H2_ := (Option.bind_some _ _).symm.trans H; with_reducible exact H2_) | with_reducible exact H | (rw [hy274]; exact H) | exact H
                have Ny274 := Aside0.mk hy274
                clear hy274
                have H' := Aside0.mk H
                clear H
                go_wp2_with (first | ((with_reducible refine gate_dst (N := 59) rfl ?_); (try (refine gate_guard (by rfl) ?_; dsimp only)); refine Kd.R_make (Kd.int .i64) _ 3 rfl (N := 59) rfl 22 _ _ rfl (l0.length : Int) rfl rfl Try.underlying22 (.int .i64 0) 8 info3 rfl (by decide) (by omega) 0 (ok := fun _ => True) (okp := fun _ => True) rfl (fun _ hk => hk) trivial (of_decide_eq_true (by first | (with_reducible assumption) | assumption)) (Nat.le_trans (Nat.mul_le_mul_right _ (of_decide_eq_true (by first | (with_reducible assumption) | assumption) : (l0.length : Int).toNat ≤ 35184372088832)) (by omega)) (Below.refl _ _) (Nat.le_refl _) ?_; intro v272 w20 ho21 hb hg_ hnew_; clear hg_ hnew_; (first | rw [← Ny271.out] at ho21 | (simp only [Int.reduceToNat] at ho21; rw [← Ny271.out] at ho21)); have n0_ := Aside0.mk (Kd.R_below (by (with_reducible repeat (first | apply Kd.R_alloc | apply Kd.R_drewN | apply Kd.R_drew)); exact HO_9.out) hb); have n1_ := Aside0.mk (Kd.R_below (by (with_reducible repeat (first | apply Kd.R_alloc | apply Kd.R_drewN | apply Kd.R_drew)); exact HO_11.out) hb); have n2_ := Aside0.mk (Kd.R_below (by (with_reducible repeat (first | apply Kd.R_alloc | apply Kd.R_drewN | apply Kd.R_drew)); exact HO_13.out) hb); have n3_ := Aside0.mk (Kd.R_lower ho21 (below_size (by repeat (first | (with_reducible first | exact HB.out | apply below_alloc | apply pw_below_drewN | apply below_drew1) | exact HB.out)))); have n4_ := Aside0.mk (below_step (by repeat (first | (with_reducible first | exact HB.out | apply below_alloc | apply pw_below_drewN | apply below_drew1) | exact HB.out)) hb); clear HO_9; clear HO_11; clear HO_13; clear HB; have HO_9 := n0_; have HO_11 := n1_; have HO_13 := n2_; have HO273 := n3_; have HB := n4_; clear n0_ n1_ n2_ n3_ n4_; clear hb ho21; obtain ⟨Ao22, co22, eo22⟩ := Kd.R_slice HO_9.out; subst eo22; obtain ⟨Ao23, co23, eo23⟩ := Kd.R_slice HO_11.out; subst eo23) | ((with_reducible refine gate_dst (N := 62) rfl ?_); (try (refine gate_guard (by rfl) ?_; dsimp only)); refine Kd.N_lit (Kd.slice 45 k45) _ 28 ?hg (N' := 62) ?hd (xs := ([t259, t263] : List (List (S45)))) (inner := [.slice Ao22 t259.length co22, .slice Ao23 t263.length co23]) (ok := (fun k_ => some k_ ≠ (v269 : Value).ownBlock ∧ some k_ ≠ (v272 : Value).ownBlock)) (okp := (fun k_ => some k_ ≠ (v269 : Value).ownBlock ∧ some k_ ≠ (v272 : Value).ownBlock)) ?hr ?hp (fun _ hk => hk) ((show ∀ k_, w20.heap.size ≤ k_ → (fun k_ => some k_ ≠ (v269 : Value).ownBlock ∧ some k_ ≠ (v272 : Value).ownBlock) k_ from fun k_ hk => ⟨Kd.fresh' (Kd.R_lt (by (with_reducible repeat (first | apply Kd.R_alloc | apply Kd.R_drewN | apply Kd.R_drew)); exact HO_13.out)) k_ hk, Kd.fresh' (Kd.R_lt (by (with_reducible repeat (first | apply Kd.R_alloc | apply Kd.R_drewN | apply Kd.R_drew)); exact HO273.out)) k_ hk⟩) _ (Nat.le_refl _)) (Below.refl _ _) (Nat.le_refl _) (by simp) ?_; (case hd => rfl); (case hg => rfl); (case hr => first | (go_simp; done) | (go_simp; rfl)); (case hp => exact (Reps.one (show Kd.FK (Kd.slice 45 k45) _ _ t259 [.slice Ao22 t259.length co22] from (Kd.FK_slice_mk (Kd.R_reads' (Kd.R_mono (ok' := (fun k_ => some k_ ≠ (v269 : Value).ownBlock ∧ some k_ ≠ (v272 : Value).ownBlock)) (Kd.R_apart' (HO_9.out) (Kd.R_typed HO273.out) (by decide)) (fun k_ hk => ⟨hk.1.2, hk.2⟩))).2.1 (Kd.R_F (Kd.R_mono (ok' := (fun k_ => some k_ ≠ (v269 : Value).ownBlock ∧ some k_ ≠ (v272 : Value).ownBlock)) (Kd.R_apart' (HO_9.out) (Kd.R_typed HO273.out) (by decide)) (fun k_ hk => ⟨hk.1.2, hk.2⟩))))) (Reps.one (show Kd.FK (Kd.slice 45 k45) _ _ t263 [.slice Ao23 t263.length co23] from (Kd.FK_slice_mk (Kd.R_reads' (Kd.R_mono (ok' := (fun k_ => some k_ ≠ (v269 : Value).ownBlock ∧ some k_ ≠ (v272 : Value).ownBlock)) (Kd.R_apart' (HO_11.out) (Kd.R_typed HO273.out) (by decide)) (fun k_ hk => ⟨hk.1.2, hk.2⟩))).2.1 (Kd.R_F (Kd.R_mono (ok' := (fun k_ => some k_ ≠ (v269 : Value).ownBlock ∧ some k_ ≠ (v272 : Value).ownBlock)) (Kd.R_apart' (HO_11.out) (Kd.R_typed HO273.out) (by decide)) (fun k_ hk => ⟨hk.1.2, hk.2⟩))))) (Reps.none _ _)))); intro v275 w24 ho25 hb hg_ hnew_; clear hg_ hnew_; (first | rw [← Ny274.out] at ho25 | (simp only [Int.reduceToNat] at ho25; rw [← Ny274.out] at ho25)); have n0_ := Aside0.mk (Kd.R_below (by (with_reducible repeat (first | apply Kd.R_alloc | apply Kd.R_drewN | apply Kd.R_drew)); exact HO_13.out) hb); have n1_ := Aside0.mk (Kd.R_below (by (with_reducible repeat (first | apply Kd.R_alloc | apply Kd.R_drewN | apply Kd.R_drew)); exact HO273.out) hb); have n2_ := Aside0.mk (Kd.N_lower ho25 (below_size (by repeat (first | (with_reducible first | exact HB.out | apply below_alloc | apply pw_below_drewN | apply below_drew1) | exact HB.out)))); have n3_ := Aside0.mk (below_step (by repeat (first | (with_reducible first | exact HB.out | apply below_alloc | apply pw_below_drewN | apply below_drew1) | exact HB.out)) hb); clear HO_13; clear HO273; clear HB; clear HO_11; clear HO_9; have HO_13 := n0_; have HO273 := n1_; have HO276 := n2_; have HB := n3_; clear n0_ n1_ n2_ n3_; clear hb ho25; obtain ⟨Ao26, co26, eo26⟩ := Kd.N_slice HO276.out; subst eo26))
                go_loopg [64] kj9 (fun kq v64 w' => ∃ (x15_2 : List Int) (x64_2 : Int), v64 = .int .i64 x64_2 ∧ Aside0 (colophonlaw16_PickSplits.l0 kq t267 x15_2 y274 (y274.length : Int) x64_2 = some r) ∧ Aside0 (kq ≤ kj9) ∧ Aside0 (Kd.R k45 45 w' w.heap.size (fun _ => True) v269 t267) ∧ Aside0 (Kd.R (Kd.int .i64) 3 w' w.heap.size (fun _ => True) v272 x15_2) ∧ Aside0 (Kd.N (Kd.slice 45 k45) 28 w' w.heap.size (fun k_ => some k_ ≠ (v269 : Value).ownBlock ∧ some k_ ≠ (v272 : Value).ownBlock) (.slice Ao26 y274.length co26) y274) ∧ Aside0 (Below w.heap.size w w'))
                case atStart => exact ⟨(y271), (0), (by first | rfl | (simp; done) | (simp [*]; done)), H', ⟨Nat.le_refl _⟩, ⟨by (with_reducible repeat (first | apply Kd.R_alloc | apply Kd.R_drewN | apply Kd.R_drew)); exact Kd.R_mono HO_13.out (fun _ hk => trivial)⟩, ⟨by (with_reducible repeat (first | apply Kd.R_alloc | apply Kd.R_drewN | apply Kd.R_drew)); exact HO273.out⟩, ⟨by (with_reducible repeat (first | apply Kd.N_alloc | apply Kd.N_drewN | apply Kd.N_drew)); exact HO276.out⟩, ⟨by repeat (first | (with_reducible first | exact HB.out | apply below_alloc | apply pw_below_drewN | apply below_drew1) | exact HB.out)⟩⟩
                case round =>
                  clear H'
                  try clear c1
                  try clear c2
                  try clear p2
                  try clear c5
                  try clear c6
                  try clear c15
                  try clear c15b0
                  try clear c15b1
                  try clear c16
                  try clear c17
                  try clear c17b0
                  try clear c17b1
                  try clear c18
                  try clear c18b0
                  try clear c18b1
                  try clear c19
                  try clear c19b0
                  try clear c19b1
                  try clear p2
                  obtain ⟨x15_2, x64_2, rfl, HA, HK2, HO_13, HO_15, HO_62, HB⟩ := hrel
                  cases gk with
                  | zero => exact absurd HA.out (by simp [colophonlaw16_PickSplits.l0])
                  | succ k2 =>
                    have H := HA.out
                    clear HA
                    simp only [colophonlaw16_PickSplits.l0] at H
                    by_cases c27 : x64_2 < (y274.length : Int)
                    · rw [if_pos c27] at H
                      have c27b0 : decide (x64_2 < (y274.length : Int)) = true := decide_eq_true c27
                      clear c27
                      by_cases c28 : 0 ≤ x64_2
                      · rw [if_pos c28] at H
                        have c28b0 : decide (0 ≤ x64_2) = true := decide_eq_true c28
                        clear c28
                        by_cases c29 : x64_2 < (y274.length : Int)
                        · rw [if_pos c29] at H
                          have c29b0 : decide (x64_2 < (y274.length : Int)) = true := decide_eq_true c29
                          clear c29
                          have H' := Aside0.mk H
                          clear H
                          have p277 : 0 ≤ (x64_2 : Int) := of_decide_eq_true (by first | (with_reducible assumption) | assumption)
                          have q277 : x64_2 < (y274.length : Int) := of_decide_eq_true (by first | (with_reducible assumption) | assumption)
                          obtain ⟨ad277, A277_0, c277_0, e277, hx277_0, hl277_0, hi277_0⟩ := at_L6 (Kd.N_reads' HO_62.out).2.2 x64_2 p277 q277
                          cases e277
                          obtain ⟨ce277, hce277, hMe277, hcc277⟩ := Kd.N_get HO_62.out [] x64_2 p277 (by first | exact q277 | exact of_decide_eq_true (by first | (with_reducible assumption) | assumption) | (have e_ := (Kd.N_reads' HO_62.out).1; omega))
                          obtain ⟨ua277_0, uc277_0, rfl, ul277_0, ge277_0⟩ := Kd.FK_slice_open hMe277
                          have hv277_0 := hcc277 0 _ rfl
                          rw [Nat.add_zero, show ((Kd.slice 45 k45)).sz = 1 from rfl, Nat.mul_one] at hv277_0
                          replace hv277_0 := Option.some.inj (hv277_0.symm.trans hx277_0)
                          injection hv277_0 with hva_ hvn_ hvc_
                          rw [hva_] at ge277_0
                          rw [hvc_] at ul277_0
                          have HL277_0 := Aside0.mk (show Kd.V k45 45 _ w.heap.size _ _ (rd_L6 y274 x64_2) from Kd.V_mk ul277_0 ge277_0)
                          clear hva_ hvn_ hvc_ ge277_0 ul277_0
                          clear hcc277 hce277
                          have HR277_0 := Aside0.mk hi277_0
                          have HC277_0 := Aside0.mk hl277_0
                          clear hi277_0 hl277_0
                          replace p277 := eq_true p277
                          replace q277 := eq_true q277
                          go_wp2
                          go_loopg [70] k2 (fun kq v70 w' => ∃ (x15_3 : List Int) (x70_3 : Int), v70 = .int .i64 x70_3 ∧ Aside0 (colophonlaw16_PickSplits.l1 kq t267 x15_3 y274 (y274.length : Int) x64_2 (rd_L6 y274 x64_2) ((rd_L6 y274 x64_2).length : Int) x70_3 = some r) ∧ Aside0 (kq ≤ k2) ∧ Aside0 (Kd.R k45 45 w' w.heap.size (fun _ => True) v269 t267) ∧ Aside0 (Kd.R (Kd.int .i64) 3 w' w.heap.size (fun _ => True) v272 x15_3) ∧ Aside0 (Kd.N (Kd.slice 45 k45) 28 w' w.heap.size (fun k_ => some k_ ≠ (v269 : Value).ownBlock ∧ some k_ ≠ (v272 : Value).ownBlock) (.slice (some ad277) y274.length co26) y274) ∧ Aside0 (Kd.V k45 45 w' w.heap.size (fun k_ => some k_ ≠ (v269 : Value).ownBlock ∧ some k_ ≠ (v272 : Value).ownBlock) (.slice A277_0 (rd_L6 y274 x64_2).length c277_0) (rd_L6 y274 x64_2)) ∧ Aside0 (Below w.heap.size w w'))
                          case atStart => exact ⟨(x15_2), (0), (by first | rfl | (simp; done) | (simp [*]; done)), H', ⟨Nat.le_refl _⟩, ⟨by (with_reducible repeat (first | apply Kd.R_alloc | apply Kd.R_drewN | apply Kd.R_drew)); exact HO_13.out⟩, ⟨by (with_reducible repeat (first | apply Kd.R_alloc | apply Kd.R_drewN | apply Kd.R_drew)); exact HO_15.out⟩, ⟨by (with_reducible repeat (first | apply Kd.N_alloc | apply Kd.N_drewN | apply Kd.N_drew)); exact HO_62.out⟩, ⟨by (with_reducible repeat (first | apply Kd.V_alloc | apply Kd.V_drewN | apply Kd.V_drew)); exact Kd.V_mono HL277_0.out (fun _ hk => hk.1)⟩, ⟨by repeat (first | (with_reducible first | exact HB.out | apply below_alloc | apply pw_below_drewN | apply below_drew1) | exact HB.out)⟩⟩
                          case round =>
                            clear H'
                            try clear c1
                            try clear c2
                            try clear p2
                            try clear q2
                            try clear hx2
                            try clear c5
                            try clear c6
                            try clear c15
                            try clear c15b0
                            try clear c15b1
                            try clear c16
                            try clear c17
                            try clear c17b0
                            try clear c17b1
                            try clear c18
                            try clear c18b0
                            try clear c18b1
                            try clear c19
                            try clear c19b0
                            try clear c19b1
                            try clear c27
                            try clear c27b0
                            try clear p27
                            try clear q27
                            try clear hx27
                            try clear c28
                            try clear c28b0
                            try clear c29
                            try clear c29b0
                            try clear hx277_0
                            try clear p2
                            try clear p277
                            try clear q277
                            obtain ⟨x15_3, x70_3, rfl, HA, HK3, HO_13, HO_15, HO_62, HX, HB⟩ := hrel
                            cases gk with
                            | zero => exact absurd HA.out (by simp [colophonlaw16_PickSplits.l1])
                            | succ k3 =>
                              have H := HA.out
                              clear HA
                              simp only [colophonlaw16_PickSplits.l1] at H
                              by_cases c30 : x70_3 < ((rd_L6 y274 x64_2).length : Int)
                              · rw [if_pos c30] at H
                                have c30b0 : decide (x70_3 < ((rd_L6 y274 x64_2).length : Int)) = true := decide_eq_true c30
                                clear c30
                                by_cases c31 : 0 ≤ x70_3
                                · rw [if_pos c31] at H
                                  have c31b0 : decide (0 ≤ x70_3) = true := decide_eq_true c31
                                  clear c31
                                  by_cases c32 : x70_3 < ((rd_L6 y274 x64_2).length : Int)
                                  · rw [if_pos c32] at H
                                    have c32b0 : decide (x70_3 < ((rd_L6 y274 x64_2).length : Int)) = true := decide_eq_true c32
                                    clear c32
                                    obtain ⟨ji33, hji33⟩ : ∃ j_ : Int, (mx 0 ((rd_T45 (rd_L6 y274 x64_2) x70_3).f0)) = j_ := ⟨_, rfl⟩
                                    replace H : (colophonlaw16_PickSplits.l2 k3 t267 x15_3 ji33 y274 (y274.length : Int) x64_2 (rd_L6 y274 x64_2) ((rd_L6 y274 x64_2).length : Int) x70_3 ((rd_T45 (rd_L6 y274 x64_2) x70_3).f0) ((rd_T45 (rd_L6 y274 x64_2) x70_3).f1)) = some r := by first | (rw [hji33] at H; exact H) | (simp only [hji33] at H ⊢; exact H)
                                    have hji33_ : (if 0 < ((rd_T45 (rd_L6 y274 x64_2) x70_3).f0) then ((rd_T45 (rd_L6 y274 x64_2) x70_3).f0) else 0) = ji33 := hji33
                                    have H' := Aside0.mk H
                                    clear H
                                    have p278 : 0 ≤ (x70_3 : Int) := of_decide_eq_true (by first | (with_reducible assumption) | assumption)
                                    have q278 : x70_3 < ((rd_L6 y274 x64_2).length : Int) := of_decide_eq_true (by first | (with_reducible assumption) | assumption)
                                    obtain ⟨ad278, e278, hx278_0, hx278_1⟩ := at_T45 (Kd.V_reads' HX.out).2.2 x70_3 p278 q278
                                    cases e278
                                    try replace hx278_0 := (HB.out.cell (World.block_lt_of_cell? w _ hx278_0)).trans hx278_0
                                    try replace hx278_1 := (HB.out.cell (World.block_lt_of_cell? w _ hx278_1)).trans hx278_1
                                    replace p278 := eq_true p278
                                    replace q278 := eq_true q278
                                    go_wp2_with (first | ((with_reducible refine gate_dst (N := 19) rfl ?_); (try (refine gate_guard (by rfl) ?_; dsimp only)); refine box_event ?hg (N := 19) ?hd (cs := #[.int .i64 0, .int .i64 0]) (t := 45) ?hr ?_; (case hd => rfl); (case hg => rfl); (case hr => first | (go_simp; done) | (go_simp; rfl)); intro gb279 hg w34 hbox hb; have n0_ := Aside0.mk (Kd.R_below (Kd.R_elderB (by (with_reducible repeat (first | apply Kd.R_alloc | apply Kd.R_drewN | apply Kd.R_drew)); exact HO_13.out) gb279 (Nat.le_of_eq hg.symm)) hb); have n1_ := Aside0.mk (Kd.R_below (by (with_reducible repeat (first | apply Kd.R_alloc | apply Kd.R_drewN | apply Kd.R_drew)); exact HO_15.out) hb); have n2_ := Aside0.mk (Kd.N_below (Kd.N_elderB (by (with_reducible repeat (first | apply Kd.N_alloc | apply Kd.N_drewN | apply Kd.N_drew)); exact HO_62.out) gb279 (Nat.le_of_eq hg.symm)) hb); have nX_ := Aside0.mk (Kd.V_below (Kd.V_elderB (by (with_reducible repeat (first | apply Kd.V_alloc | apply Kd.V_drewN | apply Kd.V_drew)); exact HX.out) gb279 (Nat.le_of_eq hg.symm)) hb); have n3_ := Aside0.mk (below_step (by repeat (first | (with_reducible first | exact HB.out | apply below_alloc | apply pw_below_drewN | apply below_drew1) | exact HB.out)) hb); have n4_ := Aside0.mk (hbox); have n5_ := Aside0.mk ((by rw [hg]; exact (below_size (by repeat (first | (with_reducible first | exact HB.out | apply below_alloc | apply pw_below_drewN | apply below_drew1) | exact HB.out))) : w.heap.size ≤ gb279)); have n6_ := Aside0.mk ((by rw [hg]; exact (below_size (by repeat (first | (with_reducible first | exact HB.out | apply below_alloc | apply pw_below_drewN | apply below_drew1) | exact HB.out))) : w.heap.size ≤ gb279)); clear HO_13; clear HO_15; clear HO_62; clear HB; clear HX; have HX := nX_; clear nX_; have HO_13 := n0_; have HO_15 := n1_; have HO_62 := n2_; have HB := n3_; have BK279 := n4_; have GW279 := n5_; have GE279 := n6_; clear n0_ n1_ n2_ n3_ n4_ n5_ n6_; clear hb hbox hg; have hcz35_0 : w34.cell? ⟨gb279, 0, none⟩ = some (.int .i64 0) := (blk_cell BK279.out 0).trans rfl; have hcz35_1 : w34.cell? ⟨gb279, 1, none⟩ = some (.int .i64 0) := (blk_cell BK279.out 1).trans rfl; have hfz35_0 := blk_frozen BK279.out 0; have hfz35_1 := blk_frozen BK279.out 1))
                                    go_loopg [20] k3 (fun kq v20 w' => ∃ (x15_4 : List Int) (x20_4 : Int), v20 = .int .i64 x20_4 ∧ Aside0 (colophonlaw16_PickSplits.l2 kq t267 x15_4 x20_4 y274 (y274.length : Int) x64_2 (rd_L6 y274 x64_2) ((rd_L6 y274 x64_2).length : Int) x70_3 ((rd_T45 (rd_L6 y274 x64_2) x70_3).f0) ((rd_T45 (rd_L6 y274 x64_2) x70_3).f1) = some r) ∧ Aside0 (kq ≤ k3) ∧ Aside0 (Kd.R k45 45 w' w.heap.size (fun k_ => k_ ≠ gb279) v269 t267) ∧ Aside0 (Kd.R (Kd.int .i64) 3 w' w.heap.size (fun _ => True) v272 x15_4) ∧ Aside0 (Kd.N (Kd.slice 45 k45) 28 w' w.heap.size (fun k_ => some k_ ≠ (v269 : Value).ownBlock ∧ some k_ ≠ (v272 : Value).ownBlock ∧ k_ ≠ gb279) (.slice (some ad277) y274.length co26) y274) ∧ Aside0 (w'.heap[gb279]? = some (.cells #[.int .i64 ((rd_T45 (rd_L6 y274 x64_2) x70_3).f0), .int .i64 ((rd_T45 (rd_L6 y274 x64_2) x70_3).f1)] 45 (0, 0))) ∧ Aside0 (Kd.V k45 45 w' w.heap.size (fun k_ => (some k_ ≠ (v269 : Value).ownBlock ∧ some k_ ≠ (v272 : Value).ownBlock) ∧ k_ ≠ gb279) (.slice (some ad278) (rd_L6 y274 x64_2).length c277_0) (rd_L6 y274 x64_2)) ∧ Aside0 (Below w.heap.size w w'))
                                    case atStart => exact ⟨(x15_3), (ji33), (by first | rfl | (simp; done) | (simp only [← hji33] <;> (first | rfl | simp)) | (simp [*]; done)), H', ⟨Nat.le_refl _⟩, ⟨by (with_reducible repeat (first | apply Kd.R_alloc | apply Kd.R_drewN | apply Kd.R_drew)); exact Kd.R_mono (Kd.R_far (p := ⟨gb279, 1, none⟩) (Kd.R_far (p := ⟨gb279, 0, none⟩) (Kd.R_mono HO_13.out (fun k_ hk => (⟨hk, hk.2⟩ : _ ∧ k_ ≠ gb279))) (fun _ hk => hk.2) (.int .i64 ((rd_T45 (rd_L6 y274 x64_2) x70_3).f0))) (fun _ hk => hk.2) (.int .i64 ((rd_T45 (rd_L6 y274 x64_2) x70_3).f1))) (fun _ hk => hk.1.2)⟩, ⟨by (with_reducible repeat (first | apply Kd.R_alloc | apply Kd.R_drewN | apply Kd.R_drew)); exact Kd.R_mono (Kd.R_far (p := ⟨gb279, 1, none⟩) (Kd.R_far (p := ⟨gb279, 0, none⟩) (Kd.R_types HO_15.out BK279.out (by decide)) (fun _ hk => hk.2) (.int .i64 ((rd_T45 (rd_L6 y274 x64_2) x70_3).f0))) (fun _ hk => hk.2) (.int .i64 ((rd_T45 (rd_L6 y274 x64_2) x70_3).f1))) (fun _ hk => trivial)⟩, ⟨by (with_reducible repeat (first | apply Kd.N_alloc | apply Kd.N_drewN | apply Kd.N_drew)); exact Kd.N_mono (Kd.N_far (p := ⟨gb279, 1, none⟩) (Kd.N_far (p := ⟨gb279, 0, none⟩) (Kd.N_mono HO_62.out (fun k_ hk => (⟨hk, hk.2⟩ : _ ∧ k_ ≠ gb279))) (fun _ hk => hk.2) (.int .i64 ((rd_T45 (rd_L6 y274 x64_2) x70_3).f0))) (fun _ hk => hk.2) (.int .i64 ((rd_T45 (rd_L6 y274 x64_2) x70_3).f1))) (fun _ hk => ⟨hk.1.1.1, ⟨hk.1.1.2, hk.1.2⟩⟩)⟩, ⟨by (with_reducible repeat (first | refine blk_drewN ?_ _ | refine blk_drew ?_ | refine blk_alloc ?_ _)); refine blk_put (cs := #[.int .i64 ((rd_T45 (rd_L6 y274 x64_2) x70_3).f0), .int .i64 0]) ?_ 1 _ rfl; (with_reducible repeat (first | refine blk_drewN ?_ _ | refine blk_drew ?_ | refine blk_alloc ?_ _)); refine blk_put (cs := #[.int .i64 0, .int .i64 0]) ?_ 0 _ rfl; (with_reducible repeat (first | refine blk_drewN ?_ _ | refine blk_drew ?_ | refine blk_alloc ?_ _)); exact BK279.out⟩, ⟨by (with_reducible repeat (first | apply Kd.V_alloc | apply Kd.V_drewN | apply Kd.V_drew)); exact Kd.V_far (p := ⟨gb279, 1, none⟩) (Kd.V_far (p := ⟨gb279, 0, none⟩) HX.out (fun _ hk => hk.2) (.int .i64 ((rd_T45 (rd_L6 y274 x64_2) x70_3).f0))) (fun _ hk => hk.2) (.int .i64 ((rd_T45 (rd_L6 y274 x64_2) x70_3).f1))⟩, ⟨by repeat (first | (with_reducible first | exact HB.out | apply below_alloc | apply pw_below_drewN | apply below_drew1 | refine below_set ?_ GE279.out) | exact HB.out)⟩⟩
                                    case round =>
                                      clear H'
                                      try clear c1
                                      try clear c2
                                      try clear p2
                                      try clear q2
                                      try clear hx2
                                      try clear c3
                                      try clear c5
                                      try clear c6
                                      try clear c15
                                      try clear c15b0
                                      try clear c15b1
                                      try clear c16
                                      try clear c17
                                      try clear c17b0
                                      try clear c17b1
                                      try clear c18
                                      try clear c18b0
                                      try clear c18b1
                                      try clear c19
                                      try clear c19b0
                                      try clear c19b1
                                      try clear c27
                                      try clear c27b0
                                      try clear p27
                                      try clear q27
                                      try clear hx27
                                      try clear c28
                                      try clear c28b0
                                      try clear c29
                                      try clear c29b0
                                      try clear c30
                                      try clear c30b0
                                      try clear c31
                                      try clear c31b0
                                      try clear c32
                                      try clear c32b0
                                      try clear hcz35_0
                                      try clear hcz35_1
                                      try clear hfz35_0
                                      try clear hfz35_1
                                      try clear hx277_0
                                      try clear hx278_0
                                      try clear hx278_1
                                      try clear p2
                                      try clear p27
                                      try clear p277
                                      try clear p278
                                      try clear q2
                                      try clear q27
                                      try clear q277
                                      try clear q278
                                      obtain ⟨x15_4, x20_4, rfl, HA, HK4, HO_13, HO_15, HO_62, BK279, HX, HB⟩ := hrel
                                      cases gk with
                                      | zero => exact absurd HA.out (by simp [colophonlaw16_PickSplits.l2])
                                      | succ k4 =>
                                        have H := HA.out
                                        clear HA
                                        simp only [colophonlaw16_PickSplits.l2] at H
                                        by_cases c36 : x20_4 < ((rd_T45 (rd_L6 y274 x64_2) x70_3).f1)
                                        · rw [if_pos c36] at H
                                          have c36b0 : decide (x20_4 < ((rd_T45 (rd_L6 y274 x64_2) x70_3).f1)) = true := decide_eq_true c36
                                          clear c36
                                          by_cases c37 : x20_4 < (x15_4.length : Int)
                                          · rw [if_pos c37] at H
                                            have c37b0 : decide (x20_4 < (x15_4.length : Int)) = true := decide_eq_true c37
                                            clear c37
                                            by_cases c38 : 0 ≤ x20_4
                                            · rw [if_pos c38] at H
                                              have c38b0 : decide (0 ≤ x20_4) = true := decide_eq_true c38
                                              clear c38
                                              obtain ⟨y281, hy281⟩ : ∃ y_ : List Int, y_ = (x15_4.set (x20_4 : Int).toNat (wrap64 ((rd x15_4 x20_4) + 1))) := ⟨_, rfl⟩
                                              replace H : (colophonlaw16_PickSplits.l2 k4 t267 y281 (wrap64 (x20_4 + 1)) y274 (y274.length : Int) x64_2 (rd_L6 y274 x64_2) ((rd_L6 y274 x64_2).length : Int) x70_3 ((rd_T45 (rd_L6 y274 x64_2) x70_3).f0) ((rd_T45 (rd_L6 y274 x64_2) x70_3).f1)) = some r := by first | (rw [hy281]; with_reducible exact H) | (have H2_ := (Option.bind_some _ _).symm.trans H; rw [hy281]; with_reducible exact H2_) | (have H2_ := (Option.bind_some _ _).symm.trans H; with_reducible exact H2_) | with_reducible exact H | (rw [hy281]; exact H) | exact H
                                              have Ny281 := Aside0.mk hy281
                                              clear hy281
                                              have H' := Aside0.mk H
                                              clear H
                                              have hcz40_0 : wr.cell? ⟨gb279, 0, none⟩ = some (.int .i64 ((rd_T45 (rd_L6 y274 x64_2) x70_3).f0)) := (blk_cell BK279.out 0).trans rfl
                                              have hcz40_1 : wr.cell? ⟨gb279, 1, none⟩ = some (.int .i64 ((rd_T45 (rd_L6 y274 x64_2) x70_3).f1)) := (blk_cell BK279.out 1).trans rfl
                                              have hfz40_0 := blk_frozen BK279.out 0
                                              have hfz40_1 := blk_frozen BK279.out 1
                                              obtain ⟨Ao41, co41, eo41⟩ := Kd.R_slice HO_15.out
                                              subst eo41
                                              have p280 : 0 ≤ (x20_4 : Int) := of_decide_eq_true (by first | (with_reducible assumption) | assumption)
                                              have q280 : x20_4 < (x15_4.length : Int) := of_decide_eq_true (by first | (with_reducible assumption) | assumption)
                                              obtain ⟨ad280, e280, hx280_0⟩ := Kd.at_int (Kd.R_reads' HO_15.out).2.2 x20_4 p280 q280
                                              cases e280
                                              replace p280 := eq_true p280
                                              replace q280 := eq_true q280
                                              have p39 : 0 ≤ (x20_4 : Int) := of_decide_eq_true (by first | (with_reducible assumption) | assumption)
                                              have q39 : (x20_4 : Int) < ((x15_4.length : Int) : Int) := of_decide_eq_true (by first | (with_reducible assumption) | assumption)
                                              obtain ⟨go39, co39, eo39, gb39, gl39, cl39, HG39⟩ := Kd.R_form HO_15.out (by omega)
                                              (first | cases eo39 | (injection eo39 with ea_ en_ ec_; (first | subst ea_ | (injection ea_ with ea_; subst ea_)); subst ec_; clear en_))
                                              have GB39 := Aside0.mk gb39
                                              have GG39 := Aside0.mk HG39
                                              clear gb39 gl39 HG39
                                              (first | simp only [add_plain] at hx280_0 | skip)
                                              obtain ⟨hx39_0, hf39_0⟩ := Kd.R_celln 0 HO_15.out (x20_4 : Int) p39 q39
                                              replace p39 := eq_true p39
                                              replace q39 := eq_true q39
                                              have HP42 := Kd.R_putg HO_15.out (x20_4 : Int) (wrap64 ((rd x15_4 x20_4) + 1))
                                              go_wp2_with (first | ((with_reducible refine gate_store (t := 3) (p := 94) rfl ?_); refine store_event (t := 3) (p := 94) (v := ?vo_w43) (w1 := (wr.setCell ⟨go39, (x20_4 : Int).toNat, none⟩ (.int .i64 (wrap64 ((rd x15_4 x20_4) + 1))))) ?hg ?ho ?hn ?hr ?_; (case ho => rfl); (case hg => rfl); (case hn => rfl); (case hr => first | (go_simp; done) | (go_simp; rfl)); intro w43 hw; have hg : wr.grownBy w43 (some go39) := (by rw [hw]; exact HP42.2); have hp_ : Kd.R (Kd.int .i64) 3 w43 w.heap.size (fun _ => True) (.slice (some ⟨go39, 0, none⟩) x15_4.length co41) y281 := (by rw [hw, Ny281.out]; exact HP42.1); clear HP42; have n0_ := Aside0.mk (Kd.R_over' (v := (.slice (some ⟨go39, 0, none⟩) x15_4.length co41)) (by (with_reducible repeat (first | apply Kd.R_alloc | apply Kd.R_drewN | apply Kd.R_drew)); exact HO_13.out) (Kd.R_typed HO_15.out) (by decide) hg); have n1_ := Aside0.mk (hp_); have n2_ := Aside0.mk (Kd.N_afterv (v := (.slice (some ⟨go39, 0, none⟩) x15_4.length co41)) (v1 := (.slice (some ⟨go39, 0, none⟩) x15_4.length co41)) (ok := (fun k_ => some k_ ≠ (v269 : Value).ownBlock ∧ k_ ≠ gb279)) (by (with_reducible repeat (first | apply Kd.N_alloc | apply Kd.N_drewN | apply Kd.N_drew)); exact Kd.N_mono HO_62.out (fun _ hk => ⟨⟨hk.1, hk.2.2⟩, hk.2.1⟩)) hg (.inl rfl)); have nX_ := Aside0.mk (Kd.V_grown HX.out hg (fun k hk => hk.1.2)); have n3_ := Aside0.mk (blk_grown (g := gb279) (o := .cells #[.int .i64 ((rd_T45 (rd_L6 y274 x64_2) x70_3).f0), .int .i64 ((rd_T45 (rd_L6 y274 x64_2) x70_3).f1)] 45 (0, 0)) (by (with_reducible repeat (first | refine blk_drewN ?_ _ | refine blk_drew ?_ | refine blk_alloc ?_ _)); exact BK279.out) hg (Kd.R_ne HO_15.out BK279.out (by decide))); have n4_ := Aside0.mk ((by rw [hw]; exact below_set (HB.out) GB39.out : Below w.heap.size w w43)); clear HO_13; clear HO_15; clear HO_62; clear BK279; clear HB; clear HX; have HX := nX_; clear nX_; have HO_13 := n0_; have HO_15 := n1_; have HO_62 := n2_; have BK279 := n3_; have HB := n4_; clear n0_ n1_ n2_ n3_ n4_; clear hg hw hp_))
                                              go_roundg k4
                                              case measure => have := HJ9.out; have := HK2.out; have := HK3.out; have := HK4.out; omega
                                              case rel => exact ⟨(y281), (wrap64 (x20_4 + 1)), (by first | rfl | (simp; done) | (simp [*]; done)), H', ⟨by have := HJ9.out; have := HK2.out; have := HK3.out; have := HK4.out; omega⟩, ⟨by (with_reducible repeat (first | apply Kd.R_alloc | apply Kd.R_drewN | apply Kd.R_drew)); exact HO_13.out⟩, ⟨by (with_reducible repeat (first | apply Kd.R_alloc | apply Kd.R_drewN | apply Kd.R_drew)); exact HO_15.out⟩, ⟨by (with_reducible repeat (first | apply Kd.N_alloc | apply Kd.N_drewN | apply Kd.N_drew)); exact Kd.N_mono HO_62.out (fun _ hk => ⟨hk.1.1, ⟨hk.2, hk.1.2⟩⟩)⟩, ⟨by (with_reducible repeat (first | refine blk_drewN ?_ _ | refine blk_drew ?_ | refine blk_alloc ?_ _)); exact BK279.out⟩, ⟨by (with_reducible repeat (first | apply Kd.V_alloc | apply Kd.V_drewN | apply Kd.V_drew)); exact HX.out⟩, ⟨by repeat (first | (with_reducible first | exact HB.out | apply below_alloc | apply pw_below_drewN | apply below_drew1 | refine below_set ?_ GE279.out) | exact HB.out)⟩⟩
                                            · rw [if_neg c38] at H
                                              exact absurd H (by simp)
                                          · rw [if_neg c37] at H
                                            have c37b0 : decide (x20_4 < (x15_4.length : Int)) = false := decide_eq_false c37
                                            clear c37
                                            have H' := Aside0.mk H
                                            clear H
                                            have hcz44_0 : wr.cell? ⟨gb279, 0, none⟩ = some (.int .i64 ((rd_T45 (rd_L6 y274 x64_2) x70_3).f0)) := (blk_cell BK279.out 0).trans rfl
                                            have hcz44_1 : wr.cell? ⟨gb279, 1, none⟩ = some (.int .i64 ((rd_T45 (rd_L6 y274 x64_2) x70_3).f1)) := (blk_cell BK279.out 1).trans rfl
                                            have hfz44_0 := blk_frozen BK279.out 0
                                            have hfz44_1 := blk_frozen BK279.out 1
                                            obtain ⟨Ao45, co45, eo45⟩ := Kd.R_slice HO_15.out
                                            subst eo45
                                            go_wp2
                                            go_roundg k4
                                            case measure => have := HJ9.out; have := HK2.out; have := HK3.out; have := HK4.out; omega
                                            case rel => exact ⟨(x15_4), (wrap64 (x70_3 + 1)), (by first | rfl | (simp; done) | (simp [*]; done)), H', ⟨by have := HJ9.out; have := HK2.out; have := HK3.out; have := HK4.out; omega⟩, ⟨by (with_reducible repeat (first | apply Kd.R_alloc | apply Kd.R_drewN | apply Kd.R_drew)); exact Kd.R_mono HO_13.out (fun _ hk => trivial)⟩, ⟨by (with_reducible repeat (first | apply Kd.R_alloc | apply Kd.R_drewN | apply Kd.R_drew)); exact HO_15.out⟩, ⟨by (with_reducible repeat (first | apply Kd.N_alloc | apply Kd.N_drewN | apply Kd.N_drew)); exact Kd.N_mono HO_62.out (fun _ hk => ⟨hk.1, hk.2.1⟩)⟩, ⟨by (with_reducible repeat (first | apply Kd.V_alloc | apply Kd.V_drewN | apply Kd.V_drew)); exact Kd.V_mono HX.out (fun _ hk => hk.1)⟩, ⟨by repeat (first | (with_reducible first | exact HB.out | apply below_alloc | apply pw_below_drewN | apply below_drew1 | refine below_set ?_ GE279.out) | exact HB.out)⟩⟩
                                        · rw [if_neg c36] at H
                                          have c36b0 : decide (x20_4 < ((rd_T45 (rd_L6 y274 x64_2) x70_3).f1)) = false := decide_eq_false c36
                                          clear c36
                                          have H' := Aside0.mk H
                                          clear H
                                          have hcz46_0 : wr.cell? ⟨gb279, 0, none⟩ = some (.int .i64 ((rd_T45 (rd_L6 y274 x64_2) x70_3).f0)) := (blk_cell BK279.out 0).trans rfl
                                          have hcz46_1 : wr.cell? ⟨gb279, 1, none⟩ = some (.int .i64 ((rd_T45 (rd_L6 y274 x64_2) x70_3).f1)) := (blk_cell BK279.out 1).trans rfl
                                          have hfz46_0 := blk_frozen BK279.out 0
                                          have hfz46_1 := blk_frozen BK279.out 1
                                          go_wp2
                                          go_roundg k4
                                          case measure => have := HJ9.out; have := HK2.out; have := HK3.out; have := HK4.out; omega
                                          case rel => exact ⟨(x15_4), (wrap64 (x70_3 + 1)), (by first | rfl | (simp; done) | (simp [*]; done)), H', ⟨by have := HJ9.out; have := HK2.out; have := HK3.out; have := HK4.out; omega⟩, ⟨by (with_reducible repeat (first | apply Kd.R_alloc | apply Kd.R_drewN | apply Kd.R_drew)); exact Kd.R_mono HO_13.out (fun _ hk => trivial)⟩, ⟨by (with_reducible repeat (first | apply Kd.R_alloc | apply Kd.R_drewN | apply Kd.R_drew)); exact HO_15.out⟩, ⟨by (with_reducible repeat (first | apply Kd.N_alloc | apply Kd.N_drewN | apply Kd.N_drew)); exact Kd.N_mono HO_62.out (fun _ hk => ⟨hk.1, hk.2.1⟩)⟩, ⟨by (with_reducible repeat (first | apply Kd.V_alloc | apply Kd.V_drewN | apply Kd.V_drew)); exact Kd.V_mono HX.out (fun _ hk => hk.1)⟩, ⟨by repeat (first | (with_reducible first | exact HB.out | apply below_alloc | apply pw_below_drewN | apply below_drew1 | refine below_set ?_ GE279.out) | exact HB.out)⟩⟩
                                  · rw [if_neg c32] at H
                                    exact absurd H (by simp)
                                · rw [if_neg c31] at H
                                  exact absurd H (by simp)
                              · rw [if_neg c30] at H
                                have c30b0 : decide (x70_3 < ((rd_L6 y274 x64_2).length : Int)) = false := decide_eq_false c30
                                clear c30
                                have H' := Aside0.mk H
                                clear H
                                go_wp2
                                go_roundg k3
                                case measure => have := HJ9.out; have := HK2.out; have := HK3.out; omega
                                case rel => exact ⟨(x15_3), (wrap64 (x64_2 + 1)), (by first | rfl | (simp; done) | (simp [*]; done)), H', ⟨by have := HJ9.out; have := HK2.out; have := HK3.out; omega⟩, ⟨by (with_reducible repeat (first | apply Kd.R_alloc | apply Kd.R_drewN | apply Kd.R_drew)); exact HO_13.out⟩, ⟨by (with_reducible repeat (first | apply Kd.R_alloc | apply Kd.R_drewN | apply Kd.R_drew)); exact HO_15.out⟩, ⟨by (with_reducible repeat (first | apply Kd.N_alloc | apply Kd.N_drewN | apply Kd.N_drew)); exact HO_62.out⟩, ⟨by repeat (first | (with_reducible first | exact HB.out | apply below_alloc | apply pw_below_drewN | apply below_drew1) | exact HB.out)⟩⟩
                        · rw [if_neg c29] at H
                          exact absurd H (by simp)
                      · rw [if_neg c28] at H
                        exact absurd H (by simp)
                    · rw [if_neg c27] at H
                      have c27b0 : decide (x64_2 < (y274.length : Int)) = false := decide_eq_false c27
                      clear c27
                      have H' := Aside0.mk H
                      clear H
                      obtain ⟨Ao47, co47, eo47⟩ := Kd.R_slice HO_13.out
                      subst eo47
                      go_wp2
                      go_loopg [99] k2 (fun kq v99 w' => ∃ (x15_3 : List Int) (x99_3 : Int), v99 = .int .i64 x99_3 ∧ Aside0 (colophonlaw16_PickSplits.l3 kq x15_3 t267 (t267.length : Int) x99_3 = some r) ∧ Aside0 (kq ≤ k2) ∧ Aside0 (Kd.R (Kd.int .i64) 3 w' w.heap.size (fun _ => True) v272 x15_3) ∧ Aside0 (Kd.R k45 45 w' w.heap.size (fun _ => True) (.slice Ao47 t267.length co47) t267) ∧ Aside0 (Below w.heap.size w w'))
                      case atStart => exact ⟨(x15_2), (0), (by first | rfl | (simp; done) | (simp [*]; done)), H', ⟨Nat.le_refl _⟩, ⟨by (with_reducible repeat (first | apply Kd.R_alloc | apply Kd.R_drewN | apply Kd.R_drew)); exact HO_15.out⟩, ⟨by (with_reducible repeat (first | apply Kd.R_alloc | apply Kd.R_drewN | apply Kd.R_drew)); exact HO_13.out⟩, ⟨by repeat (first | (with_reducible first | exact HB.out | apply below_alloc | apply pw_below_drewN | apply below_drew1) | exact HB.out)⟩⟩
                      case round =>
                        clear H'
                        try clear c1
                        try clear c2
                        try clear p2
                        try clear q2
                        try clear hx2
                        try clear c3
                        try clear p3
                        try clear q3
                        try clear hx3
                        try clear c5
                        try clear c6
                        try clear p6
                        try clear c15
                        try clear c15b0
                        try clear c15b1
                        try clear c16
                        try clear c17
                        try clear c17b0
                        try clear c17b1
                        try clear c18
                        try clear c18b0
                        try clear c18b1
                        try clear c19
                        try clear c19b0
                        try clear c19b1
                        try clear c27
                        try clear c27b0
                        try clear p27
                        try clear q27
                        try clear hx27
                        try clear c28
                        try clear c28b0
                        try clear p28
                        try clear q28
                        try clear hx28
                        try clear c29
                        try clear c29b0
                        try clear c30
                        try clear c30b0
                        try clear c31
                        try clear c31b0
                        try clear c32
                        try clear c32b0
                        try clear c36
                        try clear c36b0
                        try clear c37
                        try clear c37b0
                        try clear c38
                        try clear c38b0
                        try clear p39
                        try clear q39
                        try clear hx39
                        try clear hf39
                        try clear hcz35_0
                        try clear hcz35_1
                        try clear hcz40_0
                        try clear hcz40_1
                        try clear hcz44_0
                        try clear hcz44_1
                        try clear hcz46_0
                        try clear hcz46_1
                        try clear hfz35_0
                        try clear hfz35_1
                        try clear hfz40_0
                        try clear hfz40_1
                        try clear hfz44_0
                        try clear hfz44_1
                        try clear hfz46_0
                        try clear hfz46_1
                        try clear hx277_0
                        try clear hx278_0
                        try clear hx278_1
                        try clear hx280_0
                        try clear hx39_0
                        try clear p2
                        try clear p27
                        try clear p277
                        try clear p278
                        try clear p280
                        try clear p39
                        try clear q2
                        try clear q27
                        try clear q277
                        try clear q278
                        try clear q280
                        try clear q39
                        obtain ⟨x15_3, x99_3, rfl, HA, HK3, HO_15, HO_97, HB⟩ := hrel
                        cases gk with
                        | zero => exact absurd HA.out (by simp [colophonlaw16_PickSplits.l3])
                        | succ k3 =>
                          have H := HA.out
                          clear HA
                          simp only [colophonlaw16_PickSplits.l3] at H
                          by_cases c48 : x99_3 < (t267.length : Int)
                          · rw [if_pos c48] at H
                            have c48b0 : decide (x99_3 < (t267.length : Int)) = true := decide_eq_true c48
                            clear c48
                            by_cases c49 : 0 ≤ x99_3
                            · rw [if_pos c49] at H
                              have c49b0 : decide (0 ≤ x99_3) = true := decide_eq_true c49
                              clear c49
                              by_cases c50 : x99_3 < (t267.length : Int)
                              · rw [if_pos c50] at H
                                have c50b0 : decide (x99_3 < (t267.length : Int)) = true := decide_eq_true c50
                                clear c50
                                obtain ⟨ji51, hji51⟩ : ∃ j_ : Int, (mx 0 ((rd_T45 t267 x99_3).f0)) = j_ := ⟨_, rfl⟩
                                replace H : (colophonlaw16_PickSplits.l4 k3 x15_3 ji51 t267 (t267.length : Int) x99_3 ((rd_T45 t267 x99_3).f0) ((rd_T45 t267 x99_3).f1)) = some r := by first | (rw [hji51] at H; exact H) | (simp only [hji51] at H ⊢; exact H)
                                have hji51_ : (if 0 < ((rd_T45 t267 x99_3).f0) then ((rd_T45 t267 x99_3).f0) else 0) = ji51 := hji51
                                have H' := Aside0.mk H
                                clear H
                                have p282 : 0 ≤ (x99_3 : Int) := of_decide_eq_true (by first | (with_reducible assumption) | assumption)
                                have q282 : x99_3 < (t267.length : Int) := of_decide_eq_true (by first | (with_reducible assumption) | assumption)
                                obtain ⟨ad282, e282, hx282_0, hx282_1⟩ := at_T45 (Kd.R_reads' HO_97.out).2.2 x99_3 p282 q282
                                cases e282
                                replace p282 := eq_true p282
                                replace q282 := eq_true q282
                                go_wp2_with (first | ((with_reducible refine gate_dst (N := 22) rfl ?_); (try (refine gate_guard (by rfl) ?_; dsimp only)); refine box_event ?hg (N := 22) ?hd (cs := #[.int .i64 0, .int .i64 0]) (t := 45) ?hr ?_; (case hd => rfl); (case hg => rfl); (case hr => first | (go_simp; done) | (go_simp; rfl)); intro gb283 hg w52 hbox hb; have n0_ := Aside0.mk (Kd.R_below (by (with_reducible repeat (first | apply Kd.R_alloc | apply Kd.R_drewN | apply Kd.R_drew)); exact HO_15.out) hb); have n1_ := Aside0.mk (Kd.R_below (Kd.R_elderB (by (with_reducible repeat (first | apply Kd.R_alloc | apply Kd.R_drewN | apply Kd.R_drew)); exact HO_97.out) gb283 (Nat.le_of_eq hg.symm)) hb); have n2_ := Aside0.mk (below_step (by repeat (first | (with_reducible first | exact HB.out | apply below_alloc | apply pw_below_drewN | apply below_drew1) | exact HB.out)) hb); have n3_ := Aside0.mk (hbox); have n4_ := Aside0.mk ((by rw [hg]; exact (below_size (by repeat (first | (with_reducible first | exact HB.out | apply below_alloc | apply pw_below_drewN | apply below_drew1) | exact HB.out))) : w.heap.size ≤ gb283)); have n5_ := Aside0.mk ((by rw [hg]; exact (below_size (by repeat (first | (with_reducible first | exact HB.out | apply below_alloc | apply pw_below_drewN | apply below_drew1) | exact HB.out))) : w.heap.size ≤ gb283)); clear HO_15; clear HO_97; clear HB; have HO_15 := n0_; have HO_97 := n1_; have HB := n2_; have BK283 := n3_; have GW283 := n4_; have GE283 := n5_; clear n0_ n1_ n2_ n3_ n4_ n5_; clear hb hbox hg; have hcz53_0 : w52.cell? ⟨gb283, 0, none⟩ = some (.int .i64 0) := (blk_cell BK283.out 0).trans rfl; have hcz53_1 : w52.cell? ⟨gb283, 1, none⟩ = some (.int .i64 0) := (blk_cell BK283.out 1).trans rfl; have hfz53_0 := blk_frozen BK283.out 0; have hfz53_1 := blk_frozen BK283.out 1))
                                go_loopg [23] k3 (fun kq v23 w' => ∃ (x15_4 : List Int) (x23_4 : Int), v23 = .int .i64 x23_4 ∧ Aside0 (colophonlaw16_PickSplits.l4 kq x15_4 x23_4 t267 (t267.length : Int) x99_3 ((rd_T45 t267 x99_3).f0) ((rd_T45 t267 x99_3).f1) = some r) ∧ Aside0 (kq ≤ k3) ∧ Aside0 (Kd.R (Kd.int .i64) 3 w' w.heap.size (fun _ => True) v272 x15_4) ∧ Aside0 (Kd.R k45 45 w' w.heap.size (fun k_ => k_ ≠ gb283) (.slice (some ad282) t267.length co47) t267) ∧ Aside0 (w'.heap[gb283]? = some (.cells #[.int .i64 ((rd_T45 t267 x99_3).f0), .int .i64 ((rd_T45 t267 x99_3).f1)] 45 (0, 0))) ∧ Aside0 (Below w.heap.size w w'))
                                case atStart => exact ⟨(x15_3), (ji51), (by first | rfl | (simp; done) | (simp only [← hji51] <;> (first | rfl | simp)) | (simp [*]; done)), H', ⟨Nat.le_refl _⟩, ⟨by (with_reducible repeat (first | apply Kd.R_alloc | apply Kd.R_drewN | apply Kd.R_drew)); exact Kd.R_mono (Kd.R_far (p := ⟨gb283, 1, none⟩) (Kd.R_far (p := ⟨gb283, 0, none⟩) (Kd.R_types HO_15.out BK283.out (by decide)) (fun _ hk => hk.2) (.int .i64 ((rd_T45 t267 x99_3).f0))) (fun _ hk => hk.2) (.int .i64 ((rd_T45 t267 x99_3).f1))) (fun _ hk => trivial)⟩, ⟨by (with_reducible repeat (first | apply Kd.R_alloc | apply Kd.R_drewN | apply Kd.R_drew)); exact Kd.R_mono (Kd.R_far (p := ⟨gb283, 1, none⟩) (Kd.R_far (p := ⟨gb283, 0, none⟩) (Kd.R_mono HO_97.out (fun k_ hk => (⟨hk, hk.2⟩ : _ ∧ k_ ≠ gb283))) (fun _ hk => hk.2) (.int .i64 ((rd_T45 t267 x99_3).f0))) (fun _ hk => hk.2) (.int .i64 ((rd_T45 t267 x99_3).f1))) (fun _ hk => hk.1.2)⟩, ⟨by (with_reducible repeat (first | refine blk_drewN ?_ _ | refine blk_drew ?_ | refine blk_alloc ?_ _)); refine blk_put (cs := #[.int .i64 ((rd_T45 t267 x99_3).f0), .int .i64 0]) ?_ 1 _ rfl; (with_reducible repeat (first | refine blk_drewN ?_ _ | refine blk_drew ?_ | refine blk_alloc ?_ _)); refine blk_put (cs := #[.int .i64 0, .int .i64 0]) ?_ 0 _ rfl; (with_reducible repeat (first | refine blk_drewN ?_ _ | refine blk_drew ?_ | refine blk_alloc ?_ _)); exact BK283.out⟩, ⟨by repeat (first | (with_reducible first | exact HB.out | apply below_alloc | apply pw_below_drewN | apply below_drew1 | refine below_set ?_ GE283.out) | exact HB.out)⟩⟩
                                case round =>
                                  clear H'
                                  try clear c1
                                  try clear c2
                                  try clear p2
                                  try clear q2
                                  try clear hx2
                                  try clear c3
                                  try clear p3
                                  try clear q3
                                  try clear hx3
                                  try clear c4
                                  try clear c5
                                  try clear c6
                                  try clear p6
                                  try clear c15
                                  try clear c15b0
                                  try clear c15b1
                                  try clear c16
                                  try clear c17
                                  try clear c17b0
                                  try clear c17b1
                                  try clear c18
                                  try clear c18b0
                                  try clear c18b1
                                  try clear c19
                                  try clear c19b0
                                  try clear c19b1
                                  try clear c27
                                  try clear c27b0
                                  try clear p27
                                  try clear q27
                                  try clear hx27
                                  try clear c28
                                  try clear c28b0
                                  try clear p28
                                  try clear q28
                                  try clear hx28
                                  try clear c29
                                  try clear c29b0
                                  try clear c30
                                  try clear c30b0
                                  try clear c31
                                  try clear c31b0
                                  try clear c32
                                  try clear c32b0
                                  try clear c36
                                  try clear c36b0
                                  try clear c37
                                  try clear c37b0
                                  try clear c38
                                  try clear c38b0
                                  try clear p39
                                  try clear q39
                                  try clear hx39
                                  try clear hf39
                                  try clear c48
                                  try clear c48b0
                                  try clear c49
                                  try clear c49b0
                                  try clear c50
                                  try clear c50b0
                                  try clear c52
                                  try clear c53
                                  try clear hcz35_0
                                  try clear hcz35_1
                                  try clear hcz40_0
                                  try clear hcz40_1
                                  try clear hcz44_0
                                  try clear hcz44_1
                                  try clear hcz46_0
                                  try clear hcz46_1
                                  try clear hcz53_0
                                  try clear hcz53_1
                                  try clear hfz35_0
                                  try clear hfz35_1
                                  try clear hfz40_0
                                  try clear hfz40_1
                                  try clear hfz44_0
                                  try clear hfz44_1
                                  try clear hfz46_0
                                  try clear hfz46_1
                                  try clear hfz53_0
                                  try clear hfz53_1
                                  try clear hx277_0
                                  try clear hx278_0
                                  try clear hx278_1
                                  try clear hx280_0
                                  try clear hx282_0
                                  try clear hx282_1
                                  try clear hx39_0
                                  try clear p2
                                  try clear p27
                                  try clear p277
                                  try clear p278
                                  try clear p28
                                  try clear p280
                                  try clear p282
                                  try clear p3
                                  try clear p39
                                  try clear p6
                                  try clear q2
                                  try clear q27
                                  try clear q277
                                  try clear q278
                                  try clear q28
                                  try clear q280
                                  try clear q282
                                  try clear q3
                                  try clear q39
                                  obtain ⟨x15_4, x23_4, rfl, HA, HK4, HO_15, HO_97, BK283, HB⟩ := hrel
                                  cases gk with
                                  | zero => exact absurd HA.out (by simp [colophonlaw16_PickSplits.l4])
                                  | succ k4 =>
                                    have H := HA.out
                                    clear HA
                                    simp only [colophonlaw16_PickSplits.l4] at H
                                    by_cases c54 : x23_4 < ((rd_T45 t267 x99_3).f1)
                                    · rw [if_pos c54] at H
                                      have c54b0 : decide (x23_4 < ((rd_T45 t267 x99_3).f1)) = true := decide_eq_true c54
                                      clear c54
                                      by_cases c55 : x23_4 < (x15_4.length : Int)
                                      · rw [if_pos c55] at H
                                        have c55b0 : decide (x23_4 < (x15_4.length : Int)) = true := decide_eq_true c55
                                        clear c55
                                        by_cases c56 : 0 ≤ x23_4
                                        · rw [if_pos c56] at H
                                          have c56b0 : decide (0 ≤ x23_4) = true := decide_eq_true c56
                                          clear c56
                                          obtain ⟨y285, hy285⟩ : ∃ y_ : List Int, y_ = (x15_4.set (x23_4 : Int).toNat (wrap64 ((rd x15_4 x23_4) + 10))) := ⟨_, rfl⟩
                                          replace H : (colophonlaw16_PickSplits.l4 k4 y285 (wrap64 (x23_4 + 1)) t267 (t267.length : Int) x99_3 ((rd_T45 t267 x99_3).f0) ((rd_T45 t267 x99_3).f1)) = some r := by first | (rw [hy285]; with_reducible exact H) | (have H2_ := (Option.bind_some _ _).symm.trans H; rw [hy285]; with_reducible exact H2_) | (have H2_ := (Option.bind_some _ _).symm.trans H; with_reducible exact H2_) | with_reducible exact H | (rw [hy285]; exact H) | exact H
                                          have Ny285 := Aside0.mk hy285
                                          clear hy285
                                          have H' := Aside0.mk H
                                          clear H
                                          have hcz58_0 : wr.cell? ⟨gb283, 0, none⟩ = some (.int .i64 ((rd_T45 t267 x99_3).f0)) := (blk_cell BK283.out 0).trans rfl
                                          have hcz58_1 : wr.cell? ⟨gb283, 1, none⟩ = some (.int .i64 ((rd_T45 t267 x99_3).f1)) := (blk_cell BK283.out 1).trans rfl
                                          have hfz58_0 := blk_frozen BK283.out 0
                                          have hfz58_1 := blk_frozen BK283.out 1
                                          obtain ⟨Ao59, co59, eo59⟩ := Kd.R_slice HO_15.out
                                          subst eo59
                                          have p284 : 0 ≤ (x23_4 : Int) := of_decide_eq_true (by first | (with_reducible assumption) | assumption)
                                          have q284 : x23_4 < (x15_4.length : Int) := of_decide_eq_true (by first | (with_reducible assumption) | assumption)
                                          obtain ⟨ad284, e284, hx284_0⟩ := Kd.at_int (Kd.R_reads' HO_15.out).2.2 x23_4 p284 q284
                                          cases e284
                                          replace p284 := eq_true p284
                                          replace q284 := eq_true q284
                                          have p57 : 0 ≤ (x23_4 : Int) := of_decide_eq_true (by first | (with_reducible assumption) | assumption)
                                          have q57 : (x23_4 : Int) < ((x15_4.length : Int) : Int) := of_decide_eq_true (by first | (with_reducible assumption) | assumption)
                                          obtain ⟨go57, co57, eo57, gb57, gl57, cl57, HG57⟩ := Kd.R_form HO_15.out (by omega)
                                          (first | cases eo57 | (injection eo57 with ea_ en_ ec_; (first | subst ea_ | (injection ea_ with ea_; subst ea_)); subst ec_; clear en_))
                                          have GB57 := Aside0.mk gb57
                                          have GG57 := Aside0.mk HG57
                                          clear gb57 gl57 HG57
                                          (first | simp only [add_plain] at hx284_0 | skip)
                                          obtain ⟨hx57_0, hf57_0⟩ := Kd.R_celln 0 HO_15.out (x23_4 : Int) p57 q57
                                          replace p57 := eq_true p57
                                          replace q57 := eq_true q57
                                          have HP60 := Kd.R_putg HO_15.out (x23_4 : Int) (wrap64 ((rd x15_4 x23_4) + 10))
                                          go_wp2_with (first | ((with_reducible refine gate_store (t := 3) (p := 123) rfl ?_); refine store_event (t := 3) (p := 123) (v := ?vo_w61) (w1 := (wr.setCell ⟨go57, (x23_4 : Int).toNat, none⟩ (.int .i64 (wrap64 ((rd x15_4 x23_4) + 10))))) ?hg ?ho ?hn ?hr ?_; (case ho => rfl); (case hg => rfl); (case hn => rfl); (case hr => first | (go_simp; done) | (go_simp; rfl)); intro w61 hw; have hg : wr.grownBy w61 (some go57) := (by rw [hw]; exact HP60.2); have hp_ : Kd.R (Kd.int .i64) 3 w61 w.heap.size (fun _ => True) (.slice (some ⟨go57, 0, none⟩) x15_4.length co59) y285 := (by rw [hw, Ny285.out]; exact HP60.1); clear HP60; have n0_ := Aside0.mk (hp_); have n1_ := Aside0.mk (Kd.R_over' (v := (.slice (some ⟨go57, 0, none⟩) x15_4.length co59)) (by (with_reducible repeat (first | apply Kd.R_alloc | apply Kd.R_drewN | apply Kd.R_drew)); exact HO_97.out) (Kd.R_typed HO_15.out) (by decide) hg); have n2_ := Aside0.mk (blk_grown (g := gb283) (o := .cells #[.int .i64 ((rd_T45 t267 x99_3).f0), .int .i64 ((rd_T45 t267 x99_3).f1)] 45 (0, 0)) (by (with_reducible repeat (first | refine blk_drewN ?_ _ | refine blk_drew ?_ | refine blk_alloc ?_ _)); exact BK283.out) hg (Kd.R_ne HO_15.out BK283.out (by decide))); have n3_ := Aside0.mk ((by rw [hw]; exact below_set (HB.out) GB57.out : Below w.heap.size w w61)); clear HO_15; clear HO_97; clear BK283; clear HB; have HO_15 := n0_; have HO_97 := n1_; have BK283 := n2_; have HB := n3_; clear n0_ n1_ n2_ n3_; clear hg hw hp_))
                                          go_roundg k4
                                          case measure => have := HJ9.out; have := HK2.out; have := HK3.out; have := HK4.out; omega
                                          case rel => exact ⟨(y285), (wrap64 (x23_4 + 1)), (by first | rfl | (simp; done) | (simp [*]; done)), H', ⟨by have := HJ9.out; have := HK2.out; have := HK3.out; have := HK4.out; omega⟩, ⟨by (with_reducible repeat (first | apply Kd.R_alloc | apply Kd.R_drewN | apply Kd.R_drew)); exact HO_15.out⟩, ⟨by (with_reducible repeat (first | apply Kd.R_alloc | apply Kd.R_drewN | apply Kd.R_drew)); exact HO_97.out⟩, ⟨by (with_reducible repeat (first | refine blk_drewN ?_ _ | refine blk_drew ?_ | refine blk_alloc ?_ _)); exact BK283.out⟩, ⟨by repeat (first | (with_reducible first | exact HB.out | apply below_alloc | apply pw_below_drewN | apply below_drew1 | refine below_set ?_ GE283.out) | exact HB.out)⟩⟩
                                        · rw [if_neg c56] at H
                                          exact absurd H (by simp)
                                      · rw [if_neg c55] at H
                                        have c55b0 : decide (x23_4 < (x15_4.length : Int)) = false := decide_eq_false c55
                                        clear c55
                                        have H' := Aside0.mk H
                                        clear H
                                        have hcz62_0 : wr.cell? ⟨gb283, 0, none⟩ = some (.int .i64 ((rd_T45 t267 x99_3).f0)) := (blk_cell BK283.out 0).trans rfl
                                        have hcz62_1 : wr.cell? ⟨gb283, 1, none⟩ = some (.int .i64 ((rd_T45 t267 x99_3).f1)) := (blk_cell BK283.out 1).trans rfl
                                        have hfz62_0 := blk_frozen BK283.out 0
                                        have hfz62_1 := blk_frozen BK283.out 1
                                        obtain ⟨Ao63, co63, eo63⟩ := Kd.R_slice HO_15.out
                                        subst eo63
                                        go_wp2
                                        go_roundg k4
                                        case measure => have := HJ9.out; have := HK2.out; have := HK3.out; have := HK4.out; omega
                                        case rel => exact ⟨(x15_4), (wrap64 (x99_3 + 1)), (by first | rfl | (simp; done) | (simp [*]; done)), H', ⟨by have := HJ9.out; have := HK2.out; have := HK3.out; have := HK4.out; omega⟩, ⟨by (with_reducible repeat (first | apply Kd.R_alloc | apply Kd.R_drewN | apply Kd.R_drew)); exact HO_15.out⟩, ⟨by (with_reducible repeat (first | apply Kd.R_alloc | apply Kd.R_drewN | apply Kd.R_drew)); exact Kd.R_mono HO_97.out (fun _ hk => trivial)⟩, ⟨by repeat (first | (with_reducible first | exact HB.out | apply below_alloc | apply pw_below_drewN | apply below_drew1 | refine below_set ?_ GE283.out) | exact HB.out)⟩⟩
                                    · rw [if_neg c54] at H
                                      have c54b0 : decide (x23_4 < ((rd_T45 t267 x99_3).f1)) = false := decide_eq_false c54
                                      clear c54
                                      have H' := Aside0.mk H
                                      clear H
                                      have hcz64_0 : wr.cell? ⟨gb283, 0, none⟩ = some (.int .i64 ((rd_T45 t267 x99_3).f0)) := (blk_cell BK283.out 0).trans rfl
                                      have hcz64_1 : wr.cell? ⟨gb283, 1, none⟩ = some (.int .i64 ((rd_T45 t267 x99_3).f1)) := (blk_cell BK283.out 1).trans rfl
                                      have hfz64_0 := blk_frozen BK283.out 0
                                      have hfz64_1 := blk_frozen BK283.out 1
                                      go_wp2
                                      go_roundg k4
                                      case measure => have := HJ9.out; have := HK2.out; have := HK3.out; have := HK4.out; omega
                                      case rel => exact ⟨(x15_4), (wrap64 (x99_3 + 1)), (by first | rfl | (simp; done) | (simp [*]; done)), H', ⟨by have := HJ9.out; have := HK2.out; have := HK3.out; have := HK4.out; omega⟩, ⟨by (with_reducible repeat (first | apply Kd.R_alloc | apply Kd.R_drewN | apply Kd.R_drew)); exact HO_15.out⟩, ⟨by (with_reducible repeat (first | apply Kd.R_alloc | apply Kd.R_drewN | apply Kd.R_drew)); exact Kd.R_mono HO_97.out (fun _ hk => trivial)⟩, ⟨by repeat (first | (with_reducible first | exact HB.out | apply below_alloc | apply pw_below_drewN | apply below_drew1 | refine below_set ?_ GE283.out) | exact HB.out)⟩⟩
                              · rw [if_neg c50] at H
                                exact absurd H (by simp)
                            · rw [if_neg c49] at H
                              exact absurd H (by simp)
                          · rw [if_neg c48] at H
                            have c48b0 : decide (x99_3 < (t267.length : Int)) = false := decide_eq_false c48
                            clear c48
                            have H' := Aside0.mk H
                            clear H
                            obtain ⟨Ao65, co65, eo65⟩ := Kd.R_slice HO_15.out
                            subst eo65
                            go_wp2
                            go_loopg [127] k3 (fun kq v127 w' => ∃ (x127_4 : Int), v127 = .int .i64 x127_4 ∧ Aside0 (colophonlaw16_PickSplits.l5 kq x15_3 (x15_3.length : Int) x127_4 = some r) ∧ Aside0 (kq ≤ k3) ∧ Aside0 (Kd.R (Kd.int .i64) 3 w' w.heap.size (fun _ => True) (.slice Ao65 x15_3.length co65) x15_3) ∧ Aside0 (Below w.heap.size w w'))
                            case atStart => exact ⟨(0), (by first | rfl | (simp; done) | (simp [*]; done)), H', ⟨Nat.le_refl _⟩, ⟨by (with_reducible repeat (first | apply Kd.R_alloc | apply Kd.R_drewN | apply Kd.R_drew)); exact HO_15.out⟩, ⟨by repeat (first | (with_reducible first | exact HB.out | apply below_alloc | apply pw_below_drewN | apply below_drew1) | exact HB.out)⟩⟩
                            case round =>
                              clear H'
                              try clear c1
                              try clear c2
                              try clear p2
                              try clear q2
                              try clear hx2
                              try clear c3
                              try clear p3
                              try clear q3
                              try clear hx3
                              try clear c4
                              try clear c5
                              try clear p5
                              try clear q5
                              try clear hx5
                              try clear hf5
                              try clear c6
                              try clear p6
                              try clear c15
                              try clear c15b0
                              try clear c15b1
                              try clear c16
                              try clear c17
                              try clear c17b0
                              try clear c17b1
                              try clear c18
                              try clear c18b0
                              try clear c18b1
                              try clear c19
                              try clear c19b0
                              try clear c19b1
                              try clear c27
                              try clear c27b0
                              try clear p27
                              try clear q27
                              try clear hx27
                              try clear c28
                              try clear c28b0
                              try clear p28
                              try clear q28
                              try clear hx28
                              try clear c29
                              try clear c29b0
                              try clear c30
                              try clear c30b0
                              try clear c31
                              try clear c31b0
                              try clear c32
                              try clear c32b0
                              try clear c36
                              try clear c36b0
                              try clear c37
                              try clear c37b0
                              try clear c38
                              try clear c38b0
                              try clear p39
                              try clear q39
                              try clear hx39
                              try clear hf39
                              try clear c48
                              try clear c48b0
                              try clear c49
                              try clear c49b0
                              try clear c50
                              try clear c50b0
                              try clear c52
                              try clear c53
                              try clear c54
                              try clear c54b0
                              try clear c55
                              try clear c55b0
                              try clear c56
                              try clear c56b0
                              try clear p57
                              try clear q57
                              try clear hx57
                              try clear hf57
                              try clear p64
                              try clear hcz35_0
                              try clear hcz35_1
                              try clear hcz40_0
                              try clear hcz40_1
                              try clear hcz44_0
                              try clear hcz44_1
                              try clear hcz46_0
                              try clear hcz46_1
                              try clear hcz53_0
                              try clear hcz53_1
                              try clear hcz58_0
                              try clear hcz58_1
                              try clear hcz62_0
                              try clear hcz62_1
                              try clear hcz64_0
                              try clear hcz64_1
                              try clear hfz35_0
                              try clear hfz35_1
                              try clear hfz40_0
                              try clear hfz40_1
                              try clear hfz44_0
                              try clear hfz44_1
                              try clear hfz46_0
                              try clear hfz46_1
                              try clear hfz53_0
                              try clear hfz53_1
                              try clear hfz58_0
                              try clear hfz58_1
                              try clear hfz62_0
                              try clear hfz62_1
                              try clear hfz64_0
                              try clear hfz64_1
                              try clear hx277_0
                              try clear hx278_0
                              try clear hx278_1
                              try clear hx280_0
                              try clear hx282_0
                              try clear hx282_1
                              try clear hx284_0
                              try clear hx39_0
                              try clear hx57_0
                              try clear p2
                              try clear p27
                              try clear p277
                              try clear p278
                              try clear p28
                              try clear p280
                              try clear p282
                              try clear p284
                              try clear p3
                              try clear p39
                              try clear p57
                              try clear p6
                              try clear q2
                              try clear q27
                              try clear q277
                              try clear q278
                              try clear q28
                              try clear q280
                              try clear q282
                              try clear q284
                              try clear q3
                              try clear q39
                              try clear q57
                              obtain ⟨x127_4, rfl, HA, HK4, HO_125, HB⟩ := hrel
                              cases gk with
                              | zero => exact absurd HA.out (by simp [colophonlaw16_PickSplits.l5])
                              | succ k4 =>
                                have H := HA.out
                                clear HA
                                simp only [colophonlaw16_PickSplits.l5] at H
                                by_cases c66 : x127_4 < (x15_3.length : Int)
                                · rw [if_pos c66] at H
                                  have c66b0 : decide (x127_4 < (x15_3.length : Int)) = true := decide_eq_true c66
                                  clear c66
                                  by_cases c67 : 0 ≤ x127_4
                                  · rw [if_pos c67] at H
                                    have c67b0 : decide (0 ≤ x127_4) = true := decide_eq_true c67
                                    clear c67
                                    by_cases c68 : x127_4 < (x15_3.length : Int)
                                    · rw [if_pos c68] at H
                                      have c68b0 : decide (x127_4 < (x15_3.length : Int)) = true := decide_eq_true c68
                                      clear c68
                                      by_cases c69 : (rd x15_3 x127_4) = 0
                                      · rw [if_pos c69] at H
                                        have c69b0 : ((rd x15_3 x127_4) == 0) = true := beq_iff_eq.mpr c69
                                        have c69b1 : ((rd x15_3 x127_4) != 0) = false := bne_eq_false_iff_eq.mpr c69
                                        clear c69
                                        have H' := Aside0.mk H
                                        clear H
                                        have p286 : 0 ≤ (x127_4 : Int) := of_decide_eq_true (by first | (with_reducible assumption) | assumption)
                                        have q286 : x127_4 < (x15_3.length : Int) := of_decide_eq_true (by first | (with_reducible assumption) | assumption)
                                        obtain ⟨ad286, e286, hx286_0⟩ := Kd.at_int (Kd.R_reads' HO_125.out).2.2 x127_4 p286 q286
                                        cases e286
                                        replace p286 := eq_true p286
                                        replace q286 := eq_true q286
                                        go_wp2
                                        go_roundg k4
                                        case measure => have := HJ9.out; have := HK2.out; have := HK3.out; have := HK4.out; omega
                                        case rel => exact ⟨(wrap64 (x127_4 + 1)), (by first | rfl | (simp; done) | (simp [*]; done)), H', ⟨by have := HJ9.out; have := HK2.out; have := HK3.out; have := HK4.out; omega⟩, ⟨by (with_reducible repeat (first | apply Kd.R_alloc | apply Kd.R_drewN | apply Kd.R_drew)); exact HO_125.out⟩, ⟨by repeat (first | (with_reducible first | exact HB.out | apply below_alloc | apply pw_below_drewN | apply below_drew1) | exact HB.out)⟩⟩
                                      · rw [if_neg c69] at H
                                        have c69b0 : ((rd x15_3 x127_4) == 0) = false := beq_eq_false_iff_ne.mpr c69
                                        have c69b1 : ((rd x15_3 x127_4) != 0) = true := bne_iff_ne.mpr c69
                                        by_cases c70 : (rd x15_3 x127_4) = 11
                                        · rw [if_pos c70] at H
                                          have c70b0 : ((rd x15_3 x127_4) == 11) = true := beq_iff_eq.mpr c70
                                          have c70b1 : ((rd x15_3 x127_4) != 11) = false := bne_eq_false_iff_eq.mpr c70
                                          clear c70
                                          have H' := Aside0.mk H
                                          clear H
                                          have p286 : 0 ≤ (x127_4 : Int) := of_decide_eq_true (by first | (with_reducible assumption) | assumption)
                                          have q286 : x127_4 < (x15_3.length : Int) := of_decide_eq_true (by first | (with_reducible assumption) | assumption)
                                          obtain ⟨ad286, e286, hx286_0⟩ := Kd.at_int (Kd.R_reads' HO_125.out).2.2 x127_4 p286 q286
                                          cases e286
                                          replace p286 := eq_true p286
                                          replace q286 := eq_true q286
                                          go_wp2
                                          go_roundg k4
                                          case measure => have := HJ9.out; have := HK2.out; have := HK3.out; have := HK4.out; omega
                                          case rel => exact ⟨(wrap64 (x127_4 + 1)), (by first | rfl | (simp; done) | (simp [*]; done)), H', ⟨by have := HJ9.out; have := HK2.out; have := HK3.out; have := HK4.out; omega⟩, ⟨by (with_reducible repeat (first | apply Kd.R_alloc | apply Kd.R_drewN | apply Kd.R_drew)); exact HO_125.out⟩, ⟨by repeat (first | (with_reducible first | exact HB.out | apply below_alloc | apply pw_below_drewN | apply below_drew1) | exact HB.out)⟩⟩
                                        · rw [if_neg c70] at H
                                          have c70b0 : ((rd x15_3 x127_4) == 11) = false := beq_eq_false_iff_ne.mpr c70
                                          have c70b1 : ((rd x15_3 x127_4) != 11) = true := bne_iff_ne.mpr c70
                                          obtain rfl := Option.some.inj H
                                          have p286 : 0 ≤ (x127_4 : Int) := of_decide_eq_true (by first | (with_reducible assumption) | assumption)
                                          have q286 : x127_4 < (x15_3.length : Int) := of_decide_eq_true (by first | (with_reducible assumption) | assumption)
                                          obtain ⟨ad286, e286, hx286_0⟩ := Kd.at_int (Kd.R_reads' HO_125.out).2.2 x127_4 p286 q286
                                          cases e286
                                          replace p286 := eq_true p286
                                          replace q286 := eq_true q286
                                          go_wp2
                                          go_ret
                                          exact ⟨by first | rfl | (simp [errW_none, errW_some] <;> rfl) | (simp [*, errW_none, errW_some] <;> rfl), by repeat (first | (with_reducible first | exact HB.out | apply below_alloc | apply pw_below_drewN | apply below_drew1) | exact HB.out)⟩
                                    · rw [if_neg c68] at H
                                      exact absurd H (by simp)
                                  · rw [if_neg c67] at H
                                    exact absurd H (by simp)
                                · rw [if_neg c66] at H
                                  have c66b0 : decide (x127_4 < (x15_3.length : Int)) = false := decide_eq_false c66
                                  clear c66
                                  obtain rfl := Option.some.inj H
                                  go_wp2
                                  go_ret
                                  exact ⟨by first | rfl | (simp [errW_none, errW_some] <;> rfl) | (simp [*, errW_none, errW_some] <;> rfl), by repeat (first | (with_reducible first | exact HB.out | apply below_alloc | apply pw_below_drewN | apply below_drew1) | exact HB.out)⟩
              · rw [if_neg c19] at H
                exact absurd H (by simp)
            · rw [if_neg c18] at H
              exact absurd H (by simp)
          · rw [if_neg c17] at H
            have c17b0 : (t268 == 0) = false := beq_eq_false_iff_ne.mpr c17
            have c17b1 : (t268 != 0) = true := bne_iff_ne.mpr c17
            obtain rfl := Option.some.inj H
            go_wp2
            go_ret
            exact ⟨by first | rfl | (simp [errW_none, errW_some] <;> rfl) | (simp [*, errW_none, errW_some] <;> rfl), by repeat (first | (with_reducible first | exact HB.out | apply below_alloc | apply pw_below_drewN | apply below_drew1) | exact HB.out)⟩
  · replace c6 := Bool.eq_false_iff.mpr c6
    subst c6
    have H1 : (some false) = some r := by rw [if_neg (show ¬ (false = true) by decide)] at H; exact H
    clear H
    have H := H1
    clear H1
    obtain rfl := Option.some.inj H
    go_enter Try.func27, Try.ntmps27
    go_wp2_with (first | ((with_reducible refine gate_callee (f := 52) rfl ?_); refine goesL_ (some 26) rfl rfl Try.func52 (by kernel_rfl) rfl #[] rfl (by (try simp only [List.map_toArray, List.map_cons, List.map_nil]); first | done | rfl | (simp only [List.length_drop, List.length_take]; rfl)) ?_; (with_reducible refine (colophonlaw16_works.calls k  false _ A5.out).mono ?_); rintro e w71 ⟨rfl, hb⟩; refine ⟨_, rfl, ?_⟩; have n0_ := Aside0.mk (below_step (by repeat (first | (with_reducible first | exact HB.out | apply below_alloc | apply pw_below_drewN | apply below_drew1) | exact HB.out)) hb); clear HB; have HB := n0_; clear n0_; (try clear hb); (try clear hb2); (try clear hk); (try clear hi)))
    go_ret
    exact ⟨by first | rfl | (simp [errW_none, errW_some] <;> rfl) | (simp [*, errW_none, errW_some] <;> rfl), by repeat (first | (with_reducible first | exact HB.out | apply below_alloc | apply pw_below_drewN | apply below_drew1) | exact HB.out)⟩

/-- THE ONE PURE STATEMENT of colophonlaw16_PickSplits: yours. -/
def colophonlaw16_PickSplits.Pure : Prop := ∀ (l0 : List Int) (a1 : Int) (a2 : Int) (a3 : Int), l0.length ≤ maxLen → l0.length * 8 ≤ 140737488351232 → (∀ x ∈ l0, (Lit.int .i64 x).wf = true) → (Lit.int .i64 a1).wf = true → (Lit.int .i64 a2).wf = true → (Lit.int .i64 a3).wf = true → ∃ k, colophonlaw16_PickSplits.f k l0 a1 a2 a3 = some true
theorem colophonlaw16_PickSplits.walk (P : colophonlaw16_PickSplits.Pure) (a0 : Option Addr) (len0 cap0 : Nat) (z0 : List Int) (a1 : Int) (a2 : Int) (a3 : Int) (w : World) (w0 : (a0 = none ∧ len0 = 0 ∧ cap0 = 0 ∧ z0 = []) ∨ ∃ x, a0 = some x ∧ len0 ≤ cap0 ∧ cap0 ≤ maxLen ∧ z0.length = cap0 ∧ (∀ i, i < z0.length → w.cell? (x.add i) = some (.int .i64 (z0.getD i 0))) ∧ ∀ n ∈ z0, (Lit.int .i64 n).wf = true) (y0 : len0 * 8 ≤ 140737488351232) (w1 : (Lit.int .i64 a1).wf = true) (w2 : (Lit.int .i64 a2).wf = true) (w3 : (Lit.int .i64 a3).wf = true) :
    Calls Try.prog 27 #[.slice a0 len0 cap0, .int .i64 a1, .int .i64 a2, .int .i64 a3] w fun e w' => e = .returned (.bool true) ∧ Below w.heap.size w w' := by
  obtain ⟨l0, rfl, hr0, hm0, hw0, hc0⟩ := ReadsInt.ofRowC w0
  obtain ⟨k, h⟩ := P l0 a1 a2 a3 hm0 y0 hw0 w1 w2 w3
  refine (colophonlaw16_PickSplits.calls k _ _ l0 a1 a2 a3 true w (Kd.C_of_reads (d := (0 : Int)) (h1 := fun _ => rfl) hr0) hc0 h).mono ?_
  rintro e w' ⟨rfl, hd⟩
  exact ⟨rfl, hd⟩

end Go.Proofs.Ytccleelhheilnaa.F
