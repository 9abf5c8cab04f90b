/- The chapter's examples of spots hold; a step from a place; a place by any number. -/
import Derived.Test.YtccleelhheilnaaSpotU
import Derived.Test.YtccleelhheilnaaSx4
namespace Go.Proofs.Ytccleelhheilnaa.Pure
set_option linter.unusedVariables false
set_option linter.unusedSimpArgs false
set_option linter.unusedSectionVars false
open Go.RowKit Go.Proofs.Ytccleelhheilnaa.F Go.Proofs.Ytccleelhheilnaa.S Go.Proofs.Ytccleelhheilnaa.Flo Go.Proofs.YtccleelhheilnaaW.PrintWords Go.Proofs.YtccleelhheilnaaW.PrintLast

theorem works15_at : colophonlaw15_works.f 60 = some true := by decide +kernel
theorem works15 {k : Nat} (h : 60 ≤ k) : colophonlaw15_works.f k = some true := by
  obtain ⟨j, rfl⟩ : ∃ j, k = 60 + j := ⟨k - 60, by omega⟩
  clear h
  induction j with
  | zero => exact works15_at
  | succ j ih => exact colophonlaw15_works.mono (60 + j) _ ih
theorem place_of (x : Int) {n : Nat} (h0 : 0 < n) (hn : n ≤ 17592186044416) : ∃ r : Nat, wrap64 (Int.tmod (IntKind.u64.wrap x) (IntKind.u64.wrap (n : Int))) = (r : Int) ∧ r < n := by
  have e2 : IntKind.u64.wrap (n : Int) = (n : Int) := by
    unfold IntKind.wrap
    exact Int.emod_eq_of_lt (by omega) (by show (n : Int) < 2 ^ 64; omega)
  have h1 : 0 ≤ IntKind.u64.wrap x := by unfold IntKind.wrap; exact Int.emod_nonneg _ (by decide)
  obtain ⟨y, hy⟩ := Int.eq_ofNat_of_zero_le h1
  rw [e2, hy]
  refine ⟨y % n, ?_, Nat.mod_lt y h0⟩
  have e : Int.tmod (y : Int) (n : Int) = ((y % n : Nat) : Int) := by rw [Int.tmod_eq_emod_of_nonneg (by omega)]; rfl
  rw [e]
  have h3 : y % n < n := Nat.mod_lt y h0
  clear e e2 hy h1
  generalize y % n = z at h3 ⊢
  unfold wrap64
  omega
theorem u64_ne {n : Nat} (h0 : 0 < n) (hn : n ≤ 17592186044416) : ¬ IntKind.u64.wrap (n : Int) = 0 := by
  have e2 : IntKind.u64.wrap (n : Int) = (n : Int) := by
    unfold IntKind.wrap
    exact Int.emod_eq_of_lt (by omega) (by show (n : Int) < 2 ^ 64; omega)
  rw [e2]
  omega
section
variable {A : List Int} (H : LineOf A)
include H
theorem sp_im_small {i : Nat} (hi : i < A.length) : -1 ≤ (spAt A (ordered A) i).im ∧ (spAt A (ordered A) i).im ≤ 1 := by
  by_cases h : 0 ≤ lev A i
  · rcases sp_im_seen H h with e | e <;> rw [e] <;> omega
  · rw [sp_im_miss H hi h]
    omega
theorem step_any (hA : A.length ≤ 17592186044416) {i c : Nat} (hi : i < A.length) (hc : (spAt A (ordered A) i).re = (c : Int)) (hcl : c < (ordered A).length) {s : Int} (hs : s = 1 ∨ s = -1) :
    spot_Step.f (spL A (ordered A)) (i : Int) s = spot_at.f (spL A (ordered A)) ((c : Int) + s) := by
  have hl := spL_len A (ordered A)
  have hn := line_len H
  have him := sp_im_small H hi
  have h1 : smA (spAt A (ordered A) i).re s = true := by
    rw [smA_iff, hc]
    omega
  have h2 : smA (spAt A (ordered A) i).im 0 = true := by
    rw [smA_iff]
    omega
  unfold spot_Step.f
  rw [if_neg (by omega), if_neg (by omega), spL_at hi]
  rcases hs with e | e
  · rw [if_pos e, if_pos (by omega), if_pos (by omega), if_pos h1, if_pos h2, hc]
    cases spot_at.f (spL A (ordered A)) ((c : Int) + s) <;> rfl
  · rw [if_neg (by omega), if_pos e, if_pos (by omega), if_pos (by omega), if_pos h1, if_pos h2, hc]
    cases spot_at.f (spL A (ordered A)) ((c : Int) + s) <;> rfl
theorem step_in (hA : A.length ≤ 17592186044416) {i c c2 : Nat} (hi : i < A.length) (hc : (spAt A (ordered A) i).re = (c : Int)) (hcl : c < (ordered A).length) {s : Int} (hs : s = 1 ∨ s = -1) (h2 : (c : Int) + s = (c2 : Int)) (h3 : c2 < (ordered A).length) :
    spot_Step.f (spL A (ordered A)) (i : Int) s = some ((ordered A)[c2], 0) := by
  rw [step_any H hA hi hc hcl hs, h2, at_in H hA h3]
theorem step_out (hA : A.length ≤ 17592186044416) {i c : Nat} (hi : i < A.length) (hc : (spAt A (ordered A) i).re = (c : Int)) (hcl : c < (ordered A).length) {s : Int} (hs : s = 1 ∨ s = -1) (h2 : (c : Int) + s < 0 ∨ ((ordered A).length : Int) ≤ (c : Int) + s) :
    spot_Step.f (spL A (ordered A)) (i : Int) s = some (0, 150) := by
  have hn := line_len H
  rw [step_any H hA hi hc hcl hs, at_out H hA h2 (by omega)]
end
end Go.Proofs.Ytccleelhheilnaa.Pure
