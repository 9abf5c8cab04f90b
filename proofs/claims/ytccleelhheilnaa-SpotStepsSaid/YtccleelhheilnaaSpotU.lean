/- The spots of a line: each column is of one stop; the search for a stop. -/
import Derived.Test.YtccleelhheilnaaSpotT
import Derived.Test.YtccleelhheilnaaSGAt
namespace Go.Proofs.Ytccleelhheilnaa.Pure
set_option linter.unusedVariables false
set_option linter.unusedSimpArgs false
set_option linter.unusedSectionVars false
open Go.RowKit Go.Proofs.Ytccleelhheilnaa.F Go.Proofs.Ytccleelhheilnaa.S Go.Proofs.Ytccleelhheilnaa.Flo Go.Proofs.YtccleelhheilnaaW.PrintWords Go.Proofs.YtccleelhheilnaaW.PrintLast

theorem rdOf_at {α : Type} {d : α} {l : List α} {i : Nat} (h : i < l.length) : rdOf d l (i : Int) = l[i] := by
  simp only [rdOf, Int.toNat_natCast, List.getD_eq_getElem?_getD, List.getElem?_eq_getElem h, Option.getD_some]
theorem spL_get {A M : List Int} {i : Nat} (h : i < (spL A M).length) : (spL A M)[i] = spAt A M i := by simp [spL]
theorem spL_at {A M : List Int} {i : Nat} (h : i < A.length) : rdOf zc (spL A M) (i : Int) = spAt A M i := by
  have h' : i < (spL A M).length := by rw [spL_len]; exact h
  rw [rdOf_at h', spL_get h']

/-- a line with its end behind it -/
structure LineOf (A : List Int) : Prop where
  pos : 0 < A.length
  fine : A.all fineB = true
  last : 0 ≤ lev A (A.length - 1)
theorem line_of {L : List Int} {b : Int} (hb : b = 0 ∨ b = 1) (hf : L.all fineB = true) : LineOf (L ++ [b]) := by
  refine ⟨by simp, ?_, ?_⟩
  · rw [List.all_append]
    have : [b].all fineB = true := by
      simp [fineB]
      omega
    rw [this, Bool.and_true]
    exact hf
  · have : (L ++ [b]).length - 1 = L.length := by simp
    rw [this, lev_last]
    omega
section
variable {A : List Int} (H : LineOf A)
include H
theorem line_col {i : Nat} (hi : i < A.length) (h : 0 ≤ lev A i) : ∃ (c : Nat) (hc : c < (ordered A).length), col (ordered A) i = (c : Int) ∧ (ordered A)[c] = (i : Int) := by
  have hm : (i : Int) ∈ ordered A := (ordered_mem A _).2 ((seen_lev hi).2 h)
  have hc := List.idxOf_lt_length_of_mem hm
  exact ⟨(ordered A).idxOf (i : Int), hc, rfl, by simp⟩
theorem line_place {c : Nat} (hc : c < (ordered A).length) : ∃ i : Nat, i < A.length ∧ 0 ≤ lev A i ∧ (ordered A)[c] = (i : Int) ∧ col (ordered A) i = (c : Int) := by
  obtain ⟨s0, s1, s2⟩ := (ordered_mem A _).1 (List.getElem_mem hc)
  obtain ⟨i, hi⟩ : ∃ i : Nat, (ordered A)[c] = (i : Int) := ⟨((ordered A)[c]).toNat, by omega⟩
  rw [hi] at s0 s1 s2
  rw [rd_lev] at s2
  exact ⟨i, by omega, s2, hi, col_get (ordered_nodup H.fine) hc hi⟩
theorem line_len : (ordered A).length ≤ A.length := by rw [ordered_len]; exact seen_len _ _
theorem line_some : 0 < (ordered A).length := by
  have := H.pos
  obtain ⟨c, hc, -, -⟩ := line_col H (i := A.length - 1) (by omega) H.last
  omega
theorem lean_cases (i : Nat) : leanOf A i = 1 ∨ leanOf A i = -1 := by
  unfold leanOf
  split <;> simp
/-- a place that isn't seen has the column of the next one that is -/
theorem sp_re : ∀ (d i : Nat), A.length - 1 - i = d → i < A.length → ∃ j, i ≤ j ∧ j < A.length ∧ 0 ≤ lev A j ∧ (∀ q, i ≤ q → q < j → ¬ 0 ≤ lev A q) ∧ (spAt A (ordered A) i).re = col (ordered A) j := by
  intro d
  induction d with
  | zero =>
    intro i hd hi
    have : i = A.length - 1 := by omega
    have hs : 0 ≤ lev A i := by rw [this]; exact H.last
    exact ⟨i, Nat.le_refl _, hi, hs, fun q h1 h2 => by omega, by rw [spAt_seen hs]⟩
  | succ d ih =>
    intro i hd hi
    by_cases hs : 0 ≤ lev A i
    · exact ⟨i, Nat.le_refl _, hi, hs, fun q h1 h2 => by omega, by rw [spAt_seen hs]⟩
    · obtain ⟨j, h1, h2, h3, h4, h5⟩ := ih (i + 1) (by omega) (by omega)
      refine ⟨j, by omega, h2, h3, fun q h6 h7 => ?_, by rw [spAt_miss hs (by omega)]; exact h5⟩
      by_cases e : q = i
      · rw [e]; exact hs
      · exact h4 q (by omega) h7
theorem sp_re_bound {i : Nat} (hi : i < A.length) : ∃ c : Nat, c < (ordered A).length ∧ (spAt A (ordered A) i).re = (c : Int) := by
  obtain ⟨j, h1, h2, h3, -, h5⟩ := sp_re H _ i rfl hi
  obtain ⟨c, hc, e, -⟩ := line_col H h2 h3
  exact ⟨c, hc, by rw [h5, e]⟩
theorem sp_im_seen {i : Nat} (h : 0 ≤ lev A i) : (spAt A (ordered A) i).im = 1 ∨ (spAt A (ordered A) i).im = -1 := by
  rw [spAt_seen h]
  exact lean_cases H i
theorem sp_im_miss {i : Nat} (hi : i < A.length) (h : ¬ 0 ≤ lev A i) : (spAt A (ordered A) i).im = 0 := by
  have : i + 1 < A.length := by
    by_cases e : i = A.length - 1
    · rw [e] at h
      exact absurd H.last h
    · omega
  rw [spAt_miss h this]
theorem sp_im_iff {i : Nat} (hi : i < A.length) : (spAt A (ordered A) i).im ≠ 0 ↔ 0 ≤ lev A i := by
  constructor
  · intro h
    refine Decidable.by_contra fun h2 => h (sp_im_miss H hi h2)
  · intro h
    rcases sp_im_seen H h with e | e <;> rw [e] <;> decide
/-! ### The search for a stop -/
omit H in
theorem first_none (c : Int) : ∀ (l : List Cx) (i : Int), (∀ z ∈ l, stopAt c z = false) → firstAt c l i = (0, 150)
  | [], _, _ => rfl
  | z :: l, i, h => by
    unfold firstAt
    rw [if_neg (by rw [h z (by simp)]; decide)]
    exact first_none c l (i + 1) (fun y hy => h y (by simp [hy]))
omit H in
theorem first_hit (c : Int) : ∀ (l : List Cx) (i : Int) (p : Nat) (hp : p < l.length), stopAt c l[p] = true → (∀ q (hq : q < p), stopAt c (l[q]'(by omega)) = false) → firstAt c l i = (i + (p : Int), 0)
  | [], _, _, hp, _, _ => by simp at hp
  | z :: l, i, p, hp, h, hb => by
    unfold firstAt
    cases p with
    | zero =>
      rw [if_pos (by simpa using h)]
      simp
    | succ p =>
      rw [if_neg (by have := hb 0 (by omega); simp at this; rw [this]; decide)]
      rw [first_hit c l (i + 1) p (by simpa using hp) (by simpa using h) (fun q hq => by simpa using hb (q + 1) (by omega))]
      have : i + 1 + (p : Int) = i + ((p + 1 : Nat) : Int) := by omega
      rw [this]
theorem stop_iff {i : Nat} (hi : i < A.length) (c : Int) : stopAt c (spAt A (ordered A) i) = true ↔ 0 ≤ lev A i ∧ col (ordered A) i = c := by
  unfold stopAt
  constructor
  · intro h
    simp only [Bool.and_eq_true, bne_iff_ne, beq_iff_eq] at h
    have hs := (sp_im_iff H hi).1 h.1
    rw [spAt_seen hs] at h
    exact ⟨hs, h.2⟩
  · rintro ⟨h, hc⟩
    simp only [Bool.and_eq_true, bne_iff_ne, beq_iff_eq]
    refine ⟨(sp_im_iff H hi).2 h, ?_⟩
    rw [spAt_seen h]
    exact hc
theorem first_in {c : Nat} (hc : c < (ordered A).length) : firstAt (c : Int) (spL A (ordered A)) 0 = ((ordered A)[c], 0) := by
  obtain ⟨i, hi, hs, e, ec⟩ := line_place H hc
  have hl := spL_len A (ordered A)
  rw [first_hit (c : Int) _ 0 i (by omega) (by rw [spL_get, stop_iff H hi]; exact ⟨hs, ec⟩), e]
  · simp
  · intro q hq
    rw [spL_get]
    refine Bool.eq_false_iff.2 fun h => ?_
    obtain ⟨h1, h2⟩ := (stop_iff H (by omega) _).1 h
    obtain ⟨c2, hc2, e2, e3⟩ := line_col H (i := q) (by omega) h1
    have : c2 = c := by omega
    subst this
    rw [e3] at e
    omega
theorem first_out {c : Int} (hc : c < 0 ∨ ((ordered A).length : Int) ≤ c) : firstAt c (spL A (ordered A)) 0 = (0, 150) := by
  refine first_none c _ 0 fun z hz => ?_
  obtain ⟨i, hi, e⟩ := List.getElem_of_mem hz
  have hl := spL_len A (ordered A)
  rw [spL_get] at e
  rw [← e]
  refine Bool.eq_false_iff.2 fun h => ?_
  obtain ⟨h1, h2⟩ := (stop_iff H (by omega) _).1 h
  obtain ⟨c2, hc2, e2, e3⟩ := line_col H (i := i) (by omega) h1
  omega
theorem line_ok {c : Int} (hA : A.length ≤ 17592186044416) (hc : -4503599627370496 < c ∧ c < 4503599627370496) : (spL A (ordered A)).all (okAt c) = true := by
  rw [List.all_eq_true]
  intro z hz
  obtain ⟨i, hi, e⟩ := List.getElem_of_mem hz
  have hl := spL_len A (ordered A)
  rw [spL_get] at e
  rw [← e]
  obtain ⟨r, hr, er⟩ := sp_re_bound H (i := i) (by omega)
  have hn := line_len H
  unfold okAt
  rw [Bool.and_eq_true]
  constructor
  · rw [smA_iff]
    by_cases h : 0 ≤ lev A i
    · rcases sp_im_seen H h with e | e <;> rw [e] <;> omega
    · rw [sp_im_miss H (by omega) h]
      omega
  · rw [smA_iff, er]
    omega
theorem at_in (hA : A.length ≤ 17592186044416) {c : Nat} (hc : c < (ordered A).length) : spot_at.f (spL A (ordered A)) (c : Int) = some ((ordered A)[c], 0) := by
  have hl := spL_len A (ordered A)
  have hn := line_len H
  unfold spot_at.f
  rw [if_pos (by omega), if_pos (line_ok H hA (by omega)), first_in H hc]
theorem at_out (hA : A.length ≤ 17592186044416) {c : Int} (hc : c < 0 ∨ ((ordered A).length : Int) ≤ c) (hb : -4503599627370496 < c ∧ c < 4503599627370496) : spot_at.f (spL A (ordered A)) c = some (0, 150) := by
  have hl := spL_len A (ordered A)
  unfold spot_at.f
  rw [if_pos (by omega), if_pos (line_ok H hA hb), first_out H hc]
end
end Go.Proofs.Ytccleelhheilnaa.Pure
