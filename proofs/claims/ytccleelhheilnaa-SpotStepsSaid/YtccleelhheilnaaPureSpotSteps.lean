/- SpotSteps, over lists alone: steps are the document's; each stop is found by its spot. -/
import Derived.Test.YtccleelhheilnaaSx10
import Derived.Test.YtccleelhheilnaaPureSpotPlaces
namespace Go.Proofs.Ytccleelhheilnaa.Pure
set_option linter.unusedVariables false
set_option linter.unusedSimpArgs false
set_option linter.unusedSectionVars false
open Go.RowKit Go.Proofs.Ytccleelhheilnaa.F Go.Proofs.Ytccleelhheilnaa.Flo Go.Proofs.YtccleelhheilnaaW.PrintWords Go.Proofs.YtccleelhheilnaaW.PrintLast

theorem first_cons (c : Int) (z : Cx) (l : List Cx) (i : Int) : S.firstAt c (z :: l) i = if S.stopAt c z = true then (i, 0) else S.firstAt c l (i + 1) := rfl
theorem ref_step_lp {l : List Cx} (h : Small l) {i : Nat} (hi : i < l.length) {s : Int} (hs : s = 1 ∨ s = -1) : ∀ (d k j : Nat), l.length - j = d → j ≤ l.length → d < k →
    S.colophonref15_Step.l0 k (prL l) (i : Int) s (j : Int) = some (S.firstAt ((rdOf zc l (i : Int)).re + s) (l.drop j) (j : Int)) := by
  have hl := h.1
  have hp := prL_len l
  have hsi := small_at h hi
  have hw : wrap64 ((rdOf zc l (i : Int)).re + s) = (rdOf zc l (i : Int)).re + s := by unfold wrap64; omega
  have ei : (S.rd_T45 (prL l) (i : Int)).f0 = (rdOf zc l (i : Int)).re := by rw [prL_at hi, rdOf_at hi]; rfl
  intro d
  induction d with
  | zero =>
    intro k j hd hj hk
    obtain ⟨k, rfl⟩ : ∃ m, k = m + 1 := ⟨k - 1, by omega⟩
    simp only [S.colophonref15_Step.l0]
    rw [if_neg (by omega), List.drop_eq_nil_of_le (by omega)]
    rfl
  | succ d ih =>
    intro k j hd hj hk
    obtain ⟨k, rfl⟩ : ∃ m, k = m + 1 := ⟨k - 1, by omega⟩
    have hlt : j < l.length := by omega
    have hnext := ih k (j + 1) (by omega) (by omega) (by omega)
    have e1 : (S.rd_T45 (prL l) (j : Int)).f1 = (l[j]).im := by rw [prL_at hlt]; rfl
    have e0 : (S.rd_T45 (prL l) (j : Int)).f0 = (l[j]).re := by rw [prL_at hlt]; rfl
    simp only [S.colophonref15_Step.l0, e1, e0, ei, hw]
    rw [if_pos (by omega), if_pos (by omega), List.drop_eq_getElem_cons hlt, wr1 (by omega), hnext, first_cons]
    by_cases h0 : (l[j]).im = 0
    · have e : ¬ S.stopAt ((rdOf zc l (i : Int)).re + s) l[j] = true := by simp [S.stopAt, h0]
      rw [if_pos h0, if_neg e]
      rfl
    · rw [if_neg h0, if_pos (by omega), if_pos (by omega)]
      by_cases h1 : (l[j]).re = (rdOf zc l (i : Int)).re + s
      · have e : S.stopAt ((rdOf zc l (i : Int)).re + s) l[j] = true := by simp [S.stopAt, h0, h1]
        rw [if_pos h1, if_pos e]
      · have e : ¬ S.stopAt ((rdOf zc l (i : Int)).re + s) l[j] = true := by simp [S.stopAt, h1]
        rw [if_neg h1, if_neg e]
        rfl
/-- both step alike -/
theorem steps_same {l : List Cx} (h : Small l) (i s : Int) {k : Nat} (hk : l.length + 2 < k) : ∃ p, S.spot_Step.f l i s = some p ∧ S.colophonref15_Step.f k (prL l) i s = some p := by
  obtain ⟨k, rfl⟩ : ∃ m, k = m + 1 := ⟨k - 1, by omega⟩
  have hl := h.1
  have hp := prL_len l
  have bad : S.colophonref15_Step.j0 (k + 1) (prL l) i s true = some (0, 4) := by
    simp only [S.colophonref15_Step.j0]
    rw [if_pos trivial]
  by_cases h0 : i < 0
  · refine ⟨(0, 4), ?_, ?_⟩
    · unfold S.spot_Step.f
      rw [if_pos h0]
    · unfold S.colophonref15_Step.f
      rw [if_pos h0, bad]
  · by_cases h1 : i ≥ (l.length : Int)
    · refine ⟨(0, 4), ?_, ?_⟩
      · unfold S.spot_Step.f
        rw [if_neg h0, if_pos h1]
      · unfold S.colophonref15_Step.f
        rw [if_neg h0, if_pos (by rw [hp]; exact h1), bad]
    · obtain ⟨j, rfl⟩ : ∃ j : Nat, i = (j : Int) := ⟨i.toNat, by omega⟩
      by_cases hs : s = 1 ∨ s = -1
      · refine ⟨_, small_step h (by omega) hs, ?_⟩
        have hlp := ref_step_lp h (i := j) (by omega) hs l.length k 0 (by omega) (by omega) (by omega)
        rw [List.drop_zero, Int.natCast_zero] at hlp
        unfold S.colophonref15_Step.f
        rw [if_neg h0, if_neg (by rw [hp]; exact h1)]
        rcases hs with e | e
        · rw [if_pos e]
          simp only [S.colophonref15_Step.j0]
          rw [if_neg (by decide), hlp]
        · have e2 : (s != -1) = false := by simp [e]
          rw [if_neg (by omega), e2]
          simp only [S.colophonref15_Step.j0]
          rw [if_neg (by decide), hlp]
      · refine ⟨(0, 4), ?_, ?_⟩
        · unfold S.spot_Step.f
          rw [if_neg h0, if_neg h1, if_neg (by omega), if_neg (by omega)]
        · have e2 : (s != -1) = true := by simp; omega
          unfold S.colophonref15_Step.f
          rw [if_neg h0, if_neg (by rw [hp]; exact h1), if_neg (by omega), e2, bad]
theorem offs_lp {A : List Int} (H : LineOf A) (hA : A.length ≤ 1000) : ∀ (d k i : Nat), A.length - i = d → i ≤ A.length → d < k →
    S.colophonlaw15_SpotSteps.l0 k (spL A (ordered A)) (prL (spL A (ordered A))) (spL A (ordered A)) (A.length : Int) (i : Int) = some true := by
  have hl := spL_len A (ordered A)
  have hp := prL_len (spL A (ordered A))
  intro d
  induction d with
  | zero =>
    intro k i hd hi hk
    obtain ⟨k, rfl⟩ : ∃ m, k = m + 1 := ⟨k - 1, by omega⟩
    simp only [S.colophonlaw15_SpotSteps.l0]
    rw [if_neg (by omega)]
  | succ d ih =>
    intro k i hd hi hk
    obtain ⟨k, rfl⟩ : ∃ m, k = m + 1 := ⟨k - 1, by omega⟩
    have hlt : i < A.length := by omega
    have hlt2 : i < (spL A (ordered A)).length := by omega
    have hnext := ih k (i + 1) (by omega) (by omega) (by omega)
    have him := sp_im_small H hlt
    have s1 : smA (spAt A (ordered A) i).im 1 = true := by rw [smA_iff]; omega
    have s2 : smA (spAt A (ordered A) i).im (-1) = true := by rw [smA_iff]; omega
    have ep : (S.rd_T45 (prL (spL A (ordered A))) (i : Int)).f1 = (spAt A (ordered A) i).im := by rw [prL_at hlt2, spL_get]; rfl
    simp only [S.colophonlaw15_SpotSteps.l0, ep]
    rw [if_pos (by omega), if_pos (by omega), if_pos (by omega), spL_at hlt, wr1 (by omega), hnext]
    by_cases h : 0 ≤ lev A i
    · obtain ⟨c, hc, ec, ei⟩ := line_col H hlt h
      have ho : S.spot_Offset.f (spL A (ordered A)) (spAt A (ordered A) i) = some ((i : Int), 0) := by
        have hre : (spAt A (ordered A) i).re = (c : Int) := by rw [spAt_seen h]; exact ec
        unfold S.spot_Offset.f
        rw [if_pos s1, hre, at_in H (by omega) hc, ei]
        rcases sp_im_seen H h with e | e
        · rw [if_pos e]
          rfl
        · rw [if_neg (by omega), if_pos s2, if_pos e]
          rfl
      have hne := (sp_im_iff H hlt).2 h
      rw [ho, Option.bind_some, if_pos (by omega), if_neg hne, if_pos rfl, if_pos rfl]
    · have e0 := sp_im_miss H hlt h
      have ho : S.spot_Offset.f (spL A (ordered A)) (spAt A (ordered A) i) = some (0, 4) := by
        unfold S.spot_Offset.f
        rw [if_pos s1, if_neg (by omega), if_pos s2, if_neg (by omega)]
      rw [ho, Option.bind_some, if_pos (by omega), if_pos e0, if_pos rfl, if_pos rfl]
theorem offs_none (k : Nat) (a : List Cx) (b : List Pr) : S.colophonlaw15_SpotSteps.l0 (k + 1) a b [] (([] : List Cx).length : Int) 0 = some true := by
  simp only [S.colophonlaw15_SpotSteps.l0]
  rw [if_neg (by simp)]
theorem SpotSteps : S.colophonlaw15_SpotSteps.Pure := by
  intro L b i s _ hy _ _ _ _
  refine ⟨400000, ?_⟩
  unfold S.colophonlaw15_SpotSteps.f
  have hw : S.colophonlaw15_works.f 400000 = some true := works15 (by omega)
  by_cases h6 : (L.length : Int) > 60
  · rw [if_pos h6, hw]
    rfl
  · have hs := pair_small (L := L) (b := b) (by omega)
    obtain ⟨p, hp1, hp2⟩ := steps_same hs.1 i s (k := 400000) (by omega)
    rw [if_neg h6, own_spots b (by omega) (by omega), Option.bind_some, ref_spots b (by omega) (by omega), Option.bind_some]
    unfold refPair
    rw [hp1, Option.bind_some, hp2, Option.bind_some, if_pos rfl, if_pos rfl, if_pos rfl, hw, Option.bind_some]
    rw [show (400000 : Nat) = 399999 + 1 from rfl]
    simp only [S.colophonlaw15_SpotSteps.j0]
    rw [if_neg (by decide)]
    unfold spPair
    by_cases hf : (b = 0 ∨ b = 1) ∧ L.all fineB = true
    · have e3 : (L ++ [b]).length = L.length + 1 := by simp
      have := offs_lp (line_of hf.1 hf.2) (by omega) (L ++ [b]).length 399999 0 (by omega) (by omega) (by omega)
      rw [if_pos hf, spL_len]
      exact this
    · rw [if_neg hf]
      exact offs_none 399998 _ _
end Go.Proofs.Ytccleelhheilnaa.Pure
