/- SpotColumns, over lists alone: the stops' columns, from the first to the last. -/
import Derived.Test.YtccleelhheilnaaSx11
import Derived.Test.YtccleelhheilnaaW15T
namespace Go.Proofs.Ytccleelhheilnaa.Pure
set_option linter.unusedVariables false
set_option linter.unusedSimpArgs false
open Go.RowKit Go.Proofs.Ytccleelhheilnaa.F Go.Proofs.Ytccleelhheilnaa.S Go.Proofs.Ytccleelhheilnaa.Flo Go.Proofs.YtccleelhheilnaaW.PrintWords Go.Proofs.YtccleelhheilnaaW.PrintLast

theorem columns_walk {A : List Int} (H : LineOf A) (hA : A.length ≤ 1000) : ∀ (d k c : Nat) (hc : c < (ordered A).length), (ordered A).length - 1 - c = d → d < k →
    colophonlaw15_SpotColumns.l1 k (spL A (ordered A)) ((ordered A).length : Int) ((ordered A)[c]) 0 ((c + 1 : Nat) : Int) = some true := by
  have hl := spL_len A (ordered A)
  have hn := line_len H
  intro d
  induction d with
  | zero =>
    intro k c hc hd hk
    obtain ⟨k, rfl⟩ : ∃ m, k = m + 1 := ⟨k - 1, by omega⟩
    obtain ⟨i, hi, hs, ei, ec⟩ := line_place H hc
    have hre : (spAt A (ordered A) i).re = (c : Int) := by rw [spAt_seen hs]; exact ec
    have e1 : wrap64 (((ordered A).length : Int) - 1) = (c : Int) := by unfold wrap64; omega
    have s1 : smA (spAt A (ordered A) i).re (c : Int) = true := by rw [smA_iff, hre]; omega
    simp only [colophonlaw15_SpotColumns.l1, ei, e1]
    rw [if_neg (by omega), if_pos trivial, if_pos (by omega), if_pos (by omega), spL_at hi, if_pos s1, if_pos hre, step_out H (by omega) hi hre hc (.inl rfl) (by omega)]
    rfl
  | succ d ih =>
    intro k c hc hd hk
    obtain ⟨k, rfl⟩ : ∃ m, k = m + 1 := ⟨k - 1, by omega⟩
    have hc2 : c + 1 < (ordered A).length := by omega
    have hnext := ih k (c + 1) hc2 (by omega) (by omega)
    obtain ⟨i, hi, hs, ei, ec⟩ := line_place H hc
    have hre : (spAt A (ordered A) i).re = (c : Int) := by rw [spAt_seen hs]; exact ec
    simp only [colophonlaw15_SpotColumns.l1, ei]
    rw [if_pos (by omega), if_pos trivial, step_in H (c2 := c + 1) (by omega) hi hre hc (.inl rfl) (by omega) hc2, Option.bind_some, wr1 (by omega)]
    exact hnext
theorem seen_all (A : List Int) : (seenAt A A.length).length = (ordered A).length := (ordered_len A).symm
theorem columns_count {L : List Int} {b : Int} (hb : b = 0 ∨ b = 1) (hf : L.all fineB = true) (hL : L.length ≤ 500) : ∀ (d k i : Nat), (L ++ [b]).length - i = d → i ≤ (L ++ [b]).length → 3 * d + L.length + 10 < k →
    colophonlaw15_SpotColumns.l0 k L (spL (L ++ [b]) (ordered (L ++ [b]))) ((seenAt (L ++ [b]) i).length : Int) (spL (L ++ [b]) (ordered (L ++ [b]))) ((L ++ [b]).length : Int) (i : Int) = some true := by
  have H := line_of hb hf
  have e3 : (L ++ [b]).length = L.length + 1 := by simp
  have hl := spL_len (L ++ [b]) (ordered (L ++ [b]))
  have hn := line_len H
  have hp := line_some H
  intro d
  induction d with
  | zero =>
    intro k i hd hi hk
    obtain ⟨k, rfl⟩ : ∃ m, k = m + 1 := ⟨k - 1, by omega⟩
    obtain rfl : i = (L ++ [b]).length := by omega
    have ho : spot_Offset.f (spL (L ++ [b]) (ordered (L ++ [b]))) ⟨0, 1⟩ = some ((ordered (L ++ [b]))[0], 0) := by
      unfold spot_Offset.f
      have s1 : smA (⟨0, 1⟩ : Cx).im 1 = true := by decide
      have := at_in H (by omega) hp
      rw [Int.natCast_zero] at this
      rw [if_pos s1, if_pos rfl]
      show ((spot_at.f _ 0).bind _) = _
      rw [this]
      rfl
    simp only [colophonlaw15_SpotColumns.l0]
    rw [if_neg (by omega), ho, Option.bind_some, seen_all]
    exact columns_walk H (by omega) _ k 0 hp rfl (by omega)
  | succ d ih =>
    intro k i hd hi hk
    obtain ⟨k, rfl⟩ : ∃ m, k = m + 3 := ⟨k - 3, by omega⟩
    have hnext := ih k (i + 1) (by omega) (by omega) (by omega)
    have hi2 : i < (L ++ [b]).length := by omega
    have hsl := seen_len (L ++ [b]) i
    have hsl2 := seen_len (L ++ [b]) (i + 1)
    -- the inner steps
    have hj2 : ∀ (seen : Bool), seen = decide (0 ≤ lev (L ++ [b]) i) → colophonlaw15_SpotColumns.j2 (k + 1) L (spL (L ++ [b]) (ordered (L ++ [b]))) ((seenAt (L ++ [b]) i).length : Int) seen (spL (L ++ [b]) (ordered (L ++ [b]))) ((L ++ [b]).length : Int) (i : Int) false = some true := by
      intro seen hs
      simp only [colophonlaw15_SpotColumns.j2]
      rw [if_neg (by decide)]
      by_cases h : 0 ≤ lev (L ++ [b]) i
      · have e : seen = true := by rw [hs]; exact decide_eq_true h
        rw [if_pos e, wr1 (by omega), wr1 (by omega)]
        rw [seen_hit (by rw [rd_lev]; exact h), List.length_append, List.length_singleton] at hnext
        exact hnext
      · have e : seen = false := by rw [hs]; exact decide_eq_false h
        rw [if_neg (by rw [e]; decide), wr1 (by omega)]
        rw [seen_miss (by rw [rd_lev]; exact h)] at hnext
        exact hnext
    have hj1 : ∀ (seen : Bool), seen = decide (0 ≤ lev (L ++ [b]) i) → colophonlaw15_SpotColumns.j1 (k + 2) L (spL (L ++ [b]) (ordered (L ++ [b]))) ((seenAt (L ++ [b]) i).length : Int) (spAt (L ++ [b]) (ordered (L ++ [b])) i) seen (spL (L ++ [b]) (ordered (L ++ [b]))) ((L ++ [b]).length : Int) (i : Int) = some true := by
      intro seen hs
      have him := sp_im_small H hi2
      have h2 := hj2 seen hs
      simp only [colophonlaw15_SpotColumns.j1]
      have s1 : smA (spAt (L ++ [b]) (ordered (L ++ [b])) i).im 1 = true := by rw [smA_iff]; omega
      have s2 : smA (spAt (L ++ [b]) (ordered (L ++ [b])) i).im (-1) = true := by rw [smA_iff]; omega
      have s3 : smA (spAt (L ++ [b]) (ordered (L ++ [b])) i).im 0 = true := by rw [smA_iff]; omega
      rw [if_pos s1]
      by_cases h : 0 ≤ lev (L ++ [b]) i
      · have e : seen = true := by rw [hs]; exact decide_eq_true h
        subst e
        rcases sp_im_seen H h with e | e
        · rw [if_pos e, if_neg (by decide), if_pos rfl]
          exact h2
        · rw [if_neg (by omega), if_pos s2, e, if_neg (by decide), if_pos rfl]
          exact h2
      · have e : seen = false := by rw [hs]; exact decide_eq_false h
        subst e
        have e0 := sp_im_miss H hi2 h
        rw [if_neg (by omega), if_pos s2, e0, if_neg (by decide), if_neg (by decide), if_pos (by decide)]
        exact h2
    simp only [colophonlaw15_SpotColumns.l0]
    rw [if_pos (by omega), if_pos (by omega), if_pos (by omega), spL_at hi2]
    by_cases he : (i : Int) = (L.length : Int)
    · rw [if_pos he]
      refine hj1 true ?_
      have : i = L.length := by omega
      rw [this, lev_last]
      rcases hb with e | e <;> rw [e] <;> rfl
    · rw [if_neg he, if_pos (by omega)]
      refine hj1 _ ?_
      rw [rd_lev, ← lev_app (b := b) (by omega)]
theorem SpotColumns : colophonlaw15_SpotColumns.Pure := by
  intro L b _ hy _ _
  refine ⟨4 * L.length + 1000, ?_⟩
  unfold colophonlaw15_SpotColumns.f
  rw [works15 (by omega), Option.bind_some, if_pos rfl]
  by_cases h5 : (L.length : Int) > 500
  · rw [if_pos h5]
  · rw [if_neg h5, own_spots b (by omega) (by omega), Option.bind_some]
    unfold spPair
    by_cases hf : (b = 0 ∨ b = 1) ∧ L.all fineB = true
    · have e3 : (L ++ [b]).length = L.length + 1 := by simp
      have := columns_count hf.1 hf.2 (by omega) (L ++ [b]).length (4 * L.length + 1000) 0 (by omega) (by omega) (by omega)
      rw [if_pos hf, if_pos rfl, spL_len]
      exact this
    · rw [if_neg hf, if_neg (by decide)]
      rfl
end Go.Proofs.Ytccleelhheilnaa.Pure
