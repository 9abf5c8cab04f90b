/- SpotBack, over lists alone: a step and one back lead to the stop again. -/
import Derived.Test.YtccleelhheilnaaSx7
import Derived.Test.YtccleelhheilnaaW15T
namespace Go.Proofs.Ytccleelhheilnaa.Pure
set_option linter.unusedVariables false
set_option linter.unusedSimpArgs false
open Go.RowKit Go.Proofs.Ytccleelhheilnaa.F Go.Proofs.Ytccleelhheilnaa.S Go.Proofs.Ytccleelhheilnaa.Flo Go.Proofs.YtccleelhheilnaaW.PrintWords Go.Proofs.YtccleelhheilnaaW.PrintLast

theorem back_j {A : List Int} (H : LineOf A) (hA : A.length ≤ 17592186044416) (x : Int) {s : Int} (hs : s = 1 ∨ s = -1) (k : Nat) : colophonlaw15_SpotBack.j0 (k + 2) x (spL A (ordered A)) s = some true := by
  have hl := spL_len A (ordered A)
  have hn := line_len H
  have hp := H.pos
  obtain ⟨i, ei, hi⟩ := place_of x hp hA
  obtain ⟨c, hc, ec⟩ := sp_re_bound H hi
  have hw : wrap64 (-s) = -s := by unfold wrap64; omega
  simp only [colophonlaw15_SpotBack.j0]
  rw [hl, if_neg (u64_ne hp hA), ei]
  by_cases h2 : (c : Int) + s < 0 ∨ ((ordered A).length : Int) ≤ (c : Int) + s
  · rw [step_out H hA hi ec hc hs h2]
    simp
  · obtain ⟨c2, e2⟩ : ∃ c2 : Nat, (c : Int) + s = (c2 : Int) := ⟨((c : Int) + s).toNat, by omega⟩
    have h3 : c2 < (ordered A).length := by omega
    obtain ⟨j, hj, js, ej, ejc⟩ := line_place H h3
    have hjre : (spAt A (ordered A) j).re = (c2 : Int) := by rw [spAt_seen js]; exact ejc
    rw [step_in H hA hi ec hc hs e2 h3, ej]
    simp only [Option.bind_some]
    have s1 : smA (spAt A (ordered A) i).re s = true := by rw [smA_iff, ec]; omega
    have s2 : smA (spAt A (ordered A) j).re ((spAt A (ordered A) i).re + s) = true := by rw [smA_iff, ec, hjre]; omega
    rw [if_pos trivial, if_neg (by omega), if_neg (by omega), if_pos (by omega), if_pos (by omega), if_pos (by omega), if_pos (by omega), spL_at hi, spL_at hj, if_pos s1, if_pos s2]
    have e3 : ((spAt A (ordered A) j).re != (spAt A (ordered A) i).re + s) = false := by
      rw [hjre, ec, e2]
      simp
    rw [e3]
    simp only [colophonlaw15_SpotBack.j1]
    have hback := step_in H hA (c2 := c) hj hjre h3 (s := -s) (by omega) (by omega) hc
    rw [if_neg (by decide), hw, hback]
    simp only [Option.bind_some]
    obtain ⟨j2, hj2, js2, ej2, ejc2⟩ := line_place H hc
    have him := sp_im_small H hi
    have s3 : smA (spAt A (ordered A) i).im 0 = true := by rw [smA_iff]; omega
    rw [if_pos (by omega), if_pos (by omega), spL_at hi, if_pos s3, ej2]
    by_cases h0 : (spAt A (ordered A) i).im = 0
    · have hjre2 : (spAt A (ordered A) j2).re = (c : Int) := by rw [spAt_seen js2]; exact ejc2
      have s4 : smA (spAt A (ordered A) j2).re (spAt A (ordered A) i).re = true := by rw [smA_iff, ec, hjre2]; omega
      rw [if_pos h0, if_pos trivial, if_pos (by omega), if_pos (by omega), spL_at hj2, if_pos s4, hjre2, ec]
      simp
    · have hsi := (sp_im_iff H hi).1 h0
      obtain ⟨c3, hc3, ec3, ei3⟩ := line_col H hi hsi
      have : (spAt A (ordered A) i).re = (c3 : Int) := by rw [spAt_seen hsi]; exact ec3
      have hcc : c3 = c := by omega
      subst hcc
      rw [ei3] at ej2
      rw [if_neg h0, if_pos trivial, ← ej2]
      simp
theorem SpotBack : colophonlaw15_SpotBack.Pure := by
  intro L b x right _ hy _ _ _
  refine ⟨2 * L.length + 100, ?_⟩
  unfold colophonlaw15_SpotBack.f
  rw [works15 (by omega), Option.bind_some, if_pos rfl, own_spots b (by omega) (by omega), Option.bind_some]
  unfold spPair
  by_cases hf : (b = 0 ∨ b = 1) ∧ L.all fineB = true
  · have hA : (L ++ [b]).length ≤ 17592186044416 := by simp; omega
    rw [if_pos hf, if_pos rfl]
    cases right with
    | true => exact back_j (line_of hf.1 hf.2) hA x (.inl rfl) (2 * L.length + 98)
    | false => exact back_j (line_of hf.1 hf.2) hA x (.inr rfl) (2 * L.length + 98)
  · rw [if_neg hf, if_neg (by decide)]
    rfl
end Go.Proofs.Ytccleelhheilnaa.Pure
