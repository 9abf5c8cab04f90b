/- MirrorBack, over numbers alone: a glyph's glyph is the number. -/
import Derived.Test.YtccleelhheilnaaFx20
import Derived.Test.YtccleelhheilnaaPureMirrorGlyphs
namespace Go.Proofs.Ytccleelhheilnaa.Pure
open Go.RowKit Go.Proofs.Ytccleelhheilnaa.F Go.Proofs.YtccleelhheilnaaW.PrintWords Go.Proofs.YtccleelhheilnaaW.PrintLast

theorem MirrorBack : colophonlaw14_MirrorBack.Pure := by
  intro a0 a1 _ _
  refine ⟨200, ?_⟩
  unfold colophonlaw14_MirrorBack.f
  rw [works14 (by decide)]
  simp only [Option.bind_some]
  rw [if_pos trivial, own_glyph a0 a1 (by decide)]
  simp only [Option.bind_some, colophonlaw14_MirrorBack.j0]
  by_cases h : a1 < 0
  · rw [if_pos h, if_pos trivial]
    unfold glyph
    rw [if_neg (fun hh => by omega)]
    simp
  · rw [if_neg h]
    have e : Int.tmod a1 2 = a1 % 2 := by rw [Int.tmod_eq_emod_of_nonneg (by omega)]
    rw [e]
    by_cases h2 : a1 % 2 = 0
    · rw [if_pos (by simpa using h2)]
      unfold glyph
      rw [if_neg (fun hh => by omega)]
      simp
    · have ho : 0 < a1 ∧ a1 % 2 = 1 := by omega
      rw [if_neg (by simpa using h2), own_glyph _ 1 (by decide), own_glyph _ 125 (by decide), glyph_glyph a0 a1 1 ho (by decide), glyph_glyph a0 a1 125 ho (by decide)]
      simp
end Go.Proofs.Ytccleelhheilnaa.Pure
