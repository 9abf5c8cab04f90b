/- MirrorGlyphs, over numbers alone: how a number is shown is as the reference has it. -/
import Derived.Test.YtccleelhheilnaaFx17
import Derived.Test.YtccleelhheilnaaMirT
namespace Go.Proofs.Ytccleelhheilnaa.Pure
open Go.RowKit Go.Proofs.Ytccleelhheilnaa.F Go.Proofs.YtccleelhheilnaaW.PrintWords Go.Proofs.YtccleelhheilnaaW.PrintLast

theorem works14_at : colophonlaw14_works.f 60 = some true := by decide +kernel
theorem works14 {k : Nat} (h : 60 ≤ k) : colophonlaw14_works.f k = some true := by
  obtain ⟨j, rfl⟩ : ∃ j, k = 60 + j := ⟨k - 60, by omega⟩
  clear h
  induction j with
  | zero => exact works14_at
  | succ j ih => exact colophonlaw14_works.mono (60 + j) _ ih
theorem MirrorGlyphs : colophonlaw14_MirrorGlyphs.Pure := by
  intro a0 a1 _ _
  refine ⟨200, ?_⟩
  unfold colophonlaw14_MirrorGlyphs.f
  rw [own_glyph a0 a1 (by decide), ref_glyph a0 a1 (by decide), works14 (by decide)]
  simp
end Go.Proofs.Ytccleelhheilnaa.Pure
