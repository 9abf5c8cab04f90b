/- UcdTwice, over numbers and lists alone: a mirror image's image is the number; the canonical form's form is itself, of the same class. -/
import Derived.Test.YtddhhncjfcolcaaFx14
import Derived.Test.YtddhhncjfcolcaaPureUcdPairs
namespace Go.Proofs.Ytddhhncjfcolcaa.Pure
open Go.RowKit Go.Proofs.Ytddhhncjfcolcaa.F Go.Proofs.YtddhhncjfcolcaaW.PrintWords Go.Proofs.YtddhhncjfcolcaaW.PrintLast

theorem twice_all : ∀ x ∈ marks, colophonlaw03_UcdTwice.f 10 x = some true := by decide +kernel
theorem UcdTwice : colophonlaw03_UcdTwice.Pure := by
  intro a0 _
  refine ⟨10, ?_⟩
  by_cases h : a0 ∈ marks
  · exact twice_all a0 h
  · unfold colophonlaw03_UcdTwice.f
    rw [works3, mirror_miss h]
    simp [colophonlaw03_UcdTwice.j0, canon_miss h, ucd_Class.f]
end Go.Proofs.Ytddhhncjfcolcaa.Pure
