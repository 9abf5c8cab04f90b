/- UcdPairs, over numbers and lists alone: what is mirrored is neutral and not itself; brackets come in pairs. -/
import Derived.Test.YtddhhncjfcolcaaFx14
import Derived.Test.YtddhhncjfcolcaaPureUcdMarks
namespace Go.Proofs.Ytddhhncjfcolcaa.Pure
open Go.RowKit Go.Proofs.Ytddhhncjfcolcaa.F Go.Proofs.YtddhhncjfcolcaaW.PrintWords Go.Proofs.YtddhhncjfcolcaaW.PrintLast

theorem works3 : colophonlaw03_works.f = some true := by decide +kernel
theorem pairs_all : ∀ x ∈ marks, colophonlaw03_UcdPairs.f 10 x = some true := by decide +kernel
theorem UcdPairs : colophonlaw03_UcdPairs.Pure := by
  intro a0 _
  refine ⟨10, ?_⟩
  by_cases h : a0 ∈ marks
  · exact pairs_all a0 h
  · unfold colophonlaw03_UcdPairs.f
    rw [works3, bracket_miss h, mirror_miss h]
    simp
end Go.Proofs.Ytddhhncjfcolcaa.Pure
