/- OrderOrders, over lists alone. -/
import Derived.Test.YtccleelhheilnaaFx8w
import Derived.Test.YtccleelhheilnaaW13T
namespace Go.Proofs.Ytccleelhheilnaa.Pure
set_option linter.unusedVariables false
set_option linter.unusedSimpArgs false
open Go.RowKit Go.Proofs.Ytccleelhheilnaa.F Go.Proofs.YtccleelhheilnaaW.PrintWords Go.Proofs.YtccleelhheilnaaW.PrintLast

theorem OrderOrders : colophonlaw13_OrderOrders.Pure := by
  intro L _ _ _
  refine ⟨30000, ?_⟩
  unfold colophonlaw13_OrderOrders.f
  have hw : ((colophonlaw13_works.f 30000).bind fun t => some t) = some true := by rw [works13 (by decide)]; rfl
  by_cases h1 : (L.length : Int) > 70
  · rw [if_pos h1]
    exact hw
  · rw [if_neg h1]
    simp only [Option.bind_some, List.nil_append]
    have hp := pair_len L
    rw [if_pos (by simp only [List.length_nil]; omega), own_order (by omega), ref_order (by omega) (by decide)]
    simp only [Option.bind_some]
    rw [ints_refl _ (by omega) (by omega)]
    simp only [Option.bind_some]
    rw [if_pos trivial, if_pos trivial, ints_refl _ (by omega) (by omega)]
    simp only [Option.bind_some]
    rw [if_pos trivial]
    exact hw
end Go.Proofs.Ytccleelhheilnaa.Pure
