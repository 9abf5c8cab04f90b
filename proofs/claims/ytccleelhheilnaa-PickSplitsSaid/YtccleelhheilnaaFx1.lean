-- PRINTED by print.py (a twelfth state) out of the translation. Not trusted: Lean checks it.
import Derived.Test.YtccleelhheilnaaFx0
namespace Go.Proofs.Ytccleelhheilnaa.F
open Go.RowKit Go.Proofs.YtccleelhheilnaaW.PrintWords Go.Proofs.YtccleelhheilnaaW.PrintLast Go.Proofs.YtccleelhheilnaaW.PrintMore
attribute [local go_sem] max2_int min2_int max_two min_two max_three min_three max_four min_four   -- for this text's walks alone
set_option linter.unusedVariables false
set_option linter.unusedSimpArgs false

theorem eqA45 (d : Nat) (w : World) (x0 y0 : Int) (x1 y1 : Int) :
    (Op.equalIn (d + 2) 45 (.agg #[.int .i64 x0, .int .i64 x1]) (.agg #[.int .i64 y0, .int .i64 y1])).run Try.prog w = .ok (x0 == y0 && (x1 == y1)) w := by
  have hu := Try.underlying45
  have e0 : ∀ a b : Int, (Op.equalIn (d+1) 3 (.int .i64 a) (.int .i64 b)).run Try.prog w = .ok (a == b) w := fun a b => by go_simp
  have h3 : (isAgg 3).run Try.prog w = .ok false w := by go_simp
  unfold Op.equalIn
  simp only [Sem.run_bind, run_underlying hu, Result.andThen_ok]
  go_simp
  rw [show List.range' 0 2 = [0,1] from rfl]
  simp only [List.forIn_cons, List.forIn_nil, Sem.run_bind, h3, Result.andThen_ok, Bool.false_eq_true, if_false, List.getElem?_cons_zero, List.getElem?_cons_succ, Sem.run_pure, e0]
  cases (x0 == y0)
  · simp
  · simp only [e0, Sem.run_bind, Sem.run_pure, Result.andThen_ok, Bool.true_eq_false, if_false, List.forIn_cons, List.forIn_nil, h3, Bool.false_eq_true, List.getElem?_cons_succ, List.getElem?_cons_zero, Bool.true_and]
    cases (x1 == y1) <;> simp
end Go.Proofs.Ytccleelhheilnaa.F
