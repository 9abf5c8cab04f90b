/- The law RopeJoins, as the row asks. -/
import Derived.Test.YtenjldfflkinkaaFGRopJ
namespace Go.Proofs.Ytenjldfflkinkaa.Rop
set_option linter.unusedVariables false
set_option linter.unusedSimpArgs false
open Go.RowKit Go.Proofs.Ytenjldfflkinkaa.F Go.Proofs.YtenjldfflkinkaaW.PrintWords Go.Proofs.YtenjldfflkinkaaW.PrintLast Go.Proofs.YtenjldfflkinkaaW.PrintMore
/-- What a row of the statement says of a []rune. -/
def InRow (w : World) (a0 : Option Addr) (len0 cap0 : Nat) (z0 : List Int) : Prop :=
  (a0 = none ∧ len0 = 0 ∧ cap0 = 0 ∧ z0 = []) ∨ ∃ x, a0 = some x ∧ len0 ≤ cap0 ∧ cap0 ≤ maxLen ∧ z0.length = cap0 ∧ (∀ i, i < z0.length → w.cell? (x.add i) = some (.int .i32 (z0.getD i 0))) ∧ ∀ n ∈ z0, (Lit.int .i32 n).wf = true
theorem InRow.list {w : World} {a0 : Option Addr} {len0 cap0 : Nat} {z0 : List Int} (h : InRow w a0 len0 cap0 z0) :
    ∃ l : List Int, len0 = l.length ∧ Kd.C (Kd.int .i32) w a0 l.length l ∧ l.length ≤ cap0 ∧ cap0 ≤ 9223372036854775807 ∧ ∀ n ∈ l, (Lit.int .i32 n).wf = true := by
  obtain ⟨l0, rfl, hr0, hm0, hw0, hc0⟩ := ReadsInt.ofRowC h
  have hcm : cap0 ≤ 9223372036854775807 := by
    rcases h with ⟨_, _, rfl, _⟩ | ⟨_, _, _, h, _⟩
    · omega
    · simpa [maxLen] using h
  exact ⟨l0, rfl, Kd.C_of_reads (d := (0 : Int)) (h1 := fun _ => rfl) hr0, hc0, hcm, hw0⟩
theorem int_range {x : Int} (h : (Lit.int .i64 x).wf = true) : -9223372036854775808 ≤ x ∧ x ≤ 9223372036854775807 := by
  simp [Lit.wf, IntKind.min, IntKind.max, IntKind.signed, IntKind.bits] at h
  omega
theorem walk_RopeJoins {W : World} {a0 a2 : Option Addr} {len0 cap0 len2 cap2 : Nat} {z0 z2 : List Int} {a1 : Int}
    (w0 : InRow W a0 len0 cap0 z0) (y0 : len0 * 4 ≤ 140737488351232) (w1 : (Lit.int .i64 a1).wf = true) (w2 : InRow W a2 len2 cap2 z2) (y2 : len2 * 4 ≤ 140737488351232) :
    Calls Try.prog 7 #[.slice a0 len0 cap0, .int .i64 a1, .slice a2 len2 cap2] W fun e w' => e = .returned (.bool true) ∧ Below W.heap.size W w' := by
  obtain ⟨l, rfl, hC0, hc0, hm0, _⟩ := w0.list
  obtain ⟨m, rfl, hC2, hc2, hm2, _⟩ := w2.list
  by_cases h : 2000 < l.length ∨ 2000 < m.length
  · exact joins_big h (by omega) (by omega)
  · exact joins_small hC0 hc0 hm0 hC2 hc2 hm2 (by omega) (by omega) (int_range w1)
end Go.Proofs.Ytenjldfflkinkaa.Rop
