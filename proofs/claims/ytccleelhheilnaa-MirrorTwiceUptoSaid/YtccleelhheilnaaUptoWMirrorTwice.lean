/- MirrorTwice, where what it reads is of bulk at most 1048576: the printed walk, the lengths bounded. -/
import Derived.Test.YtccleelhheilnaaFx19
namespace Go.Proofs.Ytccleelhheilnaa.UptoW
set_option linter.unusedVariables false
open Go.RowKit Go.Proofs.YtccleelhheilnaaW.PrintWords Go.Proofs.YtccleelhheilnaaW.PrintLast Go.Proofs.YtccleelhheilnaaW.PrintMore Go.Proofs.Ytccleelhheilnaa.F
def mirrorTwicePureU : Prop := ∀ (l0 : List Int) (a1 : Int), l0.length ≤ maxLen → l0.length * 4 ≤ 140737488351232 → (∀ x ∈ l0, (Lit.int .i32 x).wf = true) → (Lit.int .i64 a1).wf = true → l0.length ≤ 1048576 → ∃ k, colophonlaw14_MirrorTwice.f k l0 a1 = some true
theorem mirrorTwiceWalk (P : mirrorTwicePureU) (a0 : Option Addr) (len0 cap0 : Nat) (z0 : List Int) (a1 : Int) (w : World) (w0 : (a0 = none ∧ len0 = 0 ∧ cap0 = 0 ∧ z0 = []) ∨ ∃ x, a0 = some x ∧ len0 ≤ cap0 ∧ cap0 ≤ maxLen ∧ z0.length = cap0 ∧ (∀ i, i < z0.length → w.cell? (x.add i) = some (.int .i32 (z0.getD i 0))) ∧ ∀ n ∈ z0, (Lit.int .i32 n).wf = true) (y0 : len0 * 4 ≤ 140737488351232) (w1 : (Lit.int .i64 a1).wf = true) (b0 : len0 ≤ 1048576) :
    Calls Try.prog 11 #[.slice a0 len0 cap0, .int .i64 a1] w fun e w' => e = .returned (.bool true) ∧ Below w.heap.size w w' := by
  obtain ⟨l0, rfl, hr0, hm0, hw0, hc0⟩ := ReadsInt.ofRowC w0
  obtain ⟨k, h⟩ := P l0 a1 hm0 y0 hw0 w1 b0
  refine (colophonlaw14_MirrorTwice.calls k _ _ l0 a1 true w (Kd.C_of_reads (d := (0 : Int)) (h1 := fun _ => rfl) hr0) hc0 h).mono ?_
  rintro e w' ⟨rfl, hd⟩
  exact ⟨rfl, hd⟩
end Go.Proofs.Ytccleelhheilnaa.UptoW
