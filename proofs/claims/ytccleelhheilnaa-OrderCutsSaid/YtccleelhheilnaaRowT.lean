/- An argument of the struct type Row, laid open. -/
import Derived.Test.YtccleelhheilnaaProg
import Derived.Test.YtccleelhheilnaaWSized
import Derived.WalkKit
import Derived.ProofKit
import Derived.OpenShut
import Derived.ShutString
import Derived.ChangeOld
import Derived.Below
import Derived.SizedLaws
import Derived.Lib.SmallJoins
namespace Go.Proofs.Ytccleelhheilnaa.RowT
open Go.ChangeShapes Go.WideShapes Go.ChangeAt Go.RowKit Go.Joins
open Go.ChangeMaps (open_string shut_string)
set_option linter.unusedVariables false
def IsRow (k : IntKind) (w : World) (a : Option Addr) (len cap : Nat) (zs : List Int) : Prop :=
  (a = none ∧ len = 0 ∧ cap = 0 ∧ zs = []) ∨
  ∃ x, a = some x ∧ len ≤ cap ∧ cap ≤ maxLen ∧ zs.length = cap ∧ (∀ i, i < zs.length → w.cell? (x.add i) = some (.int k (zs.getD i 0))) ∧ ∀ n ∈ zs, (Lit.int k n).wf = true
theorem cells60 : Try.prog.cellsOf 60 = 5 := by kernel_rfl
theorem cells22 : Try.prog.cellsOf 22 = 1 := by kernel_rfl
theorem cells3 : Try.prog.cellsOf 3 = 1 := by kernel_rfl
theorem bytes3 : Try.prog.bytesOf 3 = 8 := by kernel_rfl
theorem array5 {α : Type} {cs : Array α} (h : cs.size = 5) : ∃ c0 c1 c2 c3 c4, cs = #[c0, c1, c2, c3, c4] := by
  obtain ⟨l⟩ := cs
  match l, h with
  | [c0, c1, c2, c3, c4], _ => exact ⟨c0, c1, c2, c3, c4, rfl⟩
theorem open_part {H : Type} {enc : TypeId × Value → H} {W : World} {c : Value} {y : DataW H × List MemPlace} {n : Nat} (h : DataW.trod enc Try.prog W 0 (fun _ => true) true n 22 [c] = some y) :
    ∃ a len cap zs, c = .slice a len cap ∧ IsRow .i64 W a len cap zs := by
  rcases open_ints Try.underlying22 Try.underlying3 cells3 h with ⟨hcs, _⟩ | ⟨x, l, c', zs, hcs, _, hl, hm, hz, _, hcell, hwz⟩
  · simp at hcs
    exact ⟨none, 0, 0, [], hcs, .inl ⟨rfl, rfl, rfl, rfl⟩⟩
  · simp at hcs
    exact ⟨some x, l, c', zs, hcs, .inr ⟨_, rfl, hl, hm, by simpa using hz, hcell, hwz⟩⟩
set_option maxRecDepth 100000 in
theorem openRow {H : Type} {enc : TypeId × Value → H} {W : World} {v : Value} {d : DataW H} {p : List MemPlace} {r : Reach} {b0 : Nat} (hv : Value.okWide Try.prog W r b0 60 v) (h : DataW.Trod enc Try.prog W 0 (fun _ => true) true 60 v d p)
    (hsz : (DataW.weightsEach Try.prog [60] [d]).all (· ≤ reachBytes) = true) :
    ∃ (A0 : Option Addr) (n0 c0 : Nat) (z0 : List Int) (A1 : Option Addr) (n1 c1 : Nat) (z1 : List Int) (a2 a3 a4 : Int), v = .agg #[.slice A0 n0 c0, .slice A1 n1 c1, .int .i64 a2, .int .i64 a3, .int .i64 a4] ∧
      IsRow .i64 W A0 n0 c0 z0 ∧ IsRow .i64 W A1 n1 c1 z1 ∧ n0 * 8 ≤ 140737488351232 ∧ n1 * 8 ≤ 140737488351232 := by
  obtain ⟨cs, rfl, hsize⟩ := okWide_struct Try.underlying60 hv
  obtain ⟨c0, c1, c2, c3, c4, rfl⟩ := array5 (hsize.trans cells60)
  obtain ⟨fuel, hf⟩ := h
  obtain ⟨xs, n, -, hx, -, hlen, hget⟩ := DataW.trod_struct Try.underlying60 hf
  match xs, hlen with
  | [y0, y1, y2, y3, y4], _ =>
    have g0 : DataW.trod enc Try.prog W 0 (fun _ => true) true n 22 [c0] = some y0 := by simpa [Value.cells, cells22] using hget 0 _ rfl
    have g1 : DataW.trod enc Try.prog W 0 (fun _ => true) true n 22 [c1] = some y1 := by simpa [Value.cells, cells22] using hget 1 _ rfl
    have g2 : DataW.trod enc Try.prog W 0 (fun _ => true) true n 3 [c2] = some y2 := by simpa [Value.cells, cells3] using hget 2 _ rfl
    have g3 : DataW.trod enc Try.prog W 0 (fun _ => true) true n 3 [c3] = some y3 := by simpa [Value.cells, cells3] using hget 3 _ rfl
    have g4 : DataW.trod enc Try.prog W 0 (fun _ => true) true n 3 [c4] = some y4 := by simpa [Value.cells, cells3] using hget 4 _ rfl
    simp only [Prod.mk.injEq] at hx
    obtain ⟨hd, -⟩ := hx
    subst hd
    have hsz2 : (DataW.weightsEach Try.prog [22, 22, 3, 3, 3] [y0.1, y1.1, y2.1, y3.1, y4.1]).all (· ≤ reachBytes) = true := by
      simp only [DataW.weightsEach, DataW.weights, Try.underlying60, List.append_nil] at hsz
      exact hsz
    obtain ⟨A0, n0, k0, z0, rfl, w0⟩ := open_part g0
    obtain ⟨A1, n1, k1, z1, rfl, w1⟩ := open_part g1
    obtain ⟨a2, e2, -, -⟩ := DataW.trod_int Try.underlying3 g2
    obtain ⟨a3, e3, -, -⟩ := DataW.trod_int Try.underlying3 g3
    obtain ⟨a4, e4, -, -⟩ := DataW.trod_int Try.underlying3 g4
    simp at e2 e3 e4
    subst e2 e3 e4
    have s0 : n0 * 8 ≤ 140737488351232 := Go.Proofs.YtccleelhheilnaaW.PrintWords.sized_ints hsz2 (j := 0) (t := 22) rfl rfl Try.underlying22 Try.underlying3 cells3 bytes3 (⟨n, by simpa [Value.cells] using g0⟩ : DataW.Trod enc Try.prog W 0 (fun _ => true) true 22 (.slice A0 n0 k0) y0.1 y0.2)
    have s1 : n1 * 8 ≤ 140737488351232 := Go.Proofs.YtccleelhheilnaaW.PrintWords.sized_ints hsz2 (j := 1) (t := 22) rfl rfl Try.underlying22 Try.underlying3 cells3 bytes3 (⟨n, by simpa [Value.cells] using g1⟩ : DataW.Trod enc Try.prog W 0 (fun _ => true) true 22 (.slice A1 n1 k1) y1.1 y1.2)
    exact ⟨A0, n0, k0, z0, A1, n1, k1, z1, a2, a3, a4, rfl, w0, w1, s0, s1⟩
end Go.Proofs.Ytccleelhheilnaa.RowT
