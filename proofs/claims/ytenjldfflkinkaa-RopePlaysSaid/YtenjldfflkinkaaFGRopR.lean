/- A []Act, laid open. -/
import Derived.Test.YtenjldfflkinkaaFGRopQ
import Derived.Test.YtenjldfflkinkaaWSized
import Derived.WalkKit
import Derived.ProofKit
import Derived.OpenShut
import Derived.ShutString
import Derived.ChangeOld
import Derived.Below
import Derived.SizedLaws
import Derived.Lib.SmallJoins
namespace Go.Proofs.Ytenjldfflkinkaa.Rop
open Go.ChangeShapes Go.WideShapes Go.ChangeAt Go.RowKit Go.Joins Go.Proofs.YtenjldfflkinkaaW.PrintWords
set_option linter.unusedVariables false
theorem cells_act : Try.prog.cellsOf 60 = 4 := by kernel_rfl
theorem cells_runes : Try.prog.cellsOf 23 = 1 := by kernel_rfl
theorem cells_rune : Try.prog.cellsOf 21 = 1 := by kernel_rfl
theorem cells_int : Try.prog.cellsOf 3 = 1 := by kernel_rfl
theorem open_runes {H : Type} {enc : TypeId × Value → H} {W : World} {c : Value} {y : DataW H × List MemPlace} {n : Nat} (h : DataW.trod enc Try.prog W 0 (fun _ => true) true n 23 [c] = some y) :
    ∃ a len cap zs, c = .slice a len cap ∧ InRow W a len cap zs := by
  rcases open_ints Try.underlying23 Try.underlying21 cells_rune h with ⟨hcs, _⟩ | ⟨x, l, c', zs, hcs, _, hl, hm, hz, _, hcell, hwz⟩
  · simp at hcs
    exact ⟨none, 0, 0, [], hcs, .inl ⟨rfl, rfl, rfl, rfl⟩⟩
  · simp at hcs
    exact ⟨some x, l, c', zs, hcs, .inr ⟨_, rfl, hl, hm, by simpa using hz, hcell, hwz⟩⟩
theorem add_lit {a : Addr} {j : Nat} (h : j ≠ 0) : a.add j = ⟨a.block, a.off + j, none⟩ := by
  unfold Addr.add
  rw [if_neg h]
set_option maxRecDepth 100000 in
theorem open_acts {H : Type} {enc : TypeId × Value → H} {W : World} {a : Option Addr} {len cap : Nat} {d : DataW H} {p : List MemPlace} (h : DataW.Trod enc Try.prog W 0 (fun _ => true) true 57 (.slice a len cap) d p) :
    ActRow W a len cap := by
  obtain ⟨fuel, hf⟩ := h
  rcases DataW.trod_slice Try.underlying57 hf with ⟨hcs, _⟩ | ⟨x, l, c, elems, rest, n, -, hcs, -, -, hl, hm, hlen, hel, -, -⟩
  · simp [Value.cells] at hcs
    obtain ⟨rfl, rfl, rfl⟩ := hcs
    exact .inl ⟨rfl, rfl, rfl⟩
  · simp [Value.cells] at hcs
    obtain ⟨rfl, rfl, rfl⟩ := hcs
    refine .inr ⟨x, rfl, hl, by simpa [maxLen] using hm, fun i hi => ?_⟩
    have h1 := hel i hi
    rw [cells_act, List.getElem?_eq_getElem (by omega), Option.bind_eq_some_iff] at h1
    obtain ⟨cs, hcs, ht⟩ := h1
    have hget := World.cells?_some hcs
    obtain ⟨xs, m, -, -, hcl, hxl, hparts⟩ := DataW.trod_struct Try.underlying60 ht
    rw [cells_act] at hcl
    match cs, hcl with
    | [c0, c1, c2, c3], _ =>
      match xs, hxl with
      | [y0, y1, y2, y3], _ =>
        have g0 : DataW.trod enc Try.prog W 0 (fun _ => true) true m 3 [c0] = some y0 := by simpa [cells_int] using hparts 0 _ rfl
        have g1 : DataW.trod enc Try.prog W 0 (fun _ => true) true m 3 [c1] = some y1 := by simpa [cells_int] using hparts 1 _ rfl
        have g2 : DataW.trod enc Try.prog W 0 (fun _ => true) true m 3 [c2] = some y2 := by simpa [cells_int] using hparts 2 _ rfl
        have g3 : DataW.trod enc Try.prog W 0 (fun _ => true) true m 23 [c3] = some y3 := by simpa [cells_runes] using hparts 3 _ rfl
        obtain ⟨a0, e0, -, v0⟩ := DataW.trod_int Try.underlying3 g0
        obtain ⟨a1, e1, -, v1⟩ := DataW.trod_int Try.underlying3 g1
        obtain ⟨a2, e2, -, v2⟩ := DataW.trod_int Try.underlying3 g2
        obtain ⟨A, ln, cp, zs, rfl, hin⟩ := open_runes g3
        simp at e0 e1 e2
        subst e0 e1 e2
        have k0 := hget.2.2 0 (by decide)
        have k1 := hget.2.2 1 (by decide)
        have k2 := hget.2.2 2 (by decide)
        have k3 := hget.2.2 3 (by decide)
        rw [add_lit (by decide)] at k1 k2 k3
        obtain ⟨z, rfl, hC, hc, hm2, _⟩ := hin.list
        exact ⟨a0, a1, a2, A, z, cp, ⟨by simpa [Addr.add_add] using k0, by simpa using k1, by simpa using k2, by simpa using k3, int_range v0, int_range v1, int_range v2, hC, hc, hm2⟩⟩
end Go.Proofs.Ytenjldfflkinkaa.Rop
