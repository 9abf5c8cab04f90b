/- PickPlaces: which places stand in any columns of any line is as the document has it. No condition. -/
import Derived.Test.YtccleelhheilnaaSeatF
import Derived.Test.YtccleelhheilnaaRows
import Derived.Test.YtccleelhheilnaaPurePickPlaces
import Derived.WalkKit
import Derived.ProofKit
import Derived.OpenShut
import Derived.ShutString
import Derived.ChangeOld
import Derived.Below
import Derived.SizedLaws
import Derived.Lib.SmallJoins
namespace Go.Proofs.Ytccleelhheilnaa.pickPlaces
open Go.ChangeShapes Go.WideShapes Go.ChangeAt Go.RowKit Go.Joins
open Go.ChangeMaps (open_string shut_string)
set_option linter.unusedVariables false

theorem own : ownKnob Try.prog.godebug = none := by kernel_rfl
theorem laidOut : laidOutB Try.prog = true := by kernel_rfl
def IsRow (k : IntKind) (w : World) (a : Option Addr) (len cap : Nat) (zs : List Int) : Prop :=
  (a = none ∧ len = 0 ∧ cap = 0 ∧ zs = []) ∨
  ∃ x, a = some x ∧ len ≤ cap ∧ cap ≤ maxLen ∧ zs.length = cap ∧ (∀ i, i < zs.length → w.cell? (x.add i) = some (.int k (zs.getD i 0))) ∧ ∀ n ∈ zs, (Lit.int k n).wf = true
theorem cells45 : Try.prog.cellsOf 45 = 2 := by kernel_rfl
theorem cells3 : Try.prog.cellsOf 3 = 1 := by kernel_rfl
def valAt (W : World) (a : Addr) : Int := match W.cell? a with | some (.int _ n) => n | _ => 0
def pairsAt (W : World) (a : Addr) (len : Nat) : List F.S45 := (List.range len).map fun i => ⟨valAt W (a.add (i * 2)), valAt W (a.add (i * 2 + 1))⟩
set_option maxRecDepth 100000 in
theorem open_pairs {H : Type} {enc : TypeId × Value → H} {W : World} {a : Option Addr} {len cap : Nat} {d : DataW H} {p : List MemPlace} (h : DataW.Trod enc Try.prog W 0 (fun _ => true) true 28 (.slice a len cap) d p) :
    ∃ l : List F.S45, l.length = len ∧ len ≤ cap ∧ Go.Proofs.YtccleelhheilnaaW.PrintWords.Kd.C F.k45 W a l.length l := by
  obtain ⟨fuel, hf⟩ := h
  rcases DataW.trod_slice Try.underlying28 hf with ⟨hcs, _⟩ | ⟨x, l, c, elems, rest, n, -, hcs, -, -, hl, hm, hlen, hel, -, -⟩
  · simp [Value.cells] at hcs
    obtain ⟨rfl, rfl, rfl⟩ := hcs
    exact ⟨[], rfl, Nat.le_refl _, Go.Proofs.YtccleelhheilnaaW.PrintWords.Kd.C_nil _ _⟩
  · simp [Value.cells] at hcs
    obtain ⟨rfl, rfl, rfl⟩ := hcs
    have hlen2 : (pairsAt W x len).length = len := by simp [pairsAt]
    have each : ∀ i, i < len → W.cell? (x.add (i * 2)) = some (.int .i64 (valAt W (x.add (i * 2)))) ∧ W.cell? (x.add (i * 2 + 1)) = some (.int .i64 (valAt W (x.add (i * 2 + 1)))) := by
      intro i hi
      have h1 := hel i hi
      rw [cells45, List.getElem?_eq_getElem (by omega), Option.bind_eq_some_iff] at h1
      obtain ⟨cs, hcs, ht⟩ := h1
      have hget := World.cells?_some hcs
      obtain ⟨xs, m, -, -, hcl, hxl, hparts⟩ := DataW.trod_array Try.underlying45 ht
      rw [cells45] at hcl
      match cs, hcl with
      | [c0, c1], _ =>
        match xs, hxl with
        | [y0, y1], _ =>
          have g0 : DataW.trod enc Try.prog W 0 (fun _ => true) true m 3 [c0] = some y0 := by simpa [cells3] using hparts 0 (by decide)
          have g1 : DataW.trod enc Try.prog W 0 (fun _ => true) true m 3 [c1] = some y1 := by simpa [cells3] using hparts 1 (by decide)
          obtain ⟨a0, e0, -, -⟩ := DataW.trod_int Try.underlying3 g0
          obtain ⟨a1, e1, -, -⟩ := DataW.trod_int Try.underlying3 g1
          simp at e0 e1
          subst e0 e1
          have k0 := hget.2.2 0 (by decide)
          have k1 := hget.2.2 1 (by decide)
          rw [Addr.add_add] at k0 k1
          have k0' : W.cell? (x.add (i * 2)) = some (.int .i64 a0) := by simpa using k0
          have k1' : W.cell? (x.add (i * 2 + 1)) = some (.int .i64 a1) := by simpa using k1
          have v0 : valAt W (x.add (i * 2)) = a0 := by unfold valAt; rw [k0']
          have v1 : valAt W (x.add (i * 2 + 1)) = a1 := by unfold valAt; rw [k1']
          rw [v0, v1]
          exact ⟨k0', k1'⟩
    refine ⟨pairsAt W x len, hlen2, hl, rfl, ?_, fun _ => ⟨x, rfl, fun j q hq => ?_⟩⟩
    · rw [hlen2]
      exact Nat.le_trans hl hm
    · obtain ⟨hj, rfl⟩ := List.getElem?_eq_some_iff.1 hq
      have hj2 : j < len := by rw [hlen2] at hj; exact hj
      obtain ⟨c0, c1⟩ := each j hj2
      have e : (pairsAt W x len)[j] = (⟨valAt W (x.add (j * 2)), valAt W (x.add (j * 2 + 1))⟩ : F.S45) := by simp [pairsAt]
      rw [e]
      refine ⟨[.int .i64 (valAt W (x.add (j * 2))), .int .i64 (valAt W (x.add (j * 2 + 1)))], rfl, F.k45_mk _ _, fun i u hu => ?_⟩
      match i, hu with
      | 0, hu =>
        simp at hu
        subst hu
        exact c0
      | 1, hu =>
        simp at hu
        subst hu
        exact c1
      | i + 2, hu => simp at hu

set_option maxRecDepth 100000 in
theorem lifted (os : Os) (started : os.Started) (H : Type) (enc : TypeId × Value → H) :
    ReturnsInHanded {} Try.checked os 23 .any (Rows.pickPlacesSpec.pre6 enc Try.prog Try.f23 Rows.pickPlacesRow.domain false) (Rows.pickPlacesSpec.post enc Try.prog Try.f23 false true false false) := by
  refine returnsInHanded_of_change_sized (C := Try.checked) own started (by kernel_rfl) Try.func23
    (ChangeSpec.witness6 (enc := enc) (C := Try.checked) false ⟨#[], #[.slice none 0 0, .slice none 0 0], []⟩ 8 (by kernel_rfl) (by kernel_rfl) (by kernel_rfl) (by kernel_rfl)) ?_
  intro W base args ds gs before hval0 hW hcnd hsz0 _
  have hsz : (DataW.weightsEach Try.prog (Try.f23.params.toList ++ Rows.pickPlacesSpec.plain.varTypes Try.prog) (ds ++ gs)).all (· ≤ reachBytes) = true := hsz0
  have hval : ∀ (j : Nat) t v, Try.f23.params[j]? = some t → args[j]? = some v → Value.okWide Try.prog W .any base t v := hval0
  have hW' := hW
  obtain ⟨p, q, hA0, hV, rfl, hfz, hnd⟩ := hW
  have hA : DataW.TrodAll enc Try.prog W 0 (fun _ => true) true Try.f23.params.toList args.toList ds p := hA0
  rw [Try.params23] at hA hval hsz
  obtain ⟨v0, vs0, d0, ds0, p0, q0, hargs, rfl, rfl, h0, r0⟩ := trodAll_cons hA
  obtain ⟨v1, vs1, d1, ds1, p1, q1, rfl, rfl, rfl, h1, r1⟩ := trodAll_cons r0
  obtain ⟨rfl, rfl, rfl⟩ := trodAll_nil r1
  obtain rfl : args = #[v0, v1] := by cases args; simp_all
  obtain ⟨rfl, rfl⟩ := trodVars_none hV
  obtain ⟨a0, len0, cap0, rfl⟩ := okWide_slice Try.underlying22 (hval 0 22 v0 rfl rfl)
  have k0 := h0
  have lt0 : ∀ x ∈ p0, x.block < W.heap.size := by obtain ⟨m, hm⟩ := k0; exact DataW.trod_lt m _ _ _ hm
  obtain ⟨z0, w0⟩ : ∃ zs, IsRow .i64 W a0 len0 cap0 zs := by
    obtain ⟨fuel, hf⟩ := h0
    rcases open_ints Try.underlying22 Try.underlying3 (by kernel_rfl) hf with ⟨hcs, _⟩ | ⟨x, l, c, zs, hcs, _, hl, hm, hz, _, hcell, hwz⟩
    · simp [Value.cells] at hcs
      obtain ⟨rfl, rfl, rfl⟩ := hcs
      exact ⟨[], .inl ⟨rfl, rfl, rfl, rfl⟩⟩
    · simp [Value.cells] at hcs
      obtain ⟨rfl, rfl, rfl⟩ := hcs
      exact ⟨zs, .inr ⟨_, rfl, hl, hm, by simpa using hz, hcell, hwz⟩⟩
  obtain ⟨a1, len1, cap1, rfl⟩ := okWide_slice Try.underlying28 (hval 1 28 v1 rfl rfl)
  have k1 := h1
  have lt1 : ∀ x ∈ p1, x.block < W.heap.size := by obtain ⟨m, hm⟩ := k1; exact DataW.trod_lt m _ _ _ hm
  obtain ⟨l1, rfl, hc1, hr1⟩ := open_pairs h1
  clear hA0 hval0 hsz0 hsz
  obtain ⟨l0, rfl, hr0, hm0, hw0, hc0⟩ := Go.Proofs.YtccleelhheilnaaW.PrintWords.ReadsInt.ofRowC w0
  refine (F.colophonlaw16_PickPlaces.calls _ a0 cap0 l0 a1 cap1 l1 true W (Go.Proofs.YtccleelhheilnaaW.PrintWords.Kd.C_of_reads (d := (0 : Int)) (h1 := fun _ => rfl) hr0) hc0 hr1 hc1 (Pure.places_true l0 l1)).mono fun e W' ⟨he, bel⟩ => ?_
  subst he
  exact ⟨_, rfl, _, _, _, [], _, [], hW', trodAll_mk1 (shut_bool Try.underlying4 _), (trodAll_cons_mk (Below.trod laidOut (by kernel_rfl) (of_decide_eq_true (by kernel_rfl)) k0 bel lt0) (trodAll_cons_mk (Below.trod laidOut (by kernel_rfl) (of_decide_eq_true (by kernel_rfl)) k1 bel lt1) trodAll_mk0)), rfl, bel.frame _, fun h => by cases h⟩

theorem closed : joinedFacts Try.prog 23 Try.f23 Rows.pickPlacesSpec Rows.pickPlacesRow = true := by
  unfold joinedFacts
  rw [SeatF.laid, SeatF.rowed, SeatF.heard, SeatF.enter, SeatF.lifts, SeatF.make, SeatF.plain]
  kernel_rfl
theorem over : Rows.pickPlacesRow.holds Try.pinned (OpenSpec.ofChange Rows.pickPlacesSpec) :=
  OpenClaim.holds_of_wide 23 Try.f23 rfl rfl rfl rfl rfl rfl rfl ⟨rfl, rfl, rfl, rfl, rfl⟩ rfl rfl rfl rfl rfl (by kernel_rfl) Try.func23 closed
    (of_decide_eq_true (by kernel_rfl)) (by unfold Func.isWrapper; first | (rw [if_pos (by decide +kernel)]; kernel_rfl) | (rw [if_neg (by decide +kernel)]; exact ⟨rfl, rfl⟩))
    (fun os started H enc _ => lifted os started H enc)

theorem proved : Rows.PickPlacesSaid := over
#print axioms proved
end Go.Proofs.Ytccleelhheilnaa.pickPlaces
