/- The texts FGSvEA, in one: what the law does not need is left out. -/
import Derived.Test.YtenjldfflkinkaaDoorTrC
import Derived.StillTailTactics
import Derived.IntWalk
import Derived.Maps.OwnIn
import Derived.ProofKit
import Derived.OpenShut
import Derived.ShutString
import Derived.ChangeOld
import Derived.Lib.SmallJoins
import Derived.Stop.RegionWithIn
import Derived.WalkLawsBesides
set_option linter.unusedVariables false
set_option linter.unusedSimpArgs false
namespace Go.Proofs.YtenjldfflkinkaaDoor.Rop
set_option linter.unusedVariables false
set_option linter.unusedSimpArgs false

/-- a scalar value -/
def scl (a0 : Int) : Bool := decide (0 ≤ a0 ∧ a0 < 55296 ∨ 57343 < a0 ∧ a0 ≤ 1114111)
end Go.Proofs.YtenjldfflkinkaaDoor.Rop

namespace Go.Proofs.YtenjldfflkinkaaDoor.Rop
set_option linter.unusedVariables false
set_option linter.unusedSimpArgs false
open Go.RowKit Go.Proofs.YtenjldfflkinkaaDoor.F Go.Proofs.YtenjldfflkinkaaDoorW.PrintWords Go.Proofs.YtenjldfflkinkaaDoorW.PrintLast Go.Proofs.YtenjldfflkinkaaDoorW.PrintMore

theorem cell_off {W : World} {b o o' : Nat} {v : Value} (h : o ≠ o') : (W.setCell ⟨b, o, none⟩ v).cell? ⟨b, o', none⟩ = W.cell? ⟨b, o', none⟩ :=
  World.cell?_setCell_other _ _ _ _ (by intro e; injection e with _ e2 _; exact h e2)
end Go.Proofs.YtenjldfflkinkaaDoor.Rop

namespace Go.Proofs.YtenjldfflkinkaaDoor.Rop
set_option linter.unusedVariables false
set_option linter.unusedSimpArgs false
open Go.RowKit Go.Shelf Go.Proofs.YtenjldfflkinkaaDoor.F Go.Proofs.YtenjldfflkinkaaDoorW.PrintWords Go.Proofs.YtenjldfflkinkaaDoorW.PrintLast Go.Proofs.YtenjldfflkinkaaDoorW.PrintMore
attribute [local go_sem] Oper.semAt_some

theorem hdd_ : ∀ k : Nat, (Fence.wide.depth.isSome = true → 1 ≤ k) := fun k h => by cases h
/-- what lies in the blocks of S lies as it lay -/
def KeepS (S : Nat → Prop) (W W' : World) : Prop := ∀ k, S k → W'.heap[k]? = W.heap[k]?
theorem KeepS.refl (S : Nat → Prop) (W : World) : KeepS S W W := fun _ _ => rfl
theorem KeepS.trans {S : Nat → Prop} {A B C : World} (h : KeepS S A B) (k : KeepS S B C) : KeepS S A C := fun j hj => (k j hj).trans (h j hj)
theorem KeepS.cell {S : Nat → Prop} {A B : World} (h : KeepS S A B) {b o : Nat} (hb : S b) : B.cell? ⟨b, o, none⟩ = A.cell? ⟨b, o, none⟩ := by
  simp only [World.cell?, h b hb]
theorem KeepS.of_below {S : Nat → Prop} {n : Nat} {A B : World} (h : Below n A B) (hS : ∀ k, S k → k < n) : KeepS S A B := fun k hk => h.block k (hS k hk)
theorem keepS_t {S : Nat → Prop} {A B C : World} (h : KeepS S A B) (k : KeepS S B C) : KeepS S A C := h.trans k
theorem keepS_b {S : Nat → Prop} {w : World} (hS : ∀ k, S k → k < w.heap.size) (W : World) (l : Nat) (o o' : Obj) (hl : w.heap.size ≤ l) (h : W.heap[l]? = some o) (h1 : o.isCells = false) (h2 : o.isWalk = false) : KeepS S W (W.putObj l o') :=
  fun k hk => (grownBy_putObj' W l o').block k (by have := (Array.getElem?_eq_some_iff.1 h).1; have := hS k hk; omega) (by have := hS k hk; simp; omega)
end Go.Proofs.YtenjldfflkinkaaDoor.Rop

namespace Go.Proofs.YtenjldfflkinkaaDoor.Rop
set_option linter.unusedVariables false
set_option linter.unusedSimpArgs false
open Go.RowKit Go.Shelf Go.Proofs.YtenjldfflkinkaaDoor.F Go.Proofs.YtenjldfflkinkaaDoorW.PrintWords Go.Proofs.YtenjldfflkinkaaDoorW.PrintLast Go.Proofs.YtenjldfflkinkaaDoorW.PrintMore
attribute [local go_sem] Oper.semAt_some

end Go.Proofs.YtenjldfflkinkaaDoor.Rop

namespace Go.Proofs.YtenjldfflkinkaaDoor.Rop
set_option linter.unusedVariables false
set_option linter.unusedSimpArgs false
open Go.RowKit Go.Proofs.YtenjldfflkinkaaDoor.F Go.Proofs.YtenjldfflkinkaaDoorW.PrintWords Go.Proofs.YtenjldfflkinkaaDoorW.PrintLast Go.Proofs.YtenjldfflkinkaaDoorW.PrintMore

section
variable {w : World} {b : Nat} {l : List Int}
end
end Go.Proofs.YtenjldfflkinkaaDoor.Rop

namespace Go.Proofs.YtenjldfflkinkaaDoor.Rop
set_option linter.unusedVariables false
set_option linter.unusedSimpArgs false
open Go.RowKit Go.Proofs.YtenjldfflkinkaaDoor.F Go.Proofs.YtenjldfflkinkaaDoorW.PrintWords Go.Proofs.YtenjldfflkinkaaDoorW.PrintLast Go.Proofs.YtenjldfflkinkaaDoorW.PrintMore

/-! ### paragraphs, in plain Lean -/
/-! ### the walk -/
theorem R_cap {w : World} {e base : Nat} {A : Option Addr} {n c : Nat} {xs : List Int} {ok : Nat → Prop} (h : Kd.R (Kd.int .i32) e w base ok (.slice A n c) xs) : c ≤ 9223372036854775807 := by
  obtain ⟨inner, ho⟩ := Kd.R_own h
  rcases ho.2 with ⟨h1, _⟩ | ⟨g, cap, cur, h1, _, _, _, h2, _⟩
  · injection h1 with _ _ h3
    omega
  · injection h1 with _ _ h3
    subst h3
    simpa [maxLen] using h2
end Go.Proofs.YtenjldfflkinkaaDoor.Rop

namespace Go.Proofs.YtenjldfflkinkaaDoor.Rop
set_option linter.unusedVariables false
set_option linter.unusedSimpArgs false
open Go.RowKit Go.Proofs.YtenjldfflkinkaaDoor.F Go.Proofs.YtenjldfflkinkaaDoorW.PrintWords Go.Proofs.YtenjldfflkinkaaDoorW.PrintLast Go.Proofs.YtenjldfflkinkaaDoorW.PrintMore
theorem wrap_small {x : Int} (h : -9223372036854775808 ≤ x ∧ x ≤ 9223372036854775807) : IntKind.i64.wrap x = x := by
  rw [IntKind.wrap_i64]
  omega
theorem new_cell {W : World} {cs : Array Value} {t j : Nat} : (W.alloc (.cells cs t)).cell? ⟨W.heap.size, j, none⟩ = cs[j]? := by
  simp only [World.cell?]
  rw [World.alloc_heap_new]
  rfl
end Go.Proofs.YtenjldfflkinkaaDoor.Rop

namespace Go.Proofs.YtenjldfflkinkaaDoor.Rop
open Go.ChangeShapes Go.WideShapes Go.ChangeAt Go.RowKit Go.Joins Go.Proofs.YtenjldfflkinkaaDoorW.PrintWords
set_option linter.unusedVariables false
end Go.Proofs.YtenjldfflkinkaaDoor.Rop

namespace Go.Proofs.YtenjldfflkinkaaDoor.Rop
set_option linter.unusedVariables false
set_option linter.unusedSimpArgs false
open Go.RowKit Go.Shelf Go.Proofs.YtenjldfflkinkaaDoor.F Go.Proofs.YtenjldfflkinkaaDoorW.PrintWords Go.Proofs.YtenjldfflkinkaaDoorW.PrintLast Go.Proofs.YtenjldfflkinkaaDoorW.PrintMore
attribute [local go_sem] Oper.semAt_some
/-- the marks of the loops that were gone through -/
def Marks (b : Nat) (W : World) : List Deferred → Prop
  | [] => True
  | d :: ds => (∃ D, d = { target := .collected D, args := #[] } ∧ b ≤ D ∧ W.heap[D]? = some (.deferred (some [])) ∧ ∀ D' : Nat, ({ target := .collected D', args := #[] } : Deferred) ∈ ds → D' ≠ D) ∧ Marks b W ds
theorem Marks.mem {b : Nat} {W : World} : ∀ {ds : List Deferred}, Marks b W ds → ∀ D, ({ target := .collected D, args := #[] } : Deferred) ∈ ds → D < W.heap.size
  | [], _, D, h => by cases h
  | d :: ds, hm, D, h => by
    obtain ⟨⟨D2, rfl, h2, h3, h4⟩, hr⟩ := hm
    rcases List.mem_cons.1 h with he | he
    · cases he
      exact (Array.getElem?_eq_some_iff.1 h3).1
    · exact Marks.mem hr D he
theorem Marks.get {b : Nat} {W : World} : ∀ {ds : List Deferred}, Marks b W ds → ∀ D, ({ target := .collected D, args := #[] } : Deferred) ∈ ds → W.heap[D]? = some (.deferred (some []))
  | [], _, D, h => by cases h
  | d :: ds, hm, D, h => by
    obtain ⟨⟨D2, rfl, h2, h3, h4⟩, hr⟩ := hm
    rcases List.mem_cons.1 h with he | he
    · cases he
      exact h3
    · exact Marks.get hr D he
theorem Marks.keep {b : Nat} {W W' : World} : ∀ {ds : List Deferred}, Marks b W ds → (∀ D, ({ target := .collected D, args := #[] } : Deferred) ∈ ds → W'.heap[D]? = W.heap[D]?) → Marks b W' ds
  | [], _, _ => trivial
  | d :: ds, hm, h => by
    obtain ⟨⟨D2, rfl, h2, h3, h4⟩, hr⟩ := hm
    exact ⟨⟨D2, rfl, h2, (h D2 (List.mem_cons_self ..)).trans h3, h4⟩, hr.keep fun D hD => h D (List.mem_cons_of_mem _ hD)⟩
theorem Marks.box {b : Nat} {W : World} {ds : List Deferred} {B t : Nat} {v : Value} (h : Marks b W ds) (hB : Boxed W B t v) (u : Value) : Marks b (W.setCell ⟨B, 0, none⟩ u) ds :=
  h.keep fun D hD => Below.heap_setCell W ⟨B, 0, none⟩ u D (fun e => by
    have h1 := h.get D hD
    rw [show D = B from e, show W.heap[B]? = _ from hB] at h1
    cases h1)
theorem marks_leave {b : Nat} {F : Fence} {n : Nat} {P : Program} {fn : Func} {tmps : Array Value} {R : Ending → World → Prop} {Φ : World → Prop} (hΦ : ∀ W D, Φ W → b ≤ D → W.heap[D]? = some (.deferred (some [])) → Φ (W.putObj D (.deferred none)))
    (hR : ∀ W, Φ W → ∃ v, (results fn tmps).run P W = .ok v W ∧ R (.returned v) W) : ∀ (ds : List Deferred) (W : World), Marks b W ds → Φ W → LeavesInM F n P fn tmps R ds .returning W
  | [], W, _, h => hR W h
  | d :: ds, W, ⟨⟨D, hd, h2, h3, h4⟩, hr⟩, h => by
    subst hd
    refine ⟨by simp, .inl ⟨_, _, rfl, run_takeDeferred h3, ?_⟩⟩
    exact marks_leave hΦ hR ds _ (hr.keep fun D' hD' => World.putObj_heap_other (h4 D' hD')) (hΦ W D h h2 h3)
theorem Boxed.putObj {W : World} {B D t : Nat} {v : Value} {o o' : Obj} (h : Boxed W B t v) (hD : W.heap[D]? = some o) (ho : o.isCells = false) : Boxed (W.putObj D o') B t v :=
  h.kept (grownBy_putObj' W D o') (fun e => by
    cases e
    rw [show W.heap[B]? = _ from h] at hD
    cases hD
    cases ho)
theorem num_read32 {w : World} {A : Option Addr} {zs : List Int} {n : Nat} (h : Kd.C (Kd.int .i32) w A n zs) (hn : zs.length = n) (j : Nat) (h1 : j < n) : ∃ ad, A = some ad ∧ w.cell? (ad.add j) = some (.int .i32 (zs.getD j 0)) := by
  obtain ⟨ad, c, e, hc1, hK, hc0⟩ := Kd.C_get h 0 (j : Int) (by omega) (by omega)
  have hK' : c = [.int .i32 (zs.getD (j : Int).toNat 0)] := hK
  subst hK'
  have := hc0 0 _ rfl
  refine ⟨ad, e, ?_⟩
  have h1 : (j : Int).toNat * (Kd.int .i32).sz + 0 = j := by show (j : Int).toNat * 1 + 0 = j; omega
  rw [h1] at this
  exact this
end Go.Proofs.YtenjldfflkinkaaDoor.Rop

namespace Go.Proofs.YtenjldfflkinkaaDoor.Rop
set_option linter.unusedVariables false
set_option linter.unusedSimpArgs false
open Go.RowKit Go.Shelf Go.Proofs.YtenjldfflkinkaaDoor.F Go.Proofs.YtenjldfflkinkaaDoorW.PrintWords Go.Proofs.YtenjldfflkinkaaDoorW.PrintLast Go.Proofs.YtenjldfflkinkaaDoorW.PrintMore
attribute [local go_sem] Oper.semAt_some
end Go.Proofs.YtenjldfflkinkaaDoor.Rop

namespace Go.Proofs.YtenjldfflkinkaaDoor.Rop
set_option linter.unusedVariables false
set_option linter.unusedSimpArgs false
open Go.RowKit Go.Shelf Go.Proofs.YtenjldfflkinkaaDoor.F Go.Proofs.YtenjldfflkinkaaDoorW.PrintWords Go.Proofs.YtenjldfflkinkaaDoorW.PrintLast Go.Proofs.YtenjldfflkinkaaDoorW.PrintMore
attribute [local go_sem] Oper.semAt_some
end Go.Proofs.YtenjldfflkinkaaDoor.Rop

namespace Go.Proofs.YtenjldfflkinkaaDoor.Rop
set_option linter.unusedVariables false
set_option linter.unusedSimpArgs false
open Go.RowKit Go.Proofs.YtenjldfflkinkaaDoor.F Go.Proofs.YtenjldfflkinkaaDoorW.PrintWords Go.Proofs.YtenjldfflkinkaaDoorW.PrintLast Go.Proofs.YtenjldfflkinkaaDoorW.PrintMore
theorem rd_get {l : List Int} {j : Nat} (h : j < l.length) : rd l (j : Int) = l[j] := by simp [rd, h]
theorem wrap_succ {l : List Int} {j : Nat} (h : j < l.length) (hl : l.length ≤ 1000000) : wrap64 ((j : Int) + 1) = ((j + 1 : Nat) : Int) := by unfold wrap64; omega
end Go.Proofs.YtenjldfflkinkaaDoor.Rop

namespace Go.Proofs.YtenjldfflkinkaaDoor.Rop
set_option linter.unusedVariables false
set_option linter.unusedSimpArgs false
open Go.RowKit Go.Proofs.YtenjldfflkinkaaDoor.F Go.Proofs.YtenjldfflkinkaaDoorW.PrintWords Go.Proofs.YtenjldfflkinkaaDoorW.PrintLast Go.Proofs.YtenjldfflkinkaaDoorW.PrintMore
/-- the cuts of a slice of runes -/
theorem run_to {A : Option Addr} {n c x : Nat} (h : x ≤ n) (hc : n ≤ c) (W : World) : (Instr.slice 31 (.slice A n c) none (some (.int .i64 (x : Int))) none).run Tryd.prog W = .ok (.slice A x c) W := by
  obtain ⟨i0, hi, hz0, hz1, hz2⟩ := info_parts info21
  have := cut_to 31 21 .i64 Tryd.underlying31 hi A n c (x : Int) (by omega) (by omega) hc W
  rw [this, Int.toNat_natCast]
/-- where the rest of a slice lies -/
def restA (A : Option Addr) (c y : Nat) : Option Addr := if c = y then A else A.map (·.add y)
theorem run_from {A : Option Addr} {n c y : Nat} (h : y ≤ n) (W : World) : (Instr.slice 31 (.slice A n c) (some (.int .i64 (y : Int))) none none).run Tryd.prog W = .ok (.slice (restA A c y) (n - y) (c - y)) W := by
  obtain ⟨i0, hi, hz0, hz1, hz2⟩ := info_parts info21
  have := cut_from 31 21 .i64 Tryd.underlying31 hi 1 hz1 A n c (y : Int) (by omega) (by omega) W
  rw [this, Int.toNat_natCast, Nat.mul_one, restA]
theorem run_mid {A : Option Addr} {n c x y : Nat} (h : x ≤ y) (hy : y ≤ n) (hc : n ≤ c) (W : World) : (Instr.slice 31 (.slice A n c) (some (.int .i64 (x : Int))) (some (.int .i64 (y : Int))) none).run Tryd.prog W = .ok (.slice (restA A c x) (y - x) (c - x)) W := by
  obtain ⟨i0, hi, hz0, hz1, hz2⟩ := info_parts info21
  have := cut_mid 31 21 .i64 .i64 Tryd.underlying31 hi 1 hz1 A n c (x : Int) (y : Int) (by omega) (by omega) (by omega) hc W
  rw [this, Int.toNat_natCast, Int.toNat_natCast, Nat.mul_one, restA]
theorem C_take {w : World} {A : Option Addr} {l : List Int} (h : Kd.C (Kd.int .i32) w A l.length l) {x : Nat} (hx : x ≤ l.length) : Kd.C (Kd.int .i32) w A x (l.take x) := by
  have h1 := ReadsOf.take_ (Kd.reads_of_C (d := (0 : Int)) h) x hx
  exact Kd.C_of_reads (d := (0 : Int)) (h1 := fun _ => rfl) h1
theorem C_drop {w : World} {A : Option Addr} {l : List Int} {c : Nat} (h : Kd.C (Kd.int .i32) w A l.length l) (hc : l.length ≤ c) {y : Nat} (hy : y ≤ l.length) : Kd.C (Kd.int .i32) w (restA A c y) (l.length - y) (l.drop y) := by
  have h1 := ReadsOf.drop_ (c := c) (Kd.reads_of_C (d := (0 : Int)) h) y hy hc
  exact Kd.C_of_reads (d := (0 : Int)) (h1 := fun _ => rfl) h1
theorem C_mid {w : World} {A : Option Addr} {l : List Int} {c : Nat} (h : Kd.C (Kd.int .i32) w A l.length l) (hc : l.length ≤ c) {x y : Nat} (hx : x ≤ y) (hy : y ≤ l.length) : Kd.C (Kd.int .i32) w (restA A c x) (y - x) ((l.drop x).take (y - x)) := by
  have h1 := C_drop h hc (show x ≤ l.length by omega)
  have h2 : Kd.C (Kd.int .i32) w (restA A c x) (l.drop x).length (l.drop x) := by rw [List.length_drop]; exact h1
  exact C_take h2 (by rw [List.length_drop]; omega)
end Go.Proofs.YtenjldfflkinkaaDoor.Rop

namespace Go.Proofs.YtenjldfflkinkaaDoor.Rop
set_option linter.unusedVariables false
set_option linter.unusedSimpArgs false
open Go.RowKit Go.Proofs.YtenjldfflkinkaaDoor.F Go.Proofs.YtenjldfflkinkaaDoorW.PrintWords Go.Proofs.YtenjldfflkinkaaDoorW.PrintLast Go.Proofs.YtenjldfflkinkaaDoorW.PrintMore
section
variable {w : World} {b n c : Nat} {l : List Int} {A : Option Addr}
theorem own_row {w1 : World} {base : Nat} {v : Value} (h : Kd.R (Kd.int .i32) 21 w1 base (fun _ => True) v ([] ++ l)) (hn : l.length = n) : ∃ A c, v = .slice A n c ∧ Kd.C (Kd.int .i32) w1 A n l ∧ n ≤ c ∧ c ≤ 9223372036854775807 := by
  subst hn
  obtain ⟨A, c, rfl⟩ := Kd.R_slice h
  exact ⟨A, c, rfl, (Kd.R_reads' h).2.2, (Kd.R_reads' h).2.1, R_cap h⟩

end
end Go.Proofs.YtenjldfflkinkaaDoor.Rop

namespace Go.Proofs.YtenjldfflkinkaaDoor.Rop
set_option linter.unusedVariables false
set_option linter.unusedSimpArgs false
open Go.RowKit Go.Proofs.YtenjldfflkinkaaDoor.F Go.Proofs.YtenjldfflkinkaaDoorW.PrintWords Go.Proofs.YtenjldfflkinkaaDoorW.PrintLast Go.Proofs.YtenjldfflkinkaaDoorW.PrintMore
theorem C_nil (w : World) : Kd.C (Kd.int .i32) w none 0 [] := Kd.C_of_reads (d := (0 : Int)) (h1 := fun _ => rfl) ⟨rfl, by simp, fun h => by simp at h⟩
section
variable {w : World} {b n c : Nat} {l : List Int} {A : Option Addr}
end
end Go.Proofs.YtenjldfflkinkaaDoor.Rop

namespace Go.Proofs.YtenjldfflkinkaaDoor.Rop
set_option linter.unusedVariables false
set_option linter.unusedSimpArgs false
open Go.RowKit Go.Proofs.YtenjldfflkinkaaDoor.F Go.Proofs.YtenjldfflkinkaaDoorW.PrintWords Go.Proofs.YtenjldfflkinkaaDoorW.PrintLast Go.Proofs.YtenjldfflkinkaaDoorW.PrintMore
/-- cells of a block -/
theorem blk_cell {W : World} {g t j : Nat} {cur : Array Value} (h : W.heap[g]? = some (.cells cur t (0, 0))) : W.cell? ⟨g, j, none⟩ = cur[j]? := by
  simp [World.cell?, h]
theorem blk_frozen {W : World} {g t j : Nat} {cur : Array Value} (h : W.heap[g]? = some (.cells cur t (0, 0))) : W.frozen? ⟨g, j, none⟩ = false := by
  simp [World.frozen?, h]
end Go.Proofs.YtenjldfflkinkaaDoor.Rop

namespace Go.Proofs.YtenjldfflkinkaaDoor.Rop
set_option linter.unusedVariables false
set_option linter.unusedSimpArgs false
open Go.RowKit Go.Proofs.YtenjldfflkinkaaDoor.F Go.Proofs.YtenjldfflkinkaaDoorW.PrintWords Go.Proofs.YtenjldfflkinkaaDoorW.PrintLast Go.Proofs.YtenjldfflkinkaaDoorW.PrintMore
set_option linter.unusedSectionVars false
variable [Coe Unit Nat]
/-- from where on blocks are new -/
def bd [h : Coe Unit Nat] : Nat := h.coe ()
/-- what is new lies in a block of its own type -/
def Tyd (W : World) (t : Nat) (A : Option Addr) (n : Nat) : Prop := 0 < n → ∀ ad, A = some ad → bd ≤ ad.block → ∃ cs, W.heap[ad.block]? = some (.cells cs t (0, 0))
theorem Tyd.heap {W W' : World} {t n : Nat} {A : Option Addr} (h : Tyd W t A n) (hk : ∀ ad, 0 < n → A = some ad → ad.block < W.heap.size → W'.heap[ad.block]? = W.heap[ad.block]?) : Tyd W' t A n := fun hn ad hA hb => by
  obtain ⟨cs, hc⟩ := h hn ad hA hb
  exact ⟨cs, (hk ad hn hA (Array.getElem?_eq_some_iff.1 hc).1).trans hc⟩
theorem Tyd.below {W W' : World} {t n : Nat} {A : Option Addr} (h : Tyd W t A n) (hb : Below W.heap.size W W') : Tyd W' t A n := h.heap fun ad _ _ hlt => hb.block _ hlt
theorem Tyd.cut {W : World} {t n m i : Nat} {A : Option Addr} (h : Tyd W t A n) (hm : 0 < m → 0 < n) : Tyd W t (A.map (·.add i)) m := fun h0 ad hA hb => by
  obtain ⟨ad0, h1, h2⟩ := Option.map_eq_some_iff.1 hA
  have h3 : ad.block = ad0.block := by
    rw [← h2]
    unfold Addr.add
    split <;> rfl
  rw [h3] at hb ⊢
  exact h (hm h0) ad0 h1 hb
theorem Tyd.less {W : World} {t n m : Nat} {A : Option Addr} (h : Tyd W t A n) (hm : 0 < m → 0 < n) : Tyd W t A m := fun h0 => h (hm h0)
theorem R_ty {w1 : World} {e base n c : Nat} {A : Option Addr} {xs : List Int} {ok : Nat → Prop} (h : Kd.R (Kd.int .i32) e w1 base ok (.slice A n c) xs) : Tyd w1 e A n := fun hn ad hA _ => by
  obtain ⟨inner, ho⟩ := Kd.R_own h
  rcases ho.2 with ⟨h1, _⟩ | ⟨g, cap, cur, h1, _, hh, _⟩
  · injection h1 with _ h2 _
    omega
  · injection h1 with h2 _ _
    rw [hA] at h2
    injection h2 with h2
    subst h2
    exact ⟨cur, hh⟩
/-- a slice of runes that reads as this list -/
structure Sl (W : World) (A : Option Addr) (n c : Nat) (l : List Int) : Prop where
  hC : Kd.C (Kd.int .i32) W A n l
  hn : l.length = n
  hc : n ≤ c
  hm : c ≤ 9223372036854775807
  ty : Tyd W 21 A n
theorem Sl.below {W W' : World} {A : Option Addr} {n c : Nat} {l : List Int} (h : Sl W A n c l) (hb : Below W.heap.size W W') : Sl W' A n c l := ⟨Kd.C_below h.hC hb, h.hn, h.hc, h.hm, h.ty.below hb⟩
theorem Sl.nil (W : World) : Sl W none 0 0 [] := ⟨C_nil W, rfl, Nat.le_refl _, by omega, fun h => by omega⟩
def GivesSl (l : List Int) (w : World) (e : Ending) (w' : World) : Prop := ∃ A n c, e = .returned (.slice A n c) ∧ Sl w' A n c l ∧ Below w.heap.size w w'
theorem own_sl {w1 : World} {base : Nat} {v : Value} {l : List Int} (h : Kd.R (Kd.int .i32) 21 w1 base (fun _ => True) v ([] ++ l)) : ∃ A n c, v = .slice A n c ∧ Sl w1 A n c l := by
  obtain ⟨A, c, he, h1, h2, h3⟩ := own_row h rfl
  exact ⟨A, _, c, he, h1, rfl, h2, h3, R_ty (he ▸ h)⟩
theorem run_eqIn_sl (d : Nat) (A : Option Addr) (n c : Nat) (W : World) : (Op.equalIn (d + 1) 31 (.slice A n c) (.slice none 0 0)).run Tryd.prog W = .ok A.isNone W := by
  cases A <;> simp [Op.equalIn, run_underlying Tryd.underlying31]
theorem run_sl_nil (A : Option Addr) (n c : Nat) (W : World) : (binOp .eql 31 (.slice A n c) (.slice none 0 0)).run Tryd.prog W = .ok (.bool A.isNone) W := by
  have h3 : (Op.equal 31 (.slice A n c) (.slice none 0 0)).run Tryd.prog W = .ok A.isNone W := run_eqIn_sl 9999 A n c W
  simp only [binOp]
  simp [h3]
section
variable {w : World} {A : Option Addr} {n c : Nat} {l : List Int}
set_option maxRecDepth 100000 in
set_option maxHeartbeats 4000000 in
theorem Clone_calls (h : Sl w A n c l) (hb : n ≤ 1000000) : Calls Tryd.prog 55 #[.slice A n c] w (GivesSl l w) := by
  have H := Aside0.mk h
  rcases A with _ | ad
  · obtain rfl : l = [] := by
      have h1 := h.hn
      have h2 := (Kd.reads_of_C (d := (0 : Int)) h.hC).2.2
      rcases Nat.eq_zero_or_pos n with h3 | h3
      · exact List.eq_nil_of_length_eq_zero (h1.trans h3)
      · obtain ⟨a, ha, _⟩ := h2 h3
        cases ha
    clear h
    have hnil : ∀ W, (binOp .eql 31 (.slice none n c) (.slice none 0 0)).run Tryd.prog W = .ok (.bool true) W := run_sl_nil none n c
    go_enter Tryd.func55, Tryd.ntmps55
    go_wp2
    go_ret
    exact ⟨none, 0, 0, rfl, Sl.nil _, Below.refl _ _⟩
  · clear h
    have hnil : ∀ W, (binOp .eql 31 (.slice (some ad) n c) (.slice none 0 0)).run Tryd.prog W = .ok (.bool false) W := run_sl_nil (some ad) n c
    go_enter Tryd.func55, Tryd.ntmps55
    go_wp2_with (first
      | ((with_reducible refine gate_dst (N := 5) rfl ?_); refine Kd.R_lit (Kd.int .i32) w.heap.size 21 rfl (N := 5) rfl (xs := ([] : List Int)) (inner := []) (ok := fun _ => True) (okp := fun _ => True) ?hr (Reps.none _ _) (fun _ hk => hk) trivial (Below.refl _ w) (Nat.le_refl _) (by simp) ?_; (case hr => first | (go_simp; done) | (go_simp; rfl)); intro v1 w1 ho1 hb1 hg1 hn1; have HO1 := Aside0.mk ho1; have HB1 := Aside0.mk hb1; clear hg1 hn1 ho1 hb1)
      | ((with_reducible refine gate_dst (N := 7) rfl ?_); at_builtin; refine Kd.R_append_rows (Kd.int .i32) (w0 := w) w.heap.size rfl (.tmp 5) (.tmp 6) 31 21 (.int .i32 0) 4 rfl Tryd.underlying31 info21 rfl (by decide) (by omega) v1 [] l _ _ _ (fun _ => True) (fun _ => False) rfl rfl HO1.out (Kd.C_below H.out.hC HB1.out) (fun _ _ h => h) (fun _ h => h.elim) (fun _ _ => trivial) HB1.out HB1.out.size (by simp; omega) ?_; intro v2 w2 ho2 hb2 hg2 hn2; obtain ⟨A2, n2, c2, rfl, hS2⟩ := own_sl ho2; have S2 := Aside0.mk hS2; have HB2 := Aside0.mk hb2; clear hg2 hn2 ho2 hb2 hS2))
    go_ret
    exact ⟨A2, n2, c2, rfl, S2.out, HB2.out⟩
/-! ### scalars -/
theorem scl_iff (r : Int) : scl r = true ↔ ¬ (r < 0) ∧ ¬ (1114111 < r) ∧ ¬ (55296 ≤ r ∧ r < 57344) := by
  simp only [scl, decide_eq_true_eq]
  omega
theorem Size_z (r : Int) : Calls Tryd.prog 77 #[.int .i32 r] w fun e w' => ∃ k : Int, e = .returned (.int .i64 k) ∧ ((k == 0) = !(scl r)) ∧ w = w' := by
  have hs := scl_iff r
  by_cases h1 : r < 0
  · have e1 : scl r = false := Bool.eq_false_iff.2 (fun h => (hs.1 h).1 h1)
    have d1 : decide (r < 0) = true := decide_eq_true h1
    clear hs
    go_enter Tryd.func77, Tryd.ntmps77
    go_wp2
    go_ret
    exact ⟨0, rfl, by first | (rw [e1]; rfl) | decide | (simp [e1]; done), rfl⟩
  have d1 : decide (r < 0) = false := decide_eq_false h1
  by_cases h2 : 1114111 < r
  · have e1 : scl r = false := Bool.eq_false_iff.2 (fun h => (hs.1 h).2.1 h2)
    have d2 : decide (1114111 < r) = true := decide_eq_true h2
    clear hs
    go_enter Tryd.func77, Tryd.ntmps77
    go_wp2
    go_ret
    exact ⟨0, rfl, by first | (rw [e1]; rfl) | decide | (simp [e1]; done), rfl⟩
  have d2 : decide (1114111 < r) = false := decide_eq_false h2
  by_cases h3 : 55296 ≤ r
  · have d3 : decide (55296 ≤ r) = true := decide_eq_true h3
    by_cases h4 : r < 57344
    · have e1 : scl r = false := Bool.eq_false_iff.2 (fun h => (hs.1 h).2.2 ⟨h3, h4⟩)
      have d4 : decide (r < 57344) = true := decide_eq_true h4
      clear hs
      go_enter Tryd.func77, Tryd.ntmps77
      go_wp2
      go_ret
      exact ⟨0, rfl, by first | (rw [e1]; rfl) | decide | (simp [e1]; done), rfl⟩
    · have e1 : scl r = true := hs.2 ⟨h1, h2, fun h => h4 h.2⟩
      have d4 : decide (r < 57344) = false := decide_eq_false h4
      have d5 : decide (r < 128) = false := decide_eq_false (by omega)
      have d6 : decide (r < 2048) = false := decide_eq_false (by omega)
      clear hs
      by_cases h5 : r < 65536
      · have d7 : decide (r < 65536) = true := decide_eq_true h5
        go_enter Tryd.func77, Tryd.ntmps77
        go_wp2
        go_ret
        exact ⟨3, rfl, by first | (rw [e1]; rfl) | decide | (simp [e1]; done), rfl⟩
      · have d7 : decide (r < 65536) = false := decide_eq_false h5
        go_enter Tryd.func77, Tryd.ntmps77
        go_wp2
        go_ret
        exact ⟨4, rfl, by first | (rw [e1]; rfl) | decide | (simp [e1]; done), rfl⟩
  · have e1 : scl r = true := hs.2 ⟨h1, h2, fun h => h3 h.1⟩
    have d3 : decide (55296 ≤ r) = false := decide_eq_false h3
    clear hs
    by_cases h5 : r < 128
    · have d5 : decide (r < 128) = true := decide_eq_true h5
      go_enter Tryd.func77, Tryd.ntmps77
      go_wp2
      go_ret
      exact ⟨1, rfl, by first | (rw [e1]; rfl) | decide | (simp [e1]; done), rfl⟩
    · have d5 : decide (r < 128) = false := decide_eq_false h5
      by_cases h6 : r < 2048
      · have d6 : decide (r < 2048) = true := decide_eq_true h6
        go_enter Tryd.func77, Tryd.ntmps77
        go_wp2
        go_ret
        exact ⟨2, rfl, by first | (rw [e1]; rfl) | decide | (simp [e1]; done), rfl⟩
      · have d6 : decide (r < 2048) = false := decide_eq_false h6
        have d7 : decide (r < 65536) = true := decide_eq_true (by omega)
        go_enter Tryd.func77, Tryd.ntmps77
        go_wp2
        go_ret
        exact ⟨3, rfl, by first | (rw [e1]; rfl) | decide | (simp [e1]; done), rfl⟩
theorem scl1_calls (r : Int) : Calls Tryd.prog 76 #[.int .i32 r] w fun e w' => e = .returned (.bool (!(scl r))) ∧ w = w' := by
  obtain ⟨q, hq⟩ : ∃ q, (!(scl r)) = q := ⟨_, rfl⟩
  have HS := Aside0.mk (Size_z (w := w) r)
  rw [hq] at HS ⊢
  clear hq
  go_enter Tryd.func76, Tryd.ntmps76
  go_wp2_with (go_at_call 77; (with_reducible refine HS.out.mono ?_); rintro e w' ⟨k, rfl, hk, rfl⟩)
  go_ret
  exact ⟨rfl, rfl⟩
set_option maxRecDepth 100000 in
set_option maxHeartbeats 4000000 in
theorem IndexFunc_calls (h : Sl w A n c l) (hb : n ≤ 1000000) : Calls Tryd.prog 87 #[.slice A n c, .func (.func 76) #[] #[]] w fun e w' => ∃ k : Int, e = .returned (.int .i64 k) ∧ (decide (0 ≤ k) = !(l.all scl)) ∧ w = w' := by
  have H := Aside0.mk h
  clear h
  go_enter Tryd.func87, Tryd.ntmps87
  go_wp2
  go_loopw [8] (fun v8 wr => ∃ i : Nat, v8 = .int .i64 (i : Int) ∧ i ≤ n ∧ Aside0 (∀ j, j < i → scl (l.getD j 0) = true) ∧ wr = w) (fun v8 _ => n - (intOf v8).toNat)
  case atStart => exact ⟨0, rfl, Nat.zero_le _, ⟨fun j hj => by omega⟩, rfl⟩
  case round =>
    obtain ⟨i, rfl, hi, HI, rfl⟩ := hrel
    by_cases hlt : i < n
    · have hlt' : (i : Int) < (n : Int) := by omega
      obtain ⟨ad, rfl, hcl⟩ := num_read32 H.out.hC H.out.hn i hlt
      obtain ⟨x, hx⟩ : ∃ x, l.getD i 0 = x := ⟨_, rfl⟩
      rw [hx] at hcl
      have HX := Aside0.mk hx
      clear hx
      have CS := Aside0.mk (scl1_calls (w := wr) x)
      by_cases hs : scl x = true
      · rw [hs] at CS
        have HSX := Aside0.mk hs
        clear hs
        go_wp2_with (go_at_call 76; (with_reducible refine CS.out.mono ?_); rintro e w' ⟨rfl, rfl⟩)
        go_roundw
        case measure => simp [intOf]; omega
        case rel =>
          refine ⟨i + 1, by go_num, by omega, ⟨fun j hj => ?_⟩, by first | rfl | trivial⟩
          rcases Nat.lt_succ_iff_lt_or_eq.1 hj with h | h
          · exact HI.out j h
          · subst h
            rw [HX.out]
            exact HSX.out
      · replace hs : scl x = false := by simpa using hs
        rw [hs] at CS
        have HSX := Aside0.mk hs
        clear hs
        go_wp2_with (go_at_call 76; (with_reducible refine CS.out.mono ?_); rintro e w' ⟨rfl, rfl⟩)
        go_ret
        refine ⟨(i : Int), rfl, ?_, rfl⟩
        have h1 : l.all scl = false := by
          rw [List.all_eq_false]
          have hl : i < l.length := by rw [H.out.hn]; exact hlt
          refine ⟨l[i], List.getElem_mem hl, ?_⟩
          have := HX.out
          rw [List.getD_eq_getElem?_getD, List.getElem?_eq_getElem hl] at this
          simp at this
          rw [this, HSX.out]
          decide
        rw [h1]
        simp
    · have hlt' : ¬ (i : Int) < (n : Int) := by omega
      go_wp2
      go_ret
      refine ⟨-1, rfl, ?_, rfl⟩
      have h1 : l.all scl = true := by
        rw [List.all_eq_true]
        intro x hx
        obtain ⟨j, hj, rfl⟩ := List.mem_iff_getElem.1 hx
        have := HI.out j (by rw [H.out.hn] at hj; omega)
        rw [List.getD_eq_getElem?_getD, List.getElem?_eq_getElem hj] at this
        exact this
      rw [h1]
      decide
theorem Contains_calls (h : Sl w A n c l) (hb : n ≤ 1000000) : Calls Tryd.prog 75 #[.slice A n c, .func (.func 76) #[] #[]] w fun e w' => e = .returned (.bool (!(l.all scl))) ∧ w = w' := by
  have CI := Aside0.mk (IndexFunc_calls h hb)
  obtain ⟨q, hq⟩ : ∃ q, (!(l.all scl)) = q := ⟨_, rfl⟩
  rw [hq] at CI ⊢
  clear h hq
  go_enter Tryd.func75, Tryd.ntmps75
  go_wp2_with (go_at_call 87; (with_reducible refine CI.out.mono ?_); rintro e w' ⟨k, rfl, hk, rfl⟩)
  go_ret
  exact ⟨rfl, rfl⟩
theorem scalars_calls (h : Sl w A n c l) (hb : n ≤ 1000000) : Calls Tryd.prog 56 #[.slice A n c] w fun e w' => e = .returned (.bool (l.all scl)) ∧ w = w' := by
  have CI := Aside0.mk (Contains_calls h hb)
  obtain ⟨q, hq⟩ : ∃ q, l.all scl = q := ⟨_, rfl⟩
  rw [hq] at CI ⊢
  clear h hq
  go_enter Tryd.func56, Tryd.ntmps56
  go_wp2_with (go_at_call 75; (with_reducible refine CI.out.mono ?_); rintro e w' ⟨rfl, rfl⟩)
  go_ret
  exact ⟨by cases q <;> rfl, rfl⟩
/-! ### changes -/
/-- a change: at a place some go, others come -/
structure Ch where
  at_ : Int
  gone : List Int
  came : List Int
def Ch.inv (x : Ch) : Ch := ⟨x.at_, x.came, x.gone⟩
/-- three values that read as a change -/
structure ChV (W : World) (p : Int) (A : Option Addr) (n c : Nat) (B : Option Addr) (m d : Nat) (x : Ch) : Prop where
  hp : p = x.at_
  g : Sl W A n c x.gone
  k : Sl W B m d x.came
theorem ChV.below {W W' : World} {p : Int} {A B : Option Addr} {n c m d : Nat} {x : Ch} (h : ChV W p A n c B m d x) (hb : Below W.heap.size W W') : ChV W' p A n c B m d x := ⟨h.hp, h.g.below hb, h.k.below hb⟩
/-- does what goes stand there? -/
def fitsB (text : List Int) (x : Ch) : Bool := decide (0 ≤ x.at_ ∧ x.at_ + (x.gone.length : Int) ≤ (text.length : Int) ∧ (text.drop x.at_.toNat).take x.gone.length = x.gone)
end
theorem eq_lp (a b : List Int) (hl : a.length = b.length) (hb : a.length ≤ 1000000) : ∀ (d k i : Nat), a.length - i = d → i ≤ a.length → d < k → slices_Equal_rune_rune.l0 k a b (a.length : Int) (i : Int) = some (decide (a.drop i = b.drop i)) := by
  intro d
  induction d with
  | zero =>
    intro k i hd hi hk
    obtain ⟨k, rfl⟩ : ∃ m, k = m + 1 := ⟨k - 1, by omega⟩
    simp only [slices_Equal_rune_rune.l0]
    rw [if_neg (by omega), List.drop_eq_nil_of_le (by omega), List.drop_eq_nil_of_le (by omega)]
    simp
  | succ d ih =>
    intro k i hd hi hk
    obtain ⟨k, rfl⟩ : ∃ m, k = m + 1 := ⟨k - 1, by omega⟩
    have h1 : i < a.length := by omega
    have h2 : i < b.length := by omega
    simp only [slices_Equal_rune_rune.l0]
    rw [if_pos (by omega), if_pos (by omega), if_pos (by omega), if_pos (by omega), rd_get h1, rd_get h2, List.drop_eq_getElem_cons h1, List.drop_eq_getElem_cons h2, wrap_succ h1 hb]
    by_cases e : a[i] = b[i]
    · rw [if_pos e, ih k (i + 1) (by omega) (by omega) (by omega)]
      congr 2
      rw [e]
      have e2 := List.drop_eq_getElem_cons h2
      first | (simp only [List.cons.injEq, true_and]; done) | (rw [e2]; simp only [List.cons.injEq, true_and])
    · rw [if_neg e]
      congr 1
      have e1 := List.drop_eq_getElem_cons h1
      have e2 := List.drop_eq_getElem_cons h2
      simp only [decide_eq_false_iff_not, eq_comm (a := false)]
      intro h
      (try rw [e1, e2] at h)
      injection h with h3
      exact e h3
theorem eq_f (a b : List Int) (hb : a.length ≤ 1000000) : slices_Equal_rune_rune.f (a.length + 1) a b = some (decide (a = b)) := by
  unfold slices_Equal_rune_rune.f
  by_cases h : a.length = b.length
  · rw [if_pos (by omega), show (0 : Int) = ((0 : Nat) : Int) from rfl, eq_lp a b h hb a.length _ 0 (by omega) (by omega) (by omega), List.drop_zero, List.drop_zero]
  · rw [if_neg (by omega)]
    congr 1
    rw [decide_eq_false]
    exact fun e => h (by rw [e])
theorem fits_f (text : List Int) (x : Ch) (ht : text.length ≤ 1000000) (hg : x.gone.length ≤ 1000000) : edit_fits.f (text.length + 1) text x.at_ x.gone x.came = some (fitsB text x) := by
  unfold edit_fits.f fitsB
  by_cases h1 : x.at_ ≥ 0
  · rw [if_pos h1]
    by_cases h2 : x.at_ ≤ (text.length : Int)
    · rw [if_pos h2, show wrap64 ((text.length : Int) - x.at_) = (text.length : Int) - x.at_ from by unfold wrap64; omega]
      by_cases h3 : (x.gone.length : Int) ≤ (text.length : Int) - x.at_
      · rw [if_pos h3, if_pos h1, show wrap64 (x.at_ + (x.gone.length : Int)) = x.at_ + (x.gone.length : Int) from by unfold wrap64; omega, if_pos (by omega), if_pos (by omega)]
        obtain ⟨i, hi⟩ : ∃ i : Nat, x.at_ = (i : Int) := ⟨x.at_.toNat, by omega⟩
        rw [hi, show ((i : Int) + (x.gone.length : Int)).toNat = i + x.gone.length from by omega, Int.toNat_natCast]
        have hd : (text.take (i + x.gone.length)).drop i = (text.drop i).take x.gone.length := by
          rw [List.drop_take]
          congr 1
          omega
        rw [hd]
        have hl : ((text.drop i).take x.gone.length).length = x.gone.length := by simp; omega
        have hmono : ∀ k, ((text.drop i).take x.gone.length).length + 1 ≤ k → slices_Equal_rune_rune.f k ((text.drop i).take x.gone.length) x.gone = some (decide ((text.drop i).take x.gone.length = x.gone)) := by
          intro k hk
          induction hk with
          | refl => exact eq_f _ _ (by omega)
          | step _ ih => exact slices_Equal_rune_rune.mono _ _ _ _ ih
        rw [hmono _ (by omega)]
        simp only [Option.bind_some]
        congr 1
        by_cases e : (text.drop i).take x.gone.length = x.gone
        · rw [decide_eq_true e, decide_eq_true ⟨by omega, by omega, e⟩]
        · rw [decide_eq_false e, decide_eq_false (fun h => e h.2.2)]
      · rw [if_neg h3, decide_eq_false (by omega)]
    · rw [if_neg h2, decide_eq_false (by omega)]
  · rw [if_neg h1, decide_eq_false (by omega)]
theorem fits_calls {w : World} {A B D : Option Addr} {n c m d q r : Nat} {p : Int} {text : List Int} {x : Ch} (h : Sl w A n c text) (hx : ChV w p B m d D q r x) (hb : n ≤ 1000000) (hm : m ≤ 1000000) :
    Calls Tryd.prog 79 #[.slice A n c, .agg #[.int .i64 p, .slice B m d, .slice D q r]] w fun e w' => e = .returned (.bool (fitsB text x)) ∧ Below w.heap.size w w' := by
  have h1 := h.hn
  have h2 := hx.g.hn
  have h3 := hx.k.hn
  have h4 := hx.hp
  subst h1 h2 h3 h4
  exact edit_fits.calls _ A c text x.at_ B d x.gone D r x.came _ w h.hC h.hc hx.g.hC hx.g.hc hx.k.hC hx.k.hc (fits_f text x hb hm)

/-! ### spliced, done -/
/-- a text behind a change -/
def doneT (text : List Int) (x : Ch) : List Int := text.take x.at_.toNat ++ x.came ++ text.drop (x.at_.toNat + x.gone.length)
set_option maxRecDepth 100000 in
set_option maxHeartbeats 8000000 in
theorem spliced_calls {w : World} {A B : Option Addr} {n c m d i g : Nat} {text came : List Int} (h : Sl w A n c text) (hk : Sl w B m d came) (hi : i + g ≤ n) (hb : n ≤ 1000000) (hm : m ≤ 1000000) :
    Calls Tryd.prog 54 #[.slice A n c, .int .i64 (i : Int), .int .i64 (g : Int), .slice B m d] w (GivesSl (text.take i ++ came ++ text.drop (i + g)) w) := by
  obtain ⟨i0, hin, hz0, hz1, hz2⟩ := info_parts info21
  obtain ⟨k, hk1⟩ : ∃ k : Nat, (n : Int) - (g : Int) + (m : Int) = (k : Int) := ⟨n - g + m, by omega⟩
  have hk2 : k ≤ 2000000 := by omega
  obtain ⟨cur, hcur⟩ : ∃ cur, madeCells (Value.int .i32 0).cells (k * 1) = cur := ⟨_, rfl⟩
  have hcs : cur.size = k * 1 := by rw [← hcur, size_madeCells]
  have hmk : ∀ W : World, (Instr.makeSlice 31 (.int .i64 0) (.int .i64 (k : Int))).run Tryd.prog W = .ok (.slice (some ⟨W.heap.size, 0, none⟩) 0 k) (W.alloc (.cells cur 21)) := fun W => by
    have hr := run_make (P := Tryd.prog) W 31 21 i0 (.int .i32 0) Tryd.underlying31 hin hz0 .i64 .i64 0 (k : Int) (by omega) (by omega) (by rw [hz2]; omega) (by omega)
    rw [hz1, Int.toNat_natCast, hcur] at hr
    exact hr
  have hrow0 : (w.alloc (.cells cur 21)).ownsRow w.heap.size 21 1 (.slice (some ⟨w.heap.size, 0, none⟩) 0 k) 0 [] := World.ownsRow_made w cur k (Nat.le_refl _) (by simp [maxLen]; omega) hcs
  have hO0 : Kd.R (Kd.int .i32) 21 (w.alloc (.cells cur 21)) w.heap.size (fun _ => True) (.slice (some ⟨w.heap.size, 0, none⟩) 0 k) [] := Kd.R_of_own (enc := Value.int .i32) (xs := []) hrow0 (fun _ _ => trivial)
  have hb0 : Below w.heap.size w (w.alloc (.cells cur 21)) := (Below.refl _ w).alloc (Nat.le_refl _) _
  have hcut1 := fun W => run_to (A := A) (show i ≤ n by omega) h.hc W
  have hcut2 := fun W => run_from (A := A) (c := c) hi W
  obtain ⟨D', hD'⟩ : ∃ B, restA A c (i + g) = B := ⟨_, rfl⟩
  obtain ⟨n2, hn2⟩ : ∃ k, n - (i + g) = k := ⟨_, rfl⟩
  obtain ⟨c9, hc9⟩ : ∃ k, c - (i + g) = k := ⟨_, rfl⟩
  have T1 := Aside0.mk (C_take (by have := h.hC; rw [← h.hn] at this; exact this) (show i ≤ text.length by rw [h.hn]; omega))
  have T2 := Aside0.mk (C_drop (by have := h.hC; rw [← h.hn] at this; exact this) (by rw [h.hn]; exact h.hc) (show i + g ≤ text.length by rw [h.hn]; exact hi))
  rw [h.hn, hn2, hD'] at T2
  rw [hD', hn2, hc9] at hcut2
  have T3 := Aside0.mk hk.hC
  have E3 := Aside0.mk hk.hn
  have E1 := Aside0.mk (show (text.take i).length = i by have := h.hn; simp; omega)
  have E2 := Aside0.mk (show (text.drop (i + g)).length = n2 by have := h.hn; simp; omega)
  have HN2 := Aside0.mk hn2
  have HO0 := Aside0.mk hO0
  have HB0 := Aside0.mk hb0
  have hsum : IntKind.i64.wrap ((i : Int) + (g : Int)) = ((i + g : Nat) : Int) := by rw [wrap_small (by omega)]; omega
  have hib : (i : Int) ≤ 1000000 := by omega
  have hgb : (g : Int) ≤ 1000000 := by omega
  have hgn : (g : Int) ≤ (n : Int) := by omega
  have hnb : (n : Int) ≤ 1000000 := by omega
  have hmb : (m : Int) ≤ 1000000 := by omega
  obtain ⟨t, ht⟩ : ∃ t, i + g = t := ⟨_, rfl⟩
  have HT' := Aside0.mk ht
  have htb : (t : Int) ≤ (n : Int) := by omega
  rw [ht] at hcut2 hsum
  clear ht hD' hn2 hc9 hcur hrow0 hO0 hb0 h hk hcs hin hz0 hz1 hz2
  have IB := Aside0.mk hi
  clear hi
  go_enter Tryd.func54, Tryd.ntmps54
  go_wp2
  have hd : Below w.heap.size w ((w.alloc (.cells cur 21)).drew) := below_drew1 HB0.out
  have HOD := Aside0.mk (Kd.R_drew HO0.out)
  have HBD := Aside0.mk hd
  clear HO0 HB0 hd
  refine start_ (n := 14) (S := fun w' => True) (ds := []) #[false, false, false, false, false, false, false, false, false, false, false, false, false, false] (by kernel_rfl) rfl rfl trivial (fun hHeld => ?_)
  generalize (w.alloc (.cells cur 21)).drew = D at HOD HBD hHeld ⊢
  refine pure_ (i := 0) (N := some 18) (v := ?_) (a' := ?_) #[true, false, false, false, false, false, false, false, false, false, false, false, false, false] rfl rfl (by kernel_rfl) (fun _ _ _ h => h) (Or.inl ⟨by rfl, ?_⟩) ?_ ?_
  rotate_left
  · intro w'
    go_simp
    with_reducible rfl
  rotate_left
  · simp only [Act.put, List.setIfInBounds_toArray, List.set_cons_zero, List.set_cons_succ, i64_w, i32_w]
    rfl
  refine pure_ (i := 1) (N := some 19) (v := ?_) (a' := ?_) #[true, true, false, false, false, false, false, false, false, false, false, false, false, false] rfl rfl (by kernel_rfl) (fun _ _ _ h => h) (Or.inl ⟨by rfl, ?_⟩) ?_ ?_
  rotate_left
  · intro w'
    go_simp
    with_reducible rfl
  rotate_left
  · simp only [Act.put, List.setIfInBounds_toArray, List.set_cons_zero, List.set_cons_succ, i64_w, i32_w]
    rfl
  refine pure_ (i := 2) (N := some 20) (v := ?_) (a' := ?_) #[true, true, true, false, false, false, false, false, false, false, false, false, false, false] rfl rfl (by kernel_rfl) (fun _ _ _ h => h) (Or.inl ⟨by rfl, ?_⟩) ?_ ?_
  rotate_left
  · intro w'
    go_simp
    with_reducible rfl
  rotate_left
  · simp only [Act.put, List.setIfInBounds_toArray, List.set_cons_zero, List.set_cons_succ, i64_w, i32_w]
    rfl
  refine pure_ (i := 3) (N := some 21) (v := ?_) (a' := ?_) #[true, true, true, true, false, false, false, false, false, false, false, false, false, false] rfl rfl (by kernel_rfl) (fun _ _ _ h => h) (Or.inl ⟨by rfl, ?_⟩) ?_ ?_
  rotate_left
  · intro w'
    go_simp
    with_reducible rfl
  rotate_left
  · simp only [Act.put, List.setIfInBounds_toArray, List.set_cons_zero, List.set_cons_succ, i64_w, i32_w]
    rfl
  refine pure_ (i := 5) (N := some 23) (v := ?_) (a' := ?_) #[true, true, true, true, false, true, false, false, false, false, false, false, false, false] rfl rfl (by kernel_rfl) (fun _ _ _ h => h) (Or.inl ⟨by rfl, ?_⟩) ?_ ?_
  rotate_left
  · intro w'
    go_simp
    with_reducible rfl
  rotate_left
  · simp only [Act.put, List.setIfInBounds_toArray, List.set_cons_zero, List.set_cons_succ, i64_w, i32_w]
    rfl
  refine pure_ (i := 7) (N := some 25) (v := ?_) (a' := ?_) #[true, true, true, true, false, true, false, true, false, false, false, false, false, false] rfl rfl (by kernel_rfl) (fun _ _ _ h => h) (Or.inl ⟨by rfl, ?_⟩) ?_ ?_
  rotate_left
  · intro w'
    go_simp
    with_reducible rfl
  rotate_left
  · simp only [Act.put, List.setIfInBounds_toArray, List.set_cons_zero, List.set_cons_succ, i64_w, i32_w]
    rfl
  refine pure_ (i := 8) (N := some 26) (v := ?_) (a' := ?_) #[true, true, true, true, false, true, false, true, true, false, false, false, false, false] rfl rfl (by kernel_rfl) (fun _ _ _ h => h) (Or.inl ⟨by rfl, ?_⟩) ?_ ?_
  rotate_left
  · intro w'
    go_simp
    with_reducible rfl
  rotate_left
  · simp only [Act.put, List.setIfInBounds_toArray, List.set_cons_zero, List.set_cons_succ, i64_w, i32_w]
    rfl
  refine pure_ (i := 9) (N := some 27) (v := ?_) (a' := ?_) #[true, true, true, true, false, true, false, true, true, true, false, false, false, false] rfl rfl (by kernel_rfl) (fun _ _ _ h => h) (Or.inl ⟨by rfl, ?_⟩) ?_ ?_
  rotate_left
  · intro w'
    go_simp
    with_reducible rfl
  rotate_left
  · simp only [Act.put, List.setIfInBounds_toArray, List.set_cons_zero, List.set_cons_succ, i64_w, i32_w]
    rfl
  refine pure_ (i := 10) (N := some 28) (v := ?_) (a' := ?_) #[true, true, true, true, false, true, false, true, true, true, true, false, false, false] rfl rfl (by kernel_rfl) (fun _ _ _ h => h) (Or.inl ⟨by rfl, ?_⟩) ?_ ?_
  rotate_left
  · intro w'
    go_simp
    with_reducible rfl
  rotate_left
  · simp only [Act.put, List.setIfInBounds_toArray, List.set_cons_zero, List.set_cons_succ, i64_w, i32_w]
    rfl
  refine pure_ (i := 11) (N := some 29) (v := ?_) (a' := ?_) #[true, true, true, true, false, true, false, true, true, true, true, true, false, false] rfl rfl (by kernel_rfl) (fun _ _ _ h => h) (Or.inl ⟨by rfl, ?_⟩) ?_ ?_
  rotate_left
  · intro w'
    go_simp
    with_reducible rfl
  rotate_left
  · simp only [Act.put, List.setIfInBounds_toArray, List.set_cons_zero, List.set_cons_succ, i64_w, i32_w]
    rfl
  refine one_ (i := 4) (N := some 22) #[true, true, true, true, true, true, false, true, true, true, true, true, false, false] rfl rfl (by kernel_rfl) (by decide) (fun K hK => ?_)
  refine Kd.R_append_rows_step (Kd.int .i32) (w0 := w) w.heap.size (by rfl) (.tmp 18) (.tmp 21) 31 21 (.int .i32 0) 4 rfl Tryd.underlying31 info21 rfl (by decide) (by omega) (.slice (some ⟨w.heap.size, 0, none⟩) 0 k) ([]) (text.take i) _ _ _ (fun _ => True) (fun _ => False) rfl rfl HOD.out (Kd.C_below T1.out HBD.out) (fun _ _ h => h) (fun _ h => h.elim) (fun _ _ => trivial) HBD.out HBD.out.size (by simp; omega) ?_
  intro v1 w1 ho1 hb1 hg1 hn1
  have HO1 := Aside0.mk ho1
  have HB1 := Aside0.mk hb1
  clear hg1 hn1 ho1 hb1
  refine hK.out _ _ trivial (fun hHeld => ?_)
  clear hK K
  refine norm_ (a' := ?_) ?_ ?_
  rotate_left
  · show Act.put _ (some 22) _ = _
    simp only [Act.put, List.setIfInBounds_toArray, List.set_cons_zero, List.set_cons_succ, i64_w, i32_w]
    rfl
  refine one_ (i := 6) (N := some 24) #[true, true, true, true, true, true, true, true, true, true, true, true, false, false] rfl rfl (by kernel_rfl) (by decide) (fun K hK => ?_)
  refine Kd.R_append_rows_step (Kd.int .i32) (w0 := w) w.heap.size (by rfl) (.tmp 22) (.tmp 23) 31 21 (.int .i32 0) 4 rfl Tryd.underlying31 info21 rfl (by decide) (by omega) v1 ([] ++ text.take i) (came) _ _ _ (fun _ => True) (fun _ => False) rfl rfl HO1.out (Kd.C_below T3.out HB1.out) (fun _ _ h => h) (fun _ h => h.elim) (fun _ _ => trivial) HB1.out HB1.out.size (by have := E1.out; simp; omega) ?_
  intro v2 w2 ho2 hb2 hg2 hn2
  have HO2 := Aside0.mk ho2
  have HB2 := Aside0.mk hb2
  clear hg2 hn2 ho2 hb2
  refine hK.out _ _ trivial (fun hHeld => ?_)
  clear hK K
  refine norm_ (a' := ?_) ?_ ?_
  rotate_left
  · show Act.put _ (some 24) _ = _
    simp only [Act.put, List.setIfInBounds_toArray, List.set_cons_zero, List.set_cons_succ, i64_w, i32_w]
    rfl
  refine one_ (i := 12) (N := some 30) #[true, true, true, true, true, true, true, true, true, true, true, true, true, false] rfl rfl (by kernel_rfl) (by decide) (fun K hK => ?_)
  refine Kd.R_append_rows_step (Kd.int .i32) (w0 := w) w.heap.size (by rfl) (.tmp 24) (.tmp 29) 31 21 (.int .i32 0) 4 rfl Tryd.underlying31 info21 rfl (by decide) (by omega) v2 ([] ++ text.take i ++ came) (text.drop (i + g)) _ _ _ (fun _ => True) (fun _ => False) rfl rfl HO2.out (Kd.C_below T2.out HB2.out) (fun _ _ h => h) (fun _ h => h.elim) (fun _ _ => trivial) HB2.out HB2.out.size (by have := E1.out; have := E3.out; have := HN2.out; simp; omega) ?_
  intro v3 w3 ho3 hb3 hg3 hn3
  have HO3 := Aside0.mk ho3
  have HB3 := Aside0.mk hb3
  clear hg3 hn3 ho3 hb3
  refine hK.out _ _ trivial (fun hHeld => ?_)
  clear hK K
  refine norm_ (a' := ?_) ?_ ?_
  rotate_left
  · show Act.put _ (some 30) _ = _
    simp only [Act.put, List.setIfInBounds_toArray, List.set_cons_zero, List.set_cons_succ, i64_w, i32_w]
    rfl
  refine pure_ (i := 13) (N := some 8) (v := ?_) (a' := ?_) #[true, true, true, true, true, true, true, true, true, true, true, true, true, true] rfl rfl (by kernel_rfl) (fun _ _ _ h => h) (Or.inl ⟨by rfl, ?_⟩) ?_ ?_
  rotate_left
  · intro w'
    go_simp
    with_reducible rfl
  rotate_left
  · simp only [Act.put, List.setIfInBounds_toArray, List.set_cons_zero, List.set_cons_succ, i64_w, i32_w]
    rfl
  refine done_ (by kernel_rfl) ?_
  try go_wp2
  go_ret
  obtain ⟨A7, n7, c7, rfl, hS7⟩ := own_sl (l := text.take i ++ came ++ text.drop (i + g)) HO3.out
  exact ⟨A7, n7, c7, rfl, hS7, HB3.out⟩
set_option maxRecDepth 100000 in
set_option maxHeartbeats 4000000 in
theorem done_calls {w : World} {A B D : Option Addr} {n c m d q r : Nat} {p : Int} {text : List Int} {x : Ch} (h : Sl w A n c text) (hx : ChV w p B m d D q r x) (hf : fitsB text x = true) (hb : n ≤ 1000000) (hm : q ≤ 1000000) :
    Calls Tryd.prog 18 #[.slice A n c, .agg #[.int .i64 p, .slice B m d, .slice D q r]] w (GivesSl (doneT text x) w) := by
  unfold fitsB at hf
  have hf := of_decide_eq_true hf
  obtain ⟨f1, f2, f3⟩ := hf
  obtain ⟨i, hi⟩ : ∃ i : Nat, x.at_ = (i : Int) := ⟨x.at_.toNat, by omega⟩
  have hp := hx.hp
  rw [hi] at hp
  subst hp
  have hg := hx.g.hn
  have hn := h.hn
  have hda : doneT text x = text.take i ++ x.came ++ text.drop (i + m) := by unfold doneT; rw [hi, hg, Int.toNat_natCast]
  rw [hda]
  have CS := Aside0.mk (fun W (hW : Below w.heap.size w W) => spliced_calls (i := i) (g := m) (h.below hW) (hx.k.below hW) (by omega) hb hm)
  have hbd : Below w.heap.size w (w.alloc (Obj.cells #[Value.int .i64 (i : Int), Value.slice B m d, Value.slice D q r] 68)) := (Below.refl _ _).alloc (Nat.le_refl _) _
  have HB := Aside0.mk hbd
  clear hf f3 hda h hx hbd hg hn hi f1 f2
  go_enter Tryd.func18, Tryd.ntmps18
  go_wp2_with (go_at_call 54; (with_reducible refine (CS.out _ HB.out).mono ?_); rintro e w1 ⟨A1, n1, c1, rfl, hS, hb1⟩)
  go_ret
  exact ⟨A1, n1, c1, rfl, hS, below_step HB.out hb1⟩
/-! ### Inverse -/
theorem cell_far3 {W : World} {g h o : Nat} {a b c : Value} (hne : g ≠ h) : (((W.setCell ⟨h, 0, none⟩ a).setCell ⟨h, 1, none⟩ b).setCell ⟨h, 2, none⟩ c).cell? ⟨g, o, none⟩ = W.cell? ⟨g, o, none⟩ := by
  rw [World.cell?_setCell_other _ _ _ _ (by intro e; injection e with e1; exact hne (by first | exact e1 | exact e1.symm)), World.cell?_setCell_other _ _ _ _ (by intro e; injection e with e1; exact hne (by first | exact e1 | exact e1.symm)), World.cell?_setCell_other _ _ _ _ (by intro e; injection e with e1; exact hne (by first | exact e1 | exact e1.symm))]
theorem set3_get {W : World} {h : Nat} {a b c x0 x1 x2 : Value} (h0 : W.cell? ⟨h, 0, none⟩ = some x0) (h1 : W.cell? ⟨h, 1, none⟩ = some x1) (h2 : W.cell? ⟨h, 2, none⟩ = some x2) :
    (((W.setCell ⟨h, 0, none⟩ a).setCell ⟨h, 1, none⟩ b).setCell ⟨h, 2, none⟩ c).cell? ⟨h, 0, none⟩ = some a ∧ (((W.setCell ⟨h, 0, none⟩ a).setCell ⟨h, 1, none⟩ b).setCell ⟨h, 2, none⟩ c).cell? ⟨h, 1, none⟩ = some b ∧ (((W.setCell ⟨h, 0, none⟩ a).setCell ⟨h, 1, none⟩ b).setCell ⟨h, 2, none⟩ c).cell? ⟨h, 2, none⟩ = some c := by
  have k1 : (W.setCell ⟨h, 0, none⟩ a).cell? ⟨h, 1, none⟩ = some x1 := (cell_off (by decide)).trans h1
  have k2 : ((W.setCell ⟨h, 0, none⟩ a).setCell ⟨h, 1, none⟩ b).cell? ⟨h, 2, none⟩ = some x2 := (cell_off (by decide)).trans ((cell_off (by decide)).trans h2)
  refine ⟨(cell_off (by decide)).trans ((cell_off (by decide)).trans ?_), (cell_off (by decide)).trans ?_, ?_⟩
  · exact World.cell?_setCell_same _ _ _ h0
  · exact World.cell?_setCell_same _ _ _ k1
  · exact World.cell?_setCell_same _ _ _ k2
/-- no rune -/
def NoI (v : Value) : Prop := ∀ x, v ≠ .int .i32 x
theorem Sl.only {W W' : World} {g : Nat} {A : Option Addr} {n c : Nat} {l : List Int} (ho : ∀ (a : Addr) (v : Value), a.block = g → W.cell? a = some v → NoI v) (hk : ∀ k, k < W.heap.size → k ≠ g → W'.heap[k]? = W.heap[k]?) (h : Sl W A n c l) : Sl W' A n c l := by
  have hr := Kd.reads_of_C (d := (0 : Int)) h.hC
  refine ⟨?_, h.hn, h.hc, h.hm, h.ty.heap fun ad hn hA hlt => ?_⟩
  rotate_left
  · obtain ⟨ad', he, hc⟩ := hr.2.2 hn
    rw [hA] at he
    injection he with he
    subst he
    exact hk _ hlt (fun e => ho ad _ e (hc 0 hn) _ rfl)
  refine Kd.C_of_reads (d := (0 : Int)) (h1 := fun _ => rfl) ⟨hr.1, hr.2.1, fun hp => ?_⟩
  obtain ⟨ad, he, hc⟩ := hr.2.2 hp
  refine ⟨ad, he, fun j hj => ?_⟩
  have h1 := hc j hj
  have hlt := World.block_lt_of_cell? W _ h1
  have hne : (ad.add j).block ≠ g := fun e => ho _ _ e h1 _ rfl
  have hk' := hk _ hlt hne
  have : W'.cell? (ad.add j) = W.cell? (ad.add j) := by simp only [World.cell?, hk']
  rw [this]
  exact h1
theorem ChV.only {W W' : World} {g : Nat} {p : Int} {A B : Option Addr} {n c m d : Nat} {x : Ch} (ho : ∀ (a : Addr) (v : Value), a.block = g → W.cell? a = some v → NoI v) (hk : ∀ k, k < W.heap.size → k ≠ g → W'.heap[k]? = W.heap[k]?) (h : ChV W p A n c B m d x) : ChV W' p A n c B m d x := ⟨h.hp, h.g.only ho hk, h.k.only ho hk⟩
/-- a block of such cells holds no rune -/
theorem blk_noI {W : World} {g t : Nat} {cur : Array Value} (h : W.heap[g]? = some (.cells cur t (0, 0))) (hc : ∀ (i : Nat) (v : Value), cur[i]? = some v → NoI v) (a : Addr) (v : Value) (ha : a.block = g) (hv : W.cell? a = some v) : NoI v := by
  rw [World.cell?, ha, h] at hv
  simp only at hv
  split at hv
  · cases hv
  · exact hc _ _ hv
theorem noI_64 (x : Int) : NoI (.int .i64 x) := fun y h => by cases h
theorem noI_sl (A : Option Addr) (n c : Nat) : NoI (.slice A n c) := fun y h => by cases h
theorem noI_ch {p : Int} {A B : Option Addr} {n c m d : Nat} : ∀ (i : Nat) (v : Value), (#[Value.int .i64 p, .slice A n c, .slice B m d] : Array Value)[i]? = some v → NoI v := by
  intro i v h
  match i with
  | 0 => simp at h; subst h; exact noI_64 _
  | 1 => simp at h; subst h; exact noI_sl _ _ _
  | 2 => simp at h; subst h; exact noI_sl _ _ _
  | i + 3 => simp at h
theorem set3_far {W : World} {h k : Nat} {a b c : Value} (hk : k ≠ h) : (((W.setCell ⟨h, 0, none⟩ a).setCell ⟨h, 1, none⟩ b).setCell ⟨h, 2, none⟩ c).heap[k]? = W.heap[k]? :=
  (Below.heap_setCell _ ⟨h, 2, none⟩ _ k hk).trans ((Below.heap_setCell _ ⟨h, 1, none⟩ _ k hk).trans (Below.heap_setCell _ ⟨h, 0, none⟩ _ k hk))
theorem below_set3 {n h : Nat} {w W : World} {a b c : Value} (hle : n ≤ h) (hb : Below n w W) : Below n w (((W.setCell ⟨h, 0, none⟩ a).setCell ⟨h, 1, none⟩ b).setCell ⟨h, 2, none⟩ c) := ((hb.setCell (p := ⟨h, 0, none⟩) hle _).setCell (p := ⟨h, 1, none⟩) hle _).setCell (p := ⟨h, 2, none⟩) hle _
def GivesCh (x : Ch) (w : World) (e : Ending) (w' : World) : Prop := ∃ p A n c B m d, e = .returned (.agg #[.int .i64 p, .slice A n c, .slice B m d]) ∧ ChV w' p A n c B m d x ∧ Below w.heap.size w w'
set_option maxRecDepth 100000 in
set_option maxHeartbeats 4000000 in
theorem Inverse_calls {w : World} {B D : Option Addr} {m d q r : Nat} {p : Int} {x : Ch} (hx : ChV w p B m d D q r x) (hm : m ≤ 1000000) (hq : q ≤ 1000000) :
    Calls Tryd.prog 20 #[.agg #[.int .i64 p, .slice B m d, .slice D q r]] w (GivesCh x.inv w) := by
  have HX := Aside0.mk hx
  clear hx
  go_enter Tryd.func20, Tryd.ntmps20
  go_wp2
  obtain ⟨D1, hD1⟩ : ∃ D1, w.alloc (Obj.cells #[Value.int IntKind.i64 p, Value.slice B m d, Value.slice D q r] 68) = D1 := ⟨_, rfl⟩
  have m0 : D1.cell? ⟨w.heap.size, 0, none⟩ = some (.int .i64 p) := by rw [← hD1, new_cell]; rfl
  have m1 : D1.cell? ⟨w.heap.size, 1, none⟩ = some (.slice B m d) := by rw [← hD1, new_cell]; rfl
  have m2 : D1.cell? ⟨w.heap.size, 2, none⟩ = some (.slice D q r) := by rw [← hD1, new_cell]; rfl
  have hz1 : D1.heap.size = w.heap.size + 1 := by rw [← hD1]; simp
  have hb1 : Below w.heap.size w D1 := by rw [← hD1]; exact (Below.refl _ _).alloc (Nat.le_refl _) _
  rw [hD1]
  obtain ⟨D2, hD2⟩ : ∃ D2, D1.alloc (Obj.cells #[Value.int IntKind.i64 0, Value.slice none 0 0, Value.slice none 0 0] 68) = D2 := ⟨_, rfl⟩
  have hb2 : Below D1.heap.size D1 D2 := by rw [← hD2]; exact (Below.refl _ _).alloc (Nat.le_refl _) _
  have z0 : D2.heap[w.heap.size + 1]? = some (.cells #[Value.int IntKind.i64 0, Value.slice none 0 0, Value.slice none 0 0] 68 (0, 0)) := by rw [← hD2, ← hz1]; exact World.alloc_heap_new D1 _
  have hz2 : D2.heap.size = w.heap.size + 2 := by rw [← hD2, World.size_alloc, hz1]
  rw [hD2]
  replace m0 := (hb2.cell (p := ⟨w.heap.size, 0, none⟩) (by rw [hz1]; exact Nat.lt_succ_self _)).trans m0
  replace m1 := (hb2.cell (p := ⟨w.heap.size, 1, none⟩) (by rw [hz1]; exact Nat.lt_succ_self _)).trans m1
  replace m2 := (hb2.cell (p := ⟨w.heap.size, 2, none⟩) (by rw [hz1]; exact Nat.lt_succ_self _)).trans m2
  have X2 := Aside0.mk (HX.out.below (below_step hb1 hb2))
  have HBD := Aside0.mk (below_step hb1 hb2)
  have HGE := Aside0.mk (Nat.le_succ w.heap.size)
  clear hD1 hD2 hz1 hb1 hb2 HX
  have h1l : w.heap.size < D2.heap.size := by omega
  have h2l : w.heap.size + 1 < D2.heap.size := by omega
  have HNE := Aside0.mk (Nat.succ_ne_self w.heap.size)
  clear hz2
  obtain ⟨h, hh⟩ : ∃ h, w.heap.size + 1 = h := ⟨_, rfl⟩
  have hgh : w.heap.size ≤ h := by omega
  rw [hh] at z0 h2l ⊢
  have HZ := Aside0.mk z0
  have y0 : D2.cell? ⟨h, 0, none⟩ = some (.int .i64 0) := blk_cell z0
  have y1 : D2.cell? ⟨h, 1, none⟩ = some (.slice none 0 0) := blk_cell z0
  have y2 : D2.cell? ⟨h, 2, none⟩ = some (.slice none 0 0) := blk_cell z0
  have f0 : D2.frozen? ⟨h, 0, none⟩ = false := blk_frozen z0
  have f1 : D2.frozen? ⟨h, 1, none⟩ = false := blk_frozen z0
  have f2 : D2.frozen? ⟨h, 2, none⟩ = false := blk_frozen z0
  clear z0
  obtain ⟨g, hg⟩ : ∃ g, w.heap.size = g := ⟨_, rfl⟩
  have HG := Aside0.mk hg
  have hle : w.heap.size ≤ h := by omega
  have hgne : g ≠ h := by omega
  rw [hg] at m0 m1 m2 h1l hgh ⊢
  clear hg hh
  go_region_held3 (fun W' => W'.cell? ⟨g, 0, none⟩ = some (.int .i64 p) ∧ W'.cell? ⟨g, 1, none⟩ = some (.slice B m d) ∧ W'.cell? ⟨g, 2, none⟩ = some (.slice D q r) ∧ Below w.heap.size w W')
    (((try dsimp only); (repeat' apply And.intro); all_goals (first | assumption | exact HBD.out | exact below_drew1 HBD.out | exact (cell_far3 hgne).trans (by assumption) | exact below_set3 hle (by assumption) | exact Below.refl _ _ | exact below_drew1 (Below.refl _ _) | exact below_drew1 (pw_below_drewN (Below.refl _ _) _) | exact below_drew1 (by assumption) | exact below_step (by assumption) (by assumption) | go_keep)))
    (first
      | (go_at_call 55; (with_reducible refine (Clone_calls (X2.out.k.below (by (first | assumption | exact Below.refl _ _ | exact pw_below_drewN (Below.refl _ _) _ | exact below_drew1 (pw_below_drewN (Below.refl _ _) _) | exact below_drew1 (Below.refl _ _) | exact pw_below_drewN (by assumption) _ | exact below_drew1 (by assumption)))) hq).mono ?_); rintro e w3 ⟨A3, n3, c3, rfl, hS3, hb⟩; have bt3 := below_step (w := D2) (by (first | assumption | exact Below.refl _ _ | exact pw_below_drewN (Below.refl _ _) _ | exact below_drew1 (pw_below_drewN (Below.refl _ _) _) | exact below_drew1 (Below.refl _ _) | exact pw_below_drewN (by assumption) _ | exact below_drew1 (by assumption))) hb; have m0_3 := (bt3.cell (p := ⟨g, 0, none⟩) h1l).trans m0; have m1_3 := (bt3.cell (p := ⟨g, 1, none⟩) h1l).trans m1; have m2_3 := (bt3.cell (p := ⟨g, 2, none⟩) h1l).trans m2; have y0_3 := (bt3.cell (p := ⟨h, 0, none⟩) h2l).trans y0; have y1_3 := (bt3.cell (p := ⟨h, 1, none⟩) h2l).trans y1; have y2_3 := (bt3.cell (p := ⟨h, 2, none⟩) h2l).trans y2; have f0_3 := (bt3.frozen (p := ⟨h, 0, none⟩) h2l).trans f0; have f1_3 := (bt3.frozen (p := ⟨h, 1, none⟩) h2l).trans f1; have f2_3 := (bt3.frozen (p := ⟨h, 2, none⟩) h2l).trans f2; have bw3 := below_step HBD.out bt3; have S3 := Aside0.mk hS3; clear hS3 hb)
      | (go_at_call 55; (with_reducible refine (Clone_calls (X2.out.g.below (by (first | assumption | exact Below.refl _ _ | exact pw_below_drewN (Below.refl _ _) _ | exact below_drew1 (pw_below_drewN (Below.refl _ _) _) | exact below_drew1 (Below.refl _ _) | exact pw_below_drewN (by assumption) _ | exact below_drew1 (by assumption)))) hm).mono ?_); rintro e w4 ⟨A4, n4, c4, rfl, hS4, hb⟩; have bt4 := below_step (w := D2) (by (first | assumption | exact Below.refl _ _ | exact pw_below_drewN (Below.refl _ _) _ | exact below_drew1 (pw_below_drewN (Below.refl _ _) _) | exact below_drew1 (Below.refl _ _) | exact pw_below_drewN (by assumption) _ | exact below_drew1 (by assumption))) hb; have m0_4 := (bt4.cell (p := ⟨g, 0, none⟩) h1l).trans m0; have m1_4 := (bt4.cell (p := ⟨g, 1, none⟩) h1l).trans m1; have m2_4 := (bt4.cell (p := ⟨g, 2, none⟩) h1l).trans m2; have y0_4 := (bt4.cell (p := ⟨h, 0, none⟩) h2l).trans y0; have y1_4 := (bt4.cell (p := ⟨h, 1, none⟩) h2l).trans y1; have y2_4 := (bt4.cell (p := ⟨h, 2, none⟩) h2l).trans y2; have f0_4 := (bt4.frozen (p := ⟨h, 0, none⟩) h2l).trans f0; have f1_4 := (bt4.frozen (p := ⟨h, 1, none⟩) h2l).trans f1; have f2_4 := (bt4.frozen (p := ⟨h, 2, none⟩) h2l).trans f2; have bw4 := below_step HBD.out bt4; have S4 := Aside0.mk hS4; have S34 := Aside0.mk (S3.out.below hb); clear hS4 hb))
  have hno := blk_noI ((bt4.block _ h2l).trans HZ.out) noI_ch
  obtain ⟨c0, c1, c2⟩ := set3_get (a := Value.int .i64 p) (b := Value.slice A3 n3 c3) (c := Value.slice A4 n4 c4) y0_4 y1_4 y2_4
  have hb5 := below_set3 (a := Value.int .i64 p) (b := Value.slice A3 n3 c3) (c := Value.slice A4 n4 c4) hle bw4
  have S5 := S34.out.only hno (fun k _ hk => set3_far (a := Value.int .i64 p) (b := Value.slice A3 n3 c3) (c := Value.slice A4 n4 c4) hk)
  have S6 := S4.out.only hno (fun k _ hk => set3_far (a := Value.int .i64 p) (b := Value.slice A3 n3 c3) (c := Value.slice A4 n4 c4) hk)
  generalize ((w4.setCell ⟨h, 0, none⟩ (Value.int .i64 p)).setCell ⟨h, 1, none⟩ (Value.slice A3 n3 c3)).setCell ⟨h, 2, none⟩ (Value.slice A4 n4 c4) = W5 at c0 c1 c2 hb5 S5 S6 ⊢
  go_wp2
  refine bodyPost_ret (v := .agg #[.int .i64 p, .slice A3 n3 c3, .slice A4 n4 c4]) (by simp [results, Tryd.results20, go_sem, c0, c1, c2]) rfl ?_
  exact ⟨p, A3, n3, c3, A4, n4, c4, rfl, ⟨X2.out.hp, S5, S6⟩, hb5⟩
end Go.Proofs.YtenjldfflkinkaaDoor.Rop

namespace Go.Proofs.YtenjldfflkinkaaDoor.Rop
set_option linter.unusedVariables false
set_option linter.unusedSimpArgs false
open Go.RowKit Go.Shelf Go.Proofs.YtenjldfflkinkaaDoor.F Go.Proofs.YtenjldfflkinkaaDoorW.PrintWords Go.Proofs.YtenjldfflkinkaaDoorW.PrintLast Go.Proofs.YtenjldfflkinkaaDoorW.PrintMore
set_option linter.unusedSectionVars false
variable [Coe Unit Nat]
attribute [local go_sem] Oper.semAt_some
/-- the three values of a change -/
structure CV where
  p : Int
  A : Option Addr
  n : Nat
  c : Nat
  B : Option Addr
  m : Nat
  d : Nat
def CV.val (v : CV) : Value := .agg #[.int .i64 v.p, .slice v.A v.n v.c, .slice v.B v.m v.d]
/-- change i of a row: its three cells, read -/
structure ChAt (W : World) (ad : Addr) (i : Nat) (v : CV) (x : Ch) : Prop where
  c0 : W.cell? (ad.add (i * 3)) = some (.int .i64 v.p)
  c1 : W.cell? ⟨(ad.add (i * 3)).block, (ad.add (i * 3)).off + 1, none⟩ = some (.slice v.A v.n v.c)
  c2 : W.cell? ⟨(ad.add (i * 3)).block, (ad.add (i * 3)).off + 2, none⟩ = some (.slice v.B v.m v.d)
  h : ChV W v.p v.A v.n v.c v.B v.m v.d x
theorem ChAt.below {W W' : World} {ad : Addr} {i : Nat} {v : CV} {x : Ch} (h : ChAt W ad i v x) (hb : Below W.heap.size W W') : ChAt W' ad i v x :=
  ⟨(hb.cell (p := ad.add (i * 3)) (World.block_lt_of_cell? W _ h.c0)).trans h.c0, (hb.cell (p := ⟨(ad.add (i * 3)).block, (ad.add (i * 3)).off + 1, none⟩) (World.block_lt_of_cell? W _ h.c1)).trans h.c1, (hb.cell (p := ⟨(ad.add (i * 3)).block, (ad.add (i * 3)).off + 2, none⟩) (World.block_lt_of_cell? W _ h.c2)).trans h.c2, h.h.below hb⟩
/-- a slice of changes that reads as this list -/
structure Rc (W : World) (A : Option Addr) (n c : Nat) (vs : Nat → CV) (xs : Nat → Ch) : Prop where
  at_ : ∀ i, i < n → ∃ ad, A = some ad ∧ ChAt W ad i (vs i) (xs i)
  hc : n ≤ c
  hm : c ≤ 9223372036854775807
  h0 : A = none → c = 0
  ty : Tyd W 68 A n
theorem Rc.below {W W' : World} {A : Option Addr} {n c : Nat} {vs : Nat → CV} {xs : Nat → Ch} (h : Rc W A n c vs xs) (hb : Below W.heap.size W W') : Rc W' A n c vs xs :=
  ⟨fun i hi => by obtain ⟨ad, h1, h2⟩ := h.at_ i hi; exact ⟨ad, h1, h2.below hb⟩, h.hc, h.hm, h.h0, h.ty.below hb⟩
/-- the places from one downwards -/
def dn {n : Nat} : (k : Nat) → k ≤ n → List (Fin n)
  | 0, _ => []
  | k + 1, h => ⟨k, h⟩ :: dn k (Nat.le_of_succ_le h)
theorem dn_len {n : Nat} : ∀ (k : Nat) (h : k ≤ n), (dn k h).length = k
  | 0, _ => rfl
  | k + 1, h => by simp [dn, dn_len k]
def encC {n : Nat} (vs : Nat → CV) (j : Fin n) : Array Value := #[.int .i64 (j.1 : Int), (vs j.1).val]
/-- The caller's blocks, and one box. -/
def InB (m Bs : Nat) (k : Nat) : Prop := k < m ∨ k = Bs
set_option maxRecDepth 100000 in
set_option maxHeartbeats 2000000 in
theorem back1_in (n : Nat) (lp Bs len c : Nat) (A : Option Addr) (vs : Nat → CV) (xs : Nat → Ch) (w0 W : World) (hR : Rc w0 A len c vs xs) (hlen : len ≤ 1000000) (J Jx : List (Fin len) → World → Prop)
    (hY : ∀ pre x W1, J pre W1 → pre.length < len → YieldAt Fence.wide (n - 1) Tryd.prog lp (encC vs x) W1 fun e W' =>
      (e = .returned (.bool true) ∧ J (pre ++ [x]) W' ∧ KeepS (InB w0.heap.size Bs) W1 W') ∨ (e = .returned (.bool false) ∧ Jx (pre ++ [x]) W'))
    (hK : Below w0.heap.size w0 W) (hBs : W.cell? ⟨Bs, 0, none⟩ = some (.slice A len c)) (h0 : J [] W) :
    CallsIn Fence.wide n Tryd.prog 88 #[.func (.yield lp) #[] #[], .pointer (some ⟨Bs, 0, none⟩)] W fun e W' => (∃ v, e = .returned v) ∧
      ((∃ ys, ys = dn len (Nat.le_refl _) ∧ J ys W') ∨ (∃ pre, pre <+: dn len (Nat.le_refl _) ∧ Jx pre W')) := by
  have HR := Aside0.mk hR
  have HK := Aside0.mk hK
  have HY := Aside0.mk hY
  have HB := Aside0.mk hBs
  have hl0 : (len : Int) ≤ 1000000 := by omega
  clear hR hK hY
  refine callsIn_of_wp Tryd.func88 rfl trivial ?_ rfl
  simp only [Tryd.ntmps88, List.size_toArray, List.length_cons, List.length_nil, Nat.reduceAdd, Nat.reduceSub, Array.replicate_succ, Array.replicate_zero, List.push_toArray, List.append_toArray, List.nil_append, List.cons_append]
  gi_wp2
  gi_loopw [3] (fun v3 wr => ∃ (k : Nat) (hk : k ≤ len) (pre : List (Fin len)), v3 = .int .i64 ((k : Int) - 1) ∧ Aside0 (pre ++ dn k hk = dn len (Nat.le_refl _)) ∧ J pre wr ∧ Aside0 (KeepS (InB w0.heap.size Bs) W wr))
    (fun v3 _ => (intOf v3 + 1).toNat)
  case atStart => exact ⟨len, Nat.le_refl _, [], rfl, ⟨rfl⟩, h0, ⟨KeepS.refl _ _⟩⟩
  case round =>
    obtain ⟨k, hk, pre, rfl, HP, hJp, HKr⟩ := hrel
    have hcb : wr.cell? ⟨Bs, 0, none⟩ = some (.slice A len c) := (HKr.out.cell (.inr rfl)).trans HB.out
    cases k with
    | zero =>
      have d0 : decide ((0 : Int) ≤ ((0 : Nat) : Int) - 1) = false := by decide
      gi_wp2
      go_end0
      refine ⟨⟨_, rfl⟩, .inl ⟨pre, ?_, hJp⟩⟩
      have := HP.out
      simpa [dn] using this
    | succ k =>
      have e1 : ((k + 1 : Nat) : Int) - 1 = (k : Int) := by omega
      have d0 : decide ((0 : Int) ≤ (k : Int)) = true := decide_eq_true (by omega)
      have hkl : (k : Int) < (len : Int) := by omega
      have hk0 : (0 : Int) ≤ (k : Int) := by omega
      obtain ⟨ad, rfl, hch⟩ := HR.out.at_ k (by omega)
      have hS : ∀ a : Addr, a.block < w0.heap.size → wr.cell? a = w0.cell? a := fun a ha => by
        have h1 := HKr.out a.block (.inl ha)
        have h2 := HK.out.block a.block ha
        simp only [World.cell?, h1.trans h2]
      have c0 := (hS _ (World.block_lt_of_cell? w0 _ hch.c0)).trans hch.c0
      have c1 := (hS ⟨_, _, none⟩ (World.block_lt_of_cell? w0 _ hch.c1)).trans hch.c1
      have c2 := (hS ⟨_, _, none⟩ (World.block_lt_of_cell? w0 _ hch.c2)).trans hch.c2
      have hplen : pre.length < len := by
        have := congrArg List.length HP.out
        simp [dn_len] at this
        omega
      obtain ⟨fn, tmps, assign, body, hy, hR⟩ := HY.out pre ⟨k, by omega⟩ wr hJp hplen
      have hnx : pre ++ [(⟨k, by omega⟩ : Fin len)] ++ dn k (by omega) = dn len (Nat.le_refl _) := by
        have := HP.out
        simp only [dn] at this
        rw [List.append_assoc]
        exact this
      have HNX := Aside0.mk hnx
      simp only [encC, CV.val] at hy
      rw [e1]
      clear hS hch hnx HP
      gi_wp2
      refine ⟨hdd_ _, ?_⟩
      refine hR.mono ?_
      rintro e W3 (⟨rfl, hJ3, hk3⟩ | ⟨rfl, hJx3⟩)
      · gi_wp2
        go_roundw
        case rel => exact ⟨k, by omega, _, by first | rfl | go_num, HNX, hJ3, ⟨HKr.out.trans hk3⟩⟩
        case measure => simp [intOf] <;> omega
      · gi_wp2
        refine bodyPost_ret (results_none rfl _ _ _) rfl ?_
        exact ⟨⟨_, rfl⟩, .inr ⟨_, ⟨_, HNX.out⟩, hJx3⟩⟩
theorem Back_in (n : Nat) (A : Option Addr) (len c : Nat) (w : World) :
    CallsIn Fence.wide n Tryd.prog 78 #[.slice A len c] w fun e w' => e = .returned (.func (.func 88) #[] #[.pointer (some ⟨w.heap.size, 0, none⟩)]) ∧ w' = w.alloc (.cells #[.slice A len c] 32) := by
  refine callsIn_of_wp Tryd.func78 rfl trivial ?_ rfl
  simp only [Tryd.ntmps78, List.size_toArray, List.length_cons, List.length_nil, Nat.reduceAdd, Nat.reduceSub, Array.replicate_succ, Array.replicate_zero, List.push_toArray, List.append_toArray, List.nil_append, List.cons_append]
  gi_wp2
  go_ret
  exact ⟨rfl, rfl⟩
theorem Back_stops (n : Nat) (Bs len c : Nat) (A : Option Addr) (vs : Nat → CV) (xs : Nat → Ch) (w0 w : World) (hR : Rc w0 A len c vs xs) (hlen : len ≤ 1000000) (hB : Below w0.heap.size w0 w) (hBs : w.cell? ⟨Bs, 0, none⟩ = some (.slice A len c)) :
    SeqStopsK Fence.wide n Tryd.prog 88 #[.pointer (some ⟨Bs, 0, none⟩)] (encC (n := len) vs) (KeepS (InB w0.heap.size Bs)) (fun ys => ys = dn len (Nat.le_refl _))
      (fun pre => pre <+: dn len (Nat.le_refl _)) len w := fun l J Jx W hW hJ _ hY h0 =>
  back1_in n l Bs len c A vs xs w0 W hR hlen J Jx hY (hB.trans (hW.mono hB.size)) ((hW.cell (p := ⟨Bs, 0, none⟩) (World.block_lt_of_cell? w _ hBs)).trans hBs) h0
end Go.Proofs.YtenjldfflkinkaaDoor.Rop

namespace Go.Proofs.YtenjldfflkinkaaDoor.Rop
set_option linter.unusedVariables false
set_option linter.unusedSimpArgs false
open Go.RowKit Go.Shelf Go.Proofs.YtenjldfflkinkaaDoor.F Go.Proofs.YtenjldfflkinkaaDoorW.PrintWords Go.Proofs.YtenjldfflkinkaaDoorW.PrintLast Go.Proofs.YtenjldfflkinkaaDoorW.PrintMore
set_option linter.unusedSectionVars false
variable [Coe Unit Nat]
attribute [local go_sem] Oper.semAt_some
/-- a change, or what goes back -/
def Ch.way (back : Bool) (x : Ch) : Ch := if back = true then x.inv else x
/-- a text behind a change that may be done -/
def stepT (back : Bool) (t : List Int) (x : Ch) : Option (List Int) :=
  if fitsB t (x.way back) = true ∧ (x.way back).gone.all scl = true ∧ (x.way back).came.all scl = true ∧ (doneT t (x.way back)).length ≤ 4096 then some (doneT t (x.way back)) else none
def goesT (back : Bool) : List Int → List Ch → Option (List Int)
  | t, [] => some t
  | t, x :: xs => (stepT back t x).bind fun t' => goesT back t' xs
theorem goesT_snoc (back : Bool) : ∀ (t : List Int) (xs : List Ch) (x : Ch), goesT back t (xs ++ [x]) = (goesT back t xs).bind fun t' => stepT back t' x
  | t, [], x => by simp only [List.nil_append, goesT, Option.bind_some]; cases stepT back t x <;> rfl
  | t, y :: xs, x => by
    simp only [List.cons_append, goesT]
    cases stepT back t y with
    | none => rfl
    | some t' => simp only [Option.bind_some]; exact goesT_snoc back t' xs x
theorem goesT_prefix {back : Bool} {t : List Int} {pre all : List Ch} (h : pre <+: all) (hn : goesT back t pre = none) : goesT back t all = none := by
  obtain ⟨r, rfl⟩ := h
  induction r generalizing pre with
  | nil => rw [List.append_nil]; exact hn
  | cons x r ih =>
    have := ih (pre := pre ++ [x]) (by rw [goesT_snoc, hn]; rfl)
    rw [List.append_assoc] at this
    exact this
theorem Sl.cells {W W' : World} {A : Option Addr} {n c : Nat} {l : List Int} (hk : ∀ (a : Addr) (v : Value), W.cell? a = some v → W'.cell? a = some v) (ht : ∀ (g : Nat) (cs : Array Value), W.heap[g]? = some (.cells cs 21 (0, 0)) → W'.heap[g]? = some (.cells cs 21 (0, 0))) (h : Sl W A n c l) : Sl W' A n c l := by
  refine ⟨?_, h.hn, h.hc, h.hm, fun hn ad hA hb => by obtain ⟨cs, hc⟩ := h.ty hn ad hA hb; exact ⟨cs, ht _ _ hc⟩⟩
  have hr := Kd.reads_of_C (d := (0 : Int)) h.hC
  refine Kd.C_of_reads (d := (0 : Int)) (h1 := fun _ => rfl) ⟨hr.1, hr.2.1, fun hp => ?_⟩
  obtain ⟨ad, he, hc⟩ := hr.2.2 hp
  exact ⟨ad, he, fun j hj => hk _ _ (hc j hj)⟩
theorem cell_grown {B : Nat} {W W' : World} {row : Option Nat} (hg : W.grownBy W' row) (hr : ∀ r, row = some r → B ≤ r ∧ ∃ o : Obj, W.heap[r]? = some o ∧ o.isCells = false) (a : Addr) (v : Value) (h : W.cell? a = some v) : W'.cell? a = some v := by
  have hl := World.block_lt_of_cell? W _ h
  have hne : some a.block ≠ row := fun e => by
    obtain ⟨_, o, ho, hc⟩ := hr a.block e.symm
    rw [World.cell?, ho] at h
    cases o <;> simp_all [Obj.isCells]
  have := hg.block a.block hl hne
  simp only [World.cell?, this]
  exact h
theorem blk_grown {B : Nat} {W W' : World} {row : Option Nat} (hg : W.grownBy W' row) (hr : ∀ r, row = some r → B ≤ r ∧ ∃ o : Obj, W.heap[r]? = some o ∧ o.isCells = false) {g t : Nat} {cur : Array Value} {z : Nat × Nat} (h : W.heap[g]? = some (.cells cur t z)) : W'.heap[g]? = some (.cells cur t z) := by
  have hne : some g ≠ row := fun e => by
    obtain ⟨_, o, ho, hc⟩ := hr g e.symm
    rw [h] at ho
    injection ho with ho
    subst ho
    simp [Obj.isCells] at hc
  exact (hg.block g (Array.getElem?_eq_some_iff.1 h).1 hne).trans h
theorem fits_q {w : World} {A B D : Option Addr} {n c m d q r : Nat} {p : Int} {text : List Int} {x : Ch} {b : Bool} (h : Sl w A n c text) (hx : ChV w p B m d D q r x) (hq : fitsB text x = b) (hb : n ≤ 1000000) (hm : m ≤ 1000000) :
    Calls Tryd.prog 79 #[.slice A n c, .agg #[.int .i64 p, .slice B m d, .slice D q r]] w fun e w' => e = .returned (.bool b) ∧ Below w.heap.size w w' := by
  rw [← hq]
  exact fits_calls h hx hb hm
theorem scalars_q {w : World} {A : Option Addr} {n c : Nat} {l : List Int} {b : Bool} (h : Sl w A n c l) (hq : l.all scl = b) (hb : n ≤ 1000000) : Calls Tryd.prog 56 #[.slice A n c] w fun e w' => e = .returned (.bool b) ∧ w = w' := by
  rw [← hq]
  exact scalars_calls h hb
/-- what stands between two rounds of goes -/
def GoI {len : Nat} (w W0 : World) (g3 g5 g6 : Nat) (back : Bool) (text : List Int) (xs : Nat → Ch) (pre : List (Fin len)) (W : World) : Prop :=
  (∃ A n c tc, goesT back text (pre.map fun j => xs j.1) = some tc ∧ Boxed W g3 31 (.slice A n c) ∧ Sl W A n c tc ∧ n ≤ 4096) ∧ Boxed W g5 4 (.bool back) ∧ Boxed W g6 4 (.bool false) ∧ W0.heap.size ≤ W.heap.size ∧ Below w.heap.size w W
def GoX {len : Nat} (w : World) (g6 : Nat) (back : Bool) (text : List Int) (xs : Nat → Ch) (cd : Code) (pre : List (Fin len)) (W : World) : Prop :=
  cd = .ret ∧ goesT back text (pre.map fun j => xs j.1) = none ∧ Boxed W g6 4 (.bool false) ∧ Below w.heap.size w W
theorem GoI.own {len : Nat} {w W0 : World} {g3 g5 g6 : Nat} {back : Bool} {text : List Int} {xs : Nat → Ch} {B : Nat} (hB : w.heap.size ≤ B) : OwnFrom B (GoI (len := len) w W0 g3 g5 g6 back text xs) := by
  rintro pre W W' row ⟨⟨A, n, c, tc, h1, h2, h3, h4⟩, h5, h6, h7, h8⟩ hg hr
  exact ⟨⟨A, n, c, tc, h1, blk_grown hg hr h2, h3.cells (cell_grown hg hr) (fun _ _ h => blk_grown hg hr h), h4⟩, blk_grown hg hr h5, blk_grown hg hr h6, Nat.le_trans h7 hg.size, ownFrom_below (β := Unit) (Nat.le_refl _) hB () W W' row h8 hg hr⟩
theorem GoX.own {len : Nat} {w : World} {g6 : Nat} {back : Bool} {text : List Int} {xs : Nat → Ch} {B : Nat} (hB : w.heap.size ≤ B) (cd : Code) : OwnFrom B (GoX (len := len) w g6 back text xs cd) := by
  rintro pre W W' row ⟨h1, h2, h3, h4⟩ hg hr
  exact ⟨h1, h2, blk_grown hg hr h3, ownFrom_below (β := Unit) (Nat.le_refl _) hB () W W' row h4 hg hr⟩
/-- the change of a round, in its box -/
def Box8 (g8 : Nat) (p : Int) (A : Option Addr) (n c : Nat) (B : Option Addr) (m d : Nat) (W : World) : Prop := W.heap[g8]? = some (.cells #[.int .i64 p, .slice A n c, .slice B m d] 68 (0, 0))
theorem noI_slv (A : Option Addr) (n c : Nat) : ∀ (i : Nat) (v : Value), (#[Value.slice A n c] : Array Value)[i]? = some v → NoI v := by
  intro i v h
  match i with
  | 0 => simp at h; subst h; exact noI_sl _ _ _
  | i + 1 => simp at h
theorem set3_blk {W : World} {h t : Nat} {x0 x1 x2 a b c : Value} (hh : W.heap[h]? = some (.cells #[x0, x1, x2] t (0, 0))) : (((W.setCell ⟨h, 0, none⟩ a).setCell ⟨h, 1, none⟩ b).setCell ⟨h, 2, none⟩ c).heap[h]? = some (.cells #[a, b, c] t (0, 0)) := by
  have h1 := blk_set hh 0 a
  have h2 := blk_set h1 1 b
  have h3 := blk_set h2 2 c
  exact h3
theorem KeepsOthers.below {n : Nat} {W W' : World} (h : Below W.heap.size W W') : KeepsOthers W W' := ⟨h.size, fun k o hk _ => (h.block k (Array.getElem?_eq_some_iff.1 hk).1).trans hk⟩
theorem ownFrom_alloc {β : Type} {B : Nat} {I : β → World → Prop} (h : OwnFrom B I) {s : β} {W : World} (hs : I s W) (o : Obj) : I s (W.alloc o) := h s W _ none hs (World.grownBy_alloc W o none) (fun r e => by cases e)
set_option maxRecDepth 100000 in
set_option maxHeartbeats 8000000 in
theorem goes_calls {w : World} {A A1 : Option Addr} {n c n1 c1 : Nat} {text : List Int} {vs : Nat → CV} {xs : Nat → Ch} {back : Bool} (h : Sl w A n c text) (hR : Rc w A1 n1 c1 vs xs) (hn : n ≤ 4096) (hn1 : n1 ≤ 1000) (hv : ∀ i, i < n1 → (vs i).n ≤ 5000 ∧ (vs i).m ≤ 5000) :
    Calls Tryd.prog 57 #[.slice A n c, .slice A1 n1 c1, .bool back] w fun e w' => e = .returned (.bool (goesT back text ((dn n1 (Nat.le_refl n1)).map fun j => xs j.1)).isSome) ∧ Below w.heap.size w w' := by
  have H := Aside0.mk h
  have HR := Aside0.mk hR
  have HV := Aside0.mk hv
  clear h hR hv
  refine (callsIn_wide (n := 5)).1 ?_
  refine callsIn_of_wp_marks Tryd.func57 rfl trivial ?_ rfl
  simp only [Tryd.ntmps57, List.size_toArray, List.length_cons, List.length_nil, Nat.reduceAdd, Nat.reduceSub, Array.replicate_succ, Array.replicate_zero, List.push_toArray, List.append_toArray, List.nil_append, List.cons_append]
  gi_wp2_with ((try refine ⟨trivial, ?_⟩); gi_at_call 78; refine (Back_in _ _ _ _ _).mono ?_; rintro e w' ⟨rfl, rfl⟩)
  obtain ⟨W0, hW0⟩ : ∃ W0, ((((w.alloc (Obj.cells #[Value.slice A n c] 31)).alloc (Obj.cells #[Value.bool back] 4)).alloc (Obj.cells #[Value.bool false] 4)).alloc (Obj.cells #[Value.slice A1 n1 c1] 32)) = W0 := ⟨_, rfl⟩
  have X3 : Boxed W0 w.heap.size 31 (.slice A n c) := by rw [← hW0]; exact (((Boxed.new w _ _).alloc _).alloc _).alloc _
  have X5 : Boxed W0 (w.heap.size + 1) 4 (.bool back) := by
    have := Boxed.new (w.alloc (Obj.cells #[Value.slice A n c] 31)) 4 (.bool back)
    rw [World.size_alloc] at this
    rw [← hW0]; exact (this.alloc _).alloc _
  have X6 : Boxed W0 (w.heap.size + 1 + 1) 4 (.bool false) := by
    have := Boxed.new ((w.alloc (Obj.cells #[Value.slice A n c] 31)).alloc (Obj.cells #[Value.bool back] 4)) 4 (.bool false)
    rw [World.size_alloc, World.size_alloc] at this
    rw [← hW0]; exact this.alloc _
  have Xs : Boxed W0 (w.heap.size + 1 + 1 + 1) 32 (.slice A1 n1 c1) := by
    have := Boxed.new (((w.alloc (Obj.cells #[Value.slice A n c] 31)).alloc (Obj.cells #[Value.bool back] 4)).alloc (Obj.cells #[Value.bool false] 4)) 32 (.slice A1 n1 c1)
    rw [World.size_alloc, World.size_alloc, World.size_alloc] at this
    rw [← hW0]; exact this
  have hB0 : Below w.heap.size w W0 := by rw [← hW0]; exact below_alloc (below_alloc (below_alloc ((Below.refl _ _).alloc (Nat.le_refl _) _) _) _) _
  rw [hW0]
  clear hW0
  obtain ⟨gs, hgs⟩ : ∃ g, w.heap.size + 1 + 1 + 1 = g := ⟨_, rfl⟩
  obtain ⟨g6, hg6⟩ : ∃ g, w.heap.size + 1 + 1 = g := ⟨_, rfl⟩
  obtain ⟨g5, hg5⟩ : ∃ g, w.heap.size + 1 = g := ⟨_, rfl⟩
  obtain ⟨g3, hg3⟩ : ∃ g, w.heap.size = g := ⟨_, rfl⟩
  rw [hgs] at Xs ⊢
  rw [hg6] at X6 ⊢
  rw [hg5] at X5 ⊢
  rw [hg3] at X3
  rw [show Value.pointer (some ⟨w.heap.size, 0, none⟩) = Value.pointer (some ⟨g3, 0, none⟩) from by rw [hg3]]
  have HG := Aside0.mk (show g3 = w.heap.size ∧ g5 = w.heap.size + 1 ∧ g6 = w.heap.size + 2 ∧ gs = w.heap.size + 3 from ⟨by omega, by omega, by omega, by omega⟩)
  have hgl : gs < W0.heap.size := Xs.lt
  have HGL := Aside0.mk hgl
  clear hgs hg6 hg5 hg3
  have hI0 : GoI (len := n1) w W0 g3 g5 g6 back text xs [] W0 := ⟨⟨A, n, c, text, rfl, X3, H.out.below (by have := hB0; exact this), hn⟩, X5, X6, Nat.le_refl _, hB0⟩
  have hwW0 : w.heap.size ≤ W0.heap.size := hB0.size
  have hS0 : ∀ k, InB w.heap.size gs k → k < W0.heap.size := fun k hk => by rcases hk with hk | hk <;> omega
  have HB0 := Aside0.mk hB0
  refine wpIn_rangeFunc_ownH rfl (by omega) (gf := 88) (lb := #[.pointer (some ⟨gs, 0, none⟩)]) rfl trivial (enters_of Tryd.func88 (by kernel_rfl) rfl)
    (Back_stops _ gs n1 c1 A1 vs xs w W0 HR.out (by omega) hB0 Xs.cell) keepS_t (keepS_b hS0) (Below.refl _ _) (fun _ => rfl)
    (GoI (len := n1) w W0 g3 g5 g6 back text xs) (GoX (len := n1) w g6 back text xs) (GoI.own hwW0) (GoX.own hwW0) hI0
    (fun x a' W => ∃ g8, a' = { tmps := #[Value.slice A n c, Value.slice A1 n1 c1, Value.bool back, Value.pointer (some ⟨g3, 0, none⟩), undef, Value.pointer (some ⟨g5, 0, none⟩), Value.pointer (some ⟨g6, 0, none⟩), undef, Value.pointer (some ⟨g8, 0, none⟩), Value.slice A1 n1 c1, Value.func (.func 88) #[] #[Value.pointer (some ⟨gs, 0, none⟩)], Value.int .i64 (x.1 : Int), (vs x.1).val, undef, undef, undef, undef, undef, undef, undef, undef, undef, undef, undef, undef, undef, undef, undef, undef, undef, undef, undef, undef, undef, undef, undef, undef, undef], defers := [] } ∧ W0.heap.size ≤ g8 ∧ Box8 g8 (vs x.1).p (vs x.1).A (vs x.1).n (vs x.1).c (vs x.1).B (vs x.1).m (vs x.1).d W)
    ?hAx ?assign ?body ?done ?stop
  case hAx =>
    rintro x a' _ W W' row ⟨g8, h1, h2, h3⟩ hg hr
    exact ⟨g8, h1, h2, blk_grown hg hr h3⟩
  case assign =>
    intro lp pre x W K hI hK
    dsimp only [encC, CV.val]
    gi_wp2
    exact hK _ _ ((KeepsOthers.alloc W _).from _) (fun k hk => Below.heap_alloc W _ k (by have := hS0 k hk; have := hI.2.2.2.1; omega)) (ownFrom_alloc (GoI.own hwW0) hI _) ⟨W.heap.size, rfl, hI.2.2.2.1, World.alloc_heap_new W _⟩
  case body =>
    rintro lp pre x a' W hlp hloop ⟨⟨A2, n2, c2, tc, hgo, hb3, hS, hn2⟩, hb5, hb6, hsz, hB⟩ ⟨g8, rfl, hg8, hx8⟩ hlt
    have hch := HR.out.at_ x.1 x.2
    have hvx := HV.out x.1 x.2
    obtain ⟨ad, _, hat⟩ := hch
    have hV0 := hat.h.below hB
    have hgo2 : goesT back text ((pre ++ [x]).map fun j => xs j.1) = stepT back tc (xs x.1) := by
      rw [List.map_append, List.map_singleton, goesT_snoc, hgo]; rfl
    have HGO := Aside0.mk hgo2
    dsimp only [CV.val]
    generalize vs x.1 = v at hx8 hV0 hvx ⊢
    generalize xs x.1 = y at hV0 HGO
    obtain ⟨p, A3, n3, c3, B3, m3, d3⟩ := v
    dsimp only at hx8 hV0 hvx ⊢
    have hG := HG.out
    have n83 : g3 ≠ g8 := by omega
    have n85 : g5 ≠ g8 := by omega
    have n86 : g6 ≠ g8 := by omega
    have n8s : gs ≠ g8 := by omega
    have n36 : g6 ≠ g3 := by omega
    have n35 : g5 ≠ g3 := by omega
    have le8 : w.heap.size ≤ g8 := by omega
    have le3 : w.heap.size ≤ g3 := by omega
    have le6 : w.heap.size ≤ g6 := by omega
    have c5 := Boxed.cell hb5
    have hvn := hvx.1
    have hvm := hvx.2
    have HS := Aside0.mk hS
    have HV0 := Aside0.mk hV0
    have HB3 := Aside0.mk hb3
    have HB6 := Aside0.mk hb6
    have HB5 := Aside0.mk hb5
    have HX8 := Aside0.mk hx8
    have HBW := Aside0.mk hB
    have HSZ := Aside0.mk hsz
    clear hvx hat hgo hgo2 hS hV0 hb3 hb6 hb5 hx8 hB hG hsz
    cases back
    case false =>
      have V2 : Aside0 (ChV W p A3 n3 c3 B3 m3 d3 (y.way false)) := HV0
      have S2 := HS
      have BX2 := HB3
      have B52 := HB5
      have B62 := HB6
      have K2 := Aside0.mk (KeepsFrom.refl W0.heap.size W)
      have KS2 := Aside0.mk (KeepS.refl (InB w.heap.size gs) W)
      have Z2 := HSZ
      have BW2 := HBW
      have L2 := Aside0.mk (show n3 ≤ 5000 ∧ m3 ≤ 5000 from ⟨hvn, hvm⟩)
      have X82 := HX8
      have e0 : W.cell? ⟨g8, 0, none⟩ = some (.int .i64 p) := blk_cell HX8.out
      have e1 : W.cell? ⟨g8, 1, none⟩ = some (.slice A3 n3 c3) := blk_cell HX8.out
      have e2 : W.cell? ⟨g8, 2, none⟩ = some (.slice B3 m3 d3) := blk_cell HX8.out
      have c3_ := Boxed.cell HB3.out
      by_cases h1 : fitsB tc (y.way false) = true
      · have H1 := Aside0.mk h1
        by_cases h2 : (y.way false).gone.all scl = true
        · by_cases h3 : (y.way false).came.all scl = true
          · by_cases h4 : (doneT tc (y.way false)).length ≤ 4096
            · have ST := Aside0.mk (show stepT false tc y = some (doneT tc (y.way false)) from if_pos ⟨h1, h2, h3, h4⟩)
              have H4 := Aside0.mk h4
              have H2 := Aside0.mk h2
              have H3 := Aside0.mk h3
              clear h4 h2 h3
              gi_wp2_with (first
                            | ((try refine ⟨trivial, ?_⟩); (try refine ⟨hdd_ _, ?_⟩); gi_at_call 79; (with_reducible refine (CallsIn.inRound lp (callsIn_wide.2 (fits_q S2.out V2.out h1 (by omega) (by have := L2.out; omega)))).mono ?_); rintro e W3 ⟨rfl, hb⟩; have V3 := Aside0.mk (V2.out.below hb); have S3 := Aside0.mk (S2.out.below hb); have BX3 : Aside0 (Boxed W3 g3 31 (.slice A2 n2 c2)) := ⟨(hb.block _ BX2.out.lt).trans BX2.out⟩; have B53 : Aside0 (Boxed W3 g5 4 (.bool false)) := ⟨(hb.block _ B52.out.lt).trans B52.out⟩; have b63 : Boxed W3 g6 4 (.bool false) := (hb.block _ B62.out.lt).trans B62.out; have B63 := Aside0.mk b63; have c6_3 := Boxed.cell b63; have f6_3 := Boxed.frozen b63; have x83 := (hb.block _ (Array.getElem?_eq_some_iff.1 X82.out).1).trans X82.out; have y0_3 := blk_cell (j := 0) x83; have y1_3 := blk_cell (j := 1) x83; have y2_3 := blk_cell (j := 2) x83; have c3_3 := Boxed.cell BX3.out; have K3 := Aside0.mk (K2.out.trans ((KeepsOthers.below (n := 0) hb).from _)); have KS3 := Aside0.mk (KS2.out.trans (KeepS.of_below hb (fun k hk => Nat.lt_of_lt_of_le (hS0 k hk) Z2.out))); have Z3 := Aside0.mk (Nat.le_trans Z2.out hb.size); have BW3 := Aside0.mk (below_step BW2.out hb); clear hb b63 x83)
                            | ((try refine ⟨trivial, ?_⟩); (try refine ⟨hdd_ _, ?_⟩); gi_at_call 56; (with_reducible refine (CallsIn.inRound lp (callsIn_wide.2 (scalars_q V3.out.g H2.out (by have := L2.out; omega)))).mono ?_); rintro e w' ⟨rfl, rfl⟩)
                            | ((try refine ⟨trivial, ?_⟩); (try refine ⟨hdd_ _, ?_⟩); gi_at_call 56; (with_reducible refine (CallsIn.inRound lp (callsIn_wide.2 (scalars_q V3.out.k H3.out (by have := L2.out; omega)))).mono ?_); rintro e w' ⟨rfl, rfl⟩)
                            | ((try refine ⟨trivial, ?_⟩); (try refine ⟨hdd_ _, ?_⟩); gi_at_call 18; (with_reducible refine (CallsIn.inRound lp (callsIn_wide.2 (done_calls S3.out V3.out h1 (by omega) (by have := L2.out; omega)))).mono ?_); rintro e W4 ⟨A5, n5, c5_, rfl, hS5, hb⟩; have b34 : Boxed W4 g3 31 (.slice A2 n2 c2) := (hb.block _ BX3.out.lt).trans BX3.out; have c3_4 := Boxed.cell b34; have f3_4 := Boxed.frozen b34; have hno := blk_noI b34 (noI_slv A2 n2 c2); have S5 : Aside0 (Sl (W4.setCell ⟨g3, 0, none⟩ (.slice A5 n5 c5_)) A5 n5 c5_ (doneT tc (y.way false))) := ⟨hS5.only hno (fun k _ hk => Below.heap_setCell _ ⟨g3, 0, none⟩ _ k hk)⟩; have BX5 := Aside0.mk (Boxed.set (.slice A5 n5 c5_) b34); have B55 := Aside0.mk (Boxed.other (show Boxed W4 g5 4 (.bool false) from (hb.block _ B53.out.lt).trans B53.out) n35 (.slice A5 n5 c5_)); have b65 := Boxed.other (show Boxed W4 g6 4 (.bool false) from (hb.block _ B63.out.lt).trans B63.out) n36 (.slice A5 n5 c5_); have B65 := Aside0.mk b65; have c6_5 := Boxed.cell b65; have f6_5 := Boxed.frozen b65; have c3_5 := Boxed.cell BX5.out; have K5 := Aside0.mk ((K3.out.trans ((KeepsOthers.below (n := 0) hb).from _)).trans ((KeepsOthers.setCell W4 ⟨g3, 0, none⟩ (.slice A5 n5 c5_)).from _)); have KS5 : Aside0 (KeepS (InB w.heap.size gs) W (W4.setCell ⟨g3, 0, none⟩ (.slice A5 n5 c5_))) := ⟨(KS3.out.trans (KeepS.of_below hb (fun k hk => Nat.lt_of_lt_of_le (hS0 k hk) Z3.out))).trans (fun k hk => Below.heap_setCell _ ⟨g3, 0, none⟩ _ k (by have h3 := HG.out; show k ≠ g3; rcases hk with hk | hk <;> omega))⟩; have Z5 : Aside0 (W0.heap.size ≤ (W4.setCell ⟨g3, 0, none⟩ (.slice A5 n5 c5_)).heap.size) := ⟨by simp; exact Nat.le_trans Z3.out hb.size⟩; have BW5 := Aside0.mk ((below_step BW3.out hb).setCell (p := ⟨g3, 0, none⟩) le3 (.slice A5 n5 c5_)); have N5 := Aside0.mk hS5.hn; clear hb b34 b65 hno hS5; have h5 : decide ((4096 : Int) < (n5 : Int)) = false := decide_eq_false (by have := N5.out; have := H4.out; omega)))
              refine ⟨K5.out, KS5.out, ⟨A5, n5, c5_, _, HGO.out.trans ST.out, BX5.out, S5.out, by have := N5.out; have := H4.out; omega⟩, B55.out, B65.out, Z5.out, BW5.out⟩
            · have ST := Aside0.mk (show stepT false tc y = none from if_neg (fun h => h4 h.2.2.2))
              have H4 := Aside0.mk h4
              have H2 := Aside0.mk h2
              have H3 := Aside0.mk h3
              clear h4 h2 h3
              gi_wp2_with (first
                      | ((try refine ⟨trivial, ?_⟩); (try refine ⟨hdd_ _, ?_⟩); gi_at_call 79; (with_reducible refine (CallsIn.inRound lp (callsIn_wide.2 (fits_q S2.out V2.out h1 (by omega) (by have := L2.out; omega)))).mono ?_); rintro e W3 ⟨rfl, hb⟩; have V3 := Aside0.mk (V2.out.below hb); have S3 := Aside0.mk (S2.out.below hb); have BX3 : Aside0 (Boxed W3 g3 31 (.slice A2 n2 c2)) := ⟨(hb.block _ BX2.out.lt).trans BX2.out⟩; have B53 : Aside0 (Boxed W3 g5 4 (.bool false)) := ⟨(hb.block _ B52.out.lt).trans B52.out⟩; have b63 : Boxed W3 g6 4 (.bool false) := (hb.block _ B62.out.lt).trans B62.out; have B63 := Aside0.mk b63; have c6_3 := Boxed.cell b63; have f6_3 := Boxed.frozen b63; have x83 := (hb.block _ (Array.getElem?_eq_some_iff.1 X82.out).1).trans X82.out; have y0_3 := blk_cell (j := 0) x83; have y1_3 := blk_cell (j := 1) x83; have y2_3 := blk_cell (j := 2) x83; have c3_3 := Boxed.cell BX3.out; have K3 := Aside0.mk (K2.out.trans ((KeepsOthers.below (n := 0) hb).from _)); have KS3 := Aside0.mk (KS2.out.trans (KeepS.of_below hb (fun k hk => Nat.lt_of_lt_of_le (hS0 k hk) Z2.out))); have Z3 := Aside0.mk (Nat.le_trans Z2.out hb.size); have BW3 := Aside0.mk (below_step BW2.out hb); clear hb b63 x83)
                      | ((try refine ⟨trivial, ?_⟩); (try refine ⟨hdd_ _, ?_⟩); gi_at_call 56; (with_reducible refine (CallsIn.inRound lp (callsIn_wide.2 (scalars_q V3.out.g H2.out (by have := L2.out; omega)))).mono ?_); rintro e w' ⟨rfl, rfl⟩)
                      | ((try refine ⟨trivial, ?_⟩); (try refine ⟨hdd_ _, ?_⟩); gi_at_call 56; (with_reducible refine (CallsIn.inRound lp (callsIn_wide.2 (scalars_q V3.out.k H3.out (by have := L2.out; omega)))).mono ?_); rintro e w' ⟨rfl, rfl⟩)
                      | ((try refine ⟨trivial, ?_⟩); (try refine ⟨hdd_ _, ?_⟩); gi_at_call 18; (with_reducible refine (CallsIn.inRound lp (callsIn_wide.2 (done_calls S3.out V3.out h1 (by omega) (by have := L2.out; omega)))).mono ?_); rintro e W4 ⟨A5, n5, c5_, rfl, hS5, hb⟩; have b34 : Boxed W4 g3 31 (.slice A2 n2 c2) := (hb.block _ BX3.out.lt).trans BX3.out; have c3_4 := Boxed.cell b34; have f3_4 := Boxed.frozen b34; have hno := blk_noI b34 (noI_slv A2 n2 c2); have S5 : Aside0 (Sl (W4.setCell ⟨g3, 0, none⟩ (.slice A5 n5 c5_)) A5 n5 c5_ (doneT tc (y.way false))) := ⟨hS5.only hno (fun k _ hk => Below.heap_setCell _ ⟨g3, 0, none⟩ _ k hk)⟩; have BX5 := Aside0.mk (Boxed.set (.slice A5 n5 c5_) b34); have B55 := Aside0.mk (Boxed.other (show Boxed W4 g5 4 (.bool false) from (hb.block _ B53.out.lt).trans B53.out) n35 (.slice A5 n5 c5_)); have b65 := Boxed.other (show Boxed W4 g6 4 (.bool false) from (hb.block _ B63.out.lt).trans B63.out) n36 (.slice A5 n5 c5_); have B65 := Aside0.mk b65; have c6_5 := Boxed.cell b65; have f6_5 := Boxed.frozen b65; have c3_5 := Boxed.cell BX5.out; have K5 := Aside0.mk ((K3.out.trans ((KeepsOthers.below (n := 0) hb).from _)).trans ((KeepsOthers.setCell W4 ⟨g3, 0, none⟩ (.slice A5 n5 c5_)).from _)); have KS5 : Aside0 (KeepS (InB w.heap.size gs) W (W4.setCell ⟨g3, 0, none⟩ (.slice A5 n5 c5_))) := ⟨(KS3.out.trans (KeepS.of_below hb (fun k hk => Nat.lt_of_lt_of_le (hS0 k hk) Z3.out))).trans (fun k hk => Below.heap_setCell _ ⟨g3, 0, none⟩ _ k (by have h3 := HG.out; show k ≠ g3; rcases hk with hk | hk <;> omega))⟩; have Z5 : Aside0 (W0.heap.size ≤ (W4.setCell ⟨g3, 0, none⟩ (.slice A5 n5 c5_)).heap.size) := ⟨by simp; exact Nat.le_trans Z3.out hb.size⟩; have BW5 := Aside0.mk ((below_step BW3.out hb).setCell (p := ⟨g3, 0, none⟩) le3 (.slice A5 n5 c5_)); have N5 := Aside0.mk hS5.hn; clear hb b34 b65 hno hS5; have h5 : decide ((4096 : Int) < (n5 : Int)) = true := decide_eq_true (by have := N5.out; have := H4.out; omega)))
              refine ⟨K5.out.trans ((KeepsOthers.setCell _ _ _).from _), rfl, HGO.out.trans ST.out, Boxed.set _ B65.out, BW5.out.setCell (p := ⟨g6, 0, none⟩) le6 _⟩
          · have ST := Aside0.mk (show stepT false tc y = none from if_neg (fun h => h3 h.2.2.1))
            have H3 := Aside0.mk (Bool.eq_false_iff.2 h3)
            have H2 := Aside0.mk h2
            clear h2 h3
            gi_wp2_with (first
                    | ((try refine ⟨trivial, ?_⟩); (try refine ⟨hdd_ _, ?_⟩); gi_at_call 79; (with_reducible refine (CallsIn.inRound lp (callsIn_wide.2 (fits_q S2.out V2.out h1 (by omega) (by have := L2.out; omega)))).mono ?_); rintro e W3 ⟨rfl, hb⟩; have V3 := Aside0.mk (V2.out.below hb); have S3 := Aside0.mk (S2.out.below hb); have BX3 : Aside0 (Boxed W3 g3 31 (.slice A2 n2 c2)) := ⟨(hb.block _ BX2.out.lt).trans BX2.out⟩; have B53 : Aside0 (Boxed W3 g5 4 (.bool false)) := ⟨(hb.block _ B52.out.lt).trans B52.out⟩; have b63 : Boxed W3 g6 4 (.bool false) := (hb.block _ B62.out.lt).trans B62.out; have B63 := Aside0.mk b63; have c6_3 := Boxed.cell b63; have f6_3 := Boxed.frozen b63; have x83 := (hb.block _ (Array.getElem?_eq_some_iff.1 X82.out).1).trans X82.out; have y0_3 := blk_cell (j := 0) x83; have y1_3 := blk_cell (j := 1) x83; have y2_3 := blk_cell (j := 2) x83; have c3_3 := Boxed.cell BX3.out; have K3 := Aside0.mk (K2.out.trans ((KeepsOthers.below (n := 0) hb).from _)); have KS3 := Aside0.mk (KS2.out.trans (KeepS.of_below hb (fun k hk => Nat.lt_of_lt_of_le (hS0 k hk) Z2.out))); have Z3 := Aside0.mk (Nat.le_trans Z2.out hb.size); have BW3 := Aside0.mk (below_step BW2.out hb); clear hb b63 x83)
                    | ((try refine ⟨trivial, ?_⟩); (try refine ⟨hdd_ _, ?_⟩); gi_at_call 56; (with_reducible refine (CallsIn.inRound lp (callsIn_wide.2 (scalars_q V3.out.g H2.out (by have := L2.out; omega)))).mono ?_); rintro e w' ⟨rfl, rfl⟩)
                    | ((try refine ⟨trivial, ?_⟩); (try refine ⟨hdd_ _, ?_⟩); gi_at_call 56; (with_reducible refine (CallsIn.inRound lp (callsIn_wide.2 (scalars_q V3.out.k H3.out (by have := L2.out; omega)))).mono ?_); rintro e w' ⟨rfl, rfl⟩))
            refine ⟨K3.out.trans ((KeepsOthers.setCell _ _ _).from _), rfl, HGO.out.trans ST.out, Boxed.set _ B63.out, BW3.out.setCell (p := ⟨g6, 0, none⟩) le6 _⟩
        · have ST := Aside0.mk (show stepT false tc y = none from if_neg (fun h => h2 h.2.1))
          have H2 := Aside0.mk (Bool.eq_false_iff.2 h2)
          clear h2
          gi_wp2_with (first
                  | ((try refine ⟨trivial, ?_⟩); (try refine ⟨hdd_ _, ?_⟩); gi_at_call 79; (with_reducible refine (CallsIn.inRound lp (callsIn_wide.2 (fits_q S2.out V2.out h1 (by omega) (by have := L2.out; omega)))).mono ?_); rintro e W3 ⟨rfl, hb⟩; have V3 := Aside0.mk (V2.out.below hb); have S3 := Aside0.mk (S2.out.below hb); have BX3 : Aside0 (Boxed W3 g3 31 (.slice A2 n2 c2)) := ⟨(hb.block _ BX2.out.lt).trans BX2.out⟩; have B53 : Aside0 (Boxed W3 g5 4 (.bool false)) := ⟨(hb.block _ B52.out.lt).trans B52.out⟩; have b63 : Boxed W3 g6 4 (.bool false) := (hb.block _ B62.out.lt).trans B62.out; have B63 := Aside0.mk b63; have c6_3 := Boxed.cell b63; have f6_3 := Boxed.frozen b63; have x83 := (hb.block _ (Array.getElem?_eq_some_iff.1 X82.out).1).trans X82.out; have y0_3 := blk_cell (j := 0) x83; have y1_3 := blk_cell (j := 1) x83; have y2_3 := blk_cell (j := 2) x83; have c3_3 := Boxed.cell BX3.out; have K3 := Aside0.mk (K2.out.trans ((KeepsOthers.below (n := 0) hb).from _)); have KS3 := Aside0.mk (KS2.out.trans (KeepS.of_below hb (fun k hk => Nat.lt_of_lt_of_le (hS0 k hk) Z2.out))); have Z3 := Aside0.mk (Nat.le_trans Z2.out hb.size); have BW3 := Aside0.mk (below_step BW2.out hb); clear hb b63 x83)
                  | ((try refine ⟨trivial, ?_⟩); (try refine ⟨hdd_ _, ?_⟩); gi_at_call 56; (with_reducible refine (CallsIn.inRound lp (callsIn_wide.2 (scalars_q V3.out.g H2.out (by have := L2.out; omega)))).mono ?_); rintro e w' ⟨rfl, rfl⟩))
          refine ⟨trivial, ?_⟩
          gi_wp2
          refine ⟨K3.out.trans ((KeepsOthers.setCell _ _ _).from _), rfl, HGO.out.trans ST.out, Boxed.set _ B63.out, BW3.out.setCell (p := ⟨g6, 0, none⟩) le6 _⟩
      · have ST := Aside0.mk (show stepT false tc y = none from if_neg (fun h => h1 h.1))
        have H1 := Aside0.mk (Bool.eq_false_iff.2 h1)
        clear h1
        gi_wp2_with (first
                | ((try refine ⟨trivial, ?_⟩); (try refine ⟨hdd_ _, ?_⟩); gi_at_call 79; (with_reducible refine (CallsIn.inRound lp (callsIn_wide.2 (fits_q S2.out V2.out H1.out (by omega) (by have := L2.out; omega)))).mono ?_); rintro e W3 ⟨rfl, hb⟩; have V3 := Aside0.mk (V2.out.below hb); have S3 := Aside0.mk (S2.out.below hb); have BX3 : Aside0 (Boxed W3 g3 31 (.slice A2 n2 c2)) := ⟨(hb.block _ BX2.out.lt).trans BX2.out⟩; have B53 : Aside0 (Boxed W3 g5 4 (.bool false)) := ⟨(hb.block _ B52.out.lt).trans B52.out⟩; have b63 : Boxed W3 g6 4 (.bool false) := (hb.block _ B62.out.lt).trans B62.out; have B63 := Aside0.mk b63; have c6_3 := Boxed.cell b63; have f6_3 := Boxed.frozen b63; have x83 := (hb.block _ (Array.getElem?_eq_some_iff.1 X82.out).1).trans X82.out; have y0_3 := blk_cell (j := 0) x83; have y1_3 := blk_cell (j := 1) x83; have y2_3 := blk_cell (j := 2) x83; have c3_3 := Boxed.cell BX3.out; have K3 := Aside0.mk (K2.out.trans ((KeepsOthers.below (n := 0) hb).from _)); have KS3 := Aside0.mk (KS2.out.trans (KeepS.of_below hb (fun k hk => Nat.lt_of_lt_of_le (hS0 k hk) Z2.out))); have Z3 := Aside0.mk (Nat.le_trans Z2.out hb.size); have BW3 := Aside0.mk (below_step BW2.out hb); clear hb b63 x83))
        refine ⟨trivial, ?_⟩
        gi_wp2
        refine ⟨trivial, ?_⟩
        gi_wp2
        refine ⟨K3.out.trans ((KeepsOthers.setCell _ _ _).from _), rfl, HGO.out.trans ST.out, Boxed.set _ B63.out, BW3.out.setCell (p := ⟨g6, 0, none⟩) le6 _⟩
    case true =>
      have CI := Aside0.mk (Inverse_calls HV0.out (by omega) (by omega))
      have e0 : W.cell? ⟨g8, 0, none⟩ = some (.int .i64 p) := blk_cell HX8.out
      have e1 : W.cell? ⟨g8, 1, none⟩ = some (.slice A3 n3 c3) := blk_cell HX8.out
      have e2 : W.cell? ⟨g8, 2, none⟩ = some (.slice B3 m3 d3) := blk_cell HX8.out
      have hgl8 : g8 < W.heap.size := World.block_lt_of_cell? W _ e0
      by_cases h1 : fitsB tc (y.way true) = true
      · have H1 := Aside0.mk h1
        by_cases h2 : (y.way true).gone.all scl = true
        · by_cases h3 : (y.way true).came.all scl = true
          · by_cases h4 : (doneT tc (y.way true)).length ≤ 4096
            · have ST := Aside0.mk (show stepT true tc y = some (doneT tc (y.way true)) from if_pos ⟨h1, h2, h3, h4⟩)
              have H4 := Aside0.mk h4
              have H2 := Aside0.mk h2
              have H3 := Aside0.mk h3
              clear h4 h2 h3
              gi_wp2_with (first
                            | ((try refine ⟨trivial, ?_⟩); (try refine ⟨hdd_ _, ?_⟩); gi_at_call 20; (with_reducible refine (CallsIn.inRound lp (callsIn_wide.2 CI.out)).mono ?_); rintro e W1 ⟨p4, A4, n4, c4, B4, m4, d4, rfl, hV4, hb1⟩; have k0 := (hb1.cell (p := ⟨g8, 0, none⟩) hgl8).trans e0; have k1 := (hb1.cell (p := ⟨g8, 1, none⟩) hgl8).trans e1; have k2 := (hb1.cell (p := ⟨g8, 2, none⟩) hgl8).trans e2; have x81 := (hb1.block _ hgl8).trans HX8.out; have f0 := blk_frozen (j := 0) x81; have f1 := blk_frozen (j := 1) x81; have f2 := blk_frozen (j := 2) x81; have L2 := Aside0.mk (show n4 ≤ 5000 ∧ m4 ≤ 5000 from ⟨by have h1 := hV4.g.hn; have h2 := HV0.out.k.hn; have h3 : y.inv.gone = y.came := rfl; rw [h3] at h1; omega, by have h1 := hV4.k.hn; have h2 := HV0.out.g.hn; have h3 : y.inv.came = y.gone := rfl; rw [h3] at h1; omega⟩); have hfar : ∀ k, k < W1.heap.size → k ≠ g8 → (((W1.setCell ⟨g8, 0, none⟩ (Value.int .i64 p4)).setCell ⟨g8, 1, none⟩ (Value.slice A4 n4 c4)).setCell ⟨g8, 2, none⟩ (Value.slice B4 m4 d4)).heap[k]? = W1.heap[k]? := fun k _ hk => set3_far hk; have V2 : Aside0 (ChV (((W1.setCell ⟨g8, 0, none⟩ (Value.int .i64 p4)).setCell ⟨g8, 1, none⟩ (Value.slice A4 n4 c4)).setCell ⟨g8, 2, none⟩ (Value.slice B4 m4 d4)) p4 A4 n4 c4 B4 m4 d4 (y.way true)) := ⟨hV4.only (blk_noI x81 noI_ch) hfar⟩; have S2 : Aside0 (Sl (((W1.setCell ⟨g8, 0, none⟩ (Value.int .i64 p4)).setCell ⟨g8, 1, none⟩ (Value.slice A4 n4 c4)).setCell ⟨g8, 2, none⟩ (Value.slice B4 m4 d4)) A2 n2 c2 tc) := ⟨(HS.out.below hb1).only (blk_noI x81 noI_ch) hfar⟩; have BX2 : Aside0 (Boxed (((W1.setCell ⟨g8, 0, none⟩ (Value.int .i64 p4)).setCell ⟨g8, 1, none⟩ (Value.slice A4 n4 c4)).setCell ⟨g8, 2, none⟩ (Value.slice B4 m4 d4)) g3 31 (.slice A2 n2 c2)) := ⟨(set3_far n83).trans ((hb1.block _ HB3.out.lt).trans HB3.out)⟩; have B52 : Aside0 (Boxed (((W1.setCell ⟨g8, 0, none⟩ (Value.int .i64 p4)).setCell ⟨g8, 1, none⟩ (Value.slice A4 n4 c4)).setCell ⟨g8, 2, none⟩ (Value.slice B4 m4 d4)) g5 4 (.bool true)) := ⟨(set3_far n85).trans ((hb1.block _ HB5.out.lt).trans HB5.out)⟩; have B62 : Aside0 (Boxed (((W1.setCell ⟨g8, 0, none⟩ (Value.int .i64 p4)).setCell ⟨g8, 1, none⟩ (Value.slice A4 n4 c4)).setCell ⟨g8, 2, none⟩ (Value.slice B4 m4 d4)) g6 4 (.bool false)) := ⟨(set3_far n86).trans ((hb1.block _ HB6.out.lt).trans HB6.out)⟩; have X82 : Aside0 (Box8 g8 p4 A4 n4 c4 B4 m4 d4 (((W1.setCell ⟨g8, 0, none⟩ (Value.int .i64 p4)).setCell ⟨g8, 1, none⟩ (Value.slice A4 n4 c4)).setCell ⟨g8, 2, none⟩ (Value.slice B4 m4 d4))) := ⟨set3_blk x81⟩; have K2 : Aside0 (KeepsFrom W0.heap.size W (((W1.setCell ⟨g8, 0, none⟩ (Value.int .i64 p4)).setCell ⟨g8, 1, none⟩ (Value.slice A4 n4 c4)).setCell ⟨g8, 2, none⟩ (Value.slice B4 m4 d4))) := ⟨(KeepsOthers.below (n := 0) hb1).from _ |>.trans (((KeepsOthers.setCell _ _ _).from _).trans (((KeepsOthers.setCell _ _ _).from _).trans ((KeepsOthers.setCell _ _ _).from _)))⟩; have Z2 : Aside0 (W0.heap.size ≤ (((W1.setCell ⟨g8, 0, none⟩ (Value.int .i64 p4)).setCell ⟨g8, 1, none⟩ (Value.slice A4 n4 c4)).setCell ⟨g8, 2, none⟩ (Value.slice B4 m4 d4)).heap.size) := ⟨by simp; exact Nat.le_trans HSZ.out hb1.size⟩; have KS2 : Aside0 (KeepS (InB w.heap.size gs) W (((W1.setCell ⟨g8, 0, none⟩ (Value.int .i64 p4)).setCell ⟨g8, 1, none⟩ (Value.slice A4 n4 c4)).setCell ⟨g8, 2, none⟩ (Value.slice B4 m4 d4))) := ⟨fun k hk => by (have hk0 := hS0 k hk; have hks : k ≠ g8 := (by omega); exact (set3_far hks).trans (hb1.block _ (by have := HSZ.out; omega)))⟩; have BW2 : Aside0 (Below w.heap.size w (((W1.setCell ⟨g8, 0, none⟩ (Value.int .i64 p4)).setCell ⟨g8, 1, none⟩ (Value.slice A4 n4 c4)).setCell ⟨g8, 2, none⟩ (Value.slice B4 m4 d4))) := ⟨below_set3 le8 (below_step HBW.out hb1)⟩; have q0 := blk_cell (j := 0) X82.out; have q1 := blk_cell (j := 1) X82.out; have q2 := blk_cell (j := 2) X82.out; have c3_ := Boxed.cell BX2.out; have hz2 := BW2.out; clear hV4 hfar x81 hz2)
                            | ((try refine ⟨trivial, ?_⟩); (try refine ⟨hdd_ _, ?_⟩); gi_at_call 79; (with_reducible refine (CallsIn.inRound lp (callsIn_wide.2 (fits_q S2.out V2.out h1 (by omega) (by have := L2.out; omega)))).mono ?_); rintro e W3 ⟨rfl, hb⟩; have V3 := Aside0.mk (V2.out.below hb); have S3 := Aside0.mk (S2.out.below hb); have BX3 : Aside0 (Boxed W3 g3 31 (.slice A2 n2 c2)) := ⟨(hb.block _ BX2.out.lt).trans BX2.out⟩; have B53 : Aside0 (Boxed W3 g5 4 (.bool true)) := ⟨(hb.block _ B52.out.lt).trans B52.out⟩; have b63 : Boxed W3 g6 4 (.bool false) := (hb.block _ B62.out.lt).trans B62.out; have B63 := Aside0.mk b63; have c6_3 := Boxed.cell b63; have f6_3 := Boxed.frozen b63; have x83 := (hb.block _ (Array.getElem?_eq_some_iff.1 X82.out).1).trans X82.out; have y0_3 := blk_cell (j := 0) x83; have y1_3 := blk_cell (j := 1) x83; have y2_3 := blk_cell (j := 2) x83; have c3_3 := Boxed.cell BX3.out; have K3 := Aside0.mk (K2.out.trans ((KeepsOthers.below (n := 0) hb).from _)); have KS3 := Aside0.mk (KS2.out.trans (KeepS.of_below hb (fun k hk => Nat.lt_of_lt_of_le (hS0 k hk) Z2.out))); have Z3 := Aside0.mk (Nat.le_trans Z2.out hb.size); have BW3 := Aside0.mk (below_step BW2.out hb); clear hb b63 x83)
                            | ((try refine ⟨trivial, ?_⟩); (try refine ⟨hdd_ _, ?_⟩); gi_at_call 56; (with_reducible refine (CallsIn.inRound lp (callsIn_wide.2 (scalars_q V3.out.g H2.out (by have := L2.out; omega)))).mono ?_); rintro e w' ⟨rfl, rfl⟩)
                            | ((try refine ⟨trivial, ?_⟩); (try refine ⟨hdd_ _, ?_⟩); gi_at_call 56; (with_reducible refine (CallsIn.inRound lp (callsIn_wide.2 (scalars_q V3.out.k H3.out (by have := L2.out; omega)))).mono ?_); rintro e w' ⟨rfl, rfl⟩)
                            | ((try refine ⟨trivial, ?_⟩); (try refine ⟨hdd_ _, ?_⟩); gi_at_call 18; (with_reducible refine (CallsIn.inRound lp (callsIn_wide.2 (done_calls S3.out V3.out h1 (by omega) (by have := L2.out; omega)))).mono ?_); rintro e W4 ⟨A5, n5, c5_, rfl, hS5, hb⟩; have b34 : Boxed W4 g3 31 (.slice A2 n2 c2) := (hb.block _ BX3.out.lt).trans BX3.out; have c3_4 := Boxed.cell b34; have f3_4 := Boxed.frozen b34; have hno := blk_noI b34 (noI_slv A2 n2 c2); have S5 : Aside0 (Sl (W4.setCell ⟨g3, 0, none⟩ (.slice A5 n5 c5_)) A5 n5 c5_ (doneT tc (y.way true))) := ⟨hS5.only hno (fun k _ hk => Below.heap_setCell _ ⟨g3, 0, none⟩ _ k hk)⟩; have BX5 := Aside0.mk (Boxed.set (.slice A5 n5 c5_) b34); have B55 := Aside0.mk (Boxed.other (show Boxed W4 g5 4 (.bool true) from (hb.block _ B53.out.lt).trans B53.out) n35 (.slice A5 n5 c5_)); have b65 := Boxed.other (show Boxed W4 g6 4 (.bool false) from (hb.block _ B63.out.lt).trans B63.out) n36 (.slice A5 n5 c5_); have B65 := Aside0.mk b65; have c6_5 := Boxed.cell b65; have f6_5 := Boxed.frozen b65; have c3_5 := Boxed.cell BX5.out; have K5 := Aside0.mk ((K3.out.trans ((KeepsOthers.below (n := 0) hb).from _)).trans ((KeepsOthers.setCell W4 ⟨g3, 0, none⟩ (.slice A5 n5 c5_)).from _)); have KS5 : Aside0 (KeepS (InB w.heap.size gs) W (W4.setCell ⟨g3, 0, none⟩ (.slice A5 n5 c5_))) := ⟨(KS3.out.trans (KeepS.of_below hb (fun k hk => Nat.lt_of_lt_of_le (hS0 k hk) Z3.out))).trans (fun k hk => Below.heap_setCell _ ⟨g3, 0, none⟩ _ k (by have h3 := HG.out; show k ≠ g3; rcases hk with hk | hk <;> omega))⟩; have Z5 : Aside0 (W0.heap.size ≤ (W4.setCell ⟨g3, 0, none⟩ (.slice A5 n5 c5_)).heap.size) := ⟨by simp; exact Nat.le_trans Z3.out hb.size⟩; have BW5 := Aside0.mk ((below_step BW3.out hb).setCell (p := ⟨g3, 0, none⟩) le3 (.slice A5 n5 c5_)); have N5 := Aside0.mk hS5.hn; clear hb b34 b65 hno hS5; have h5 : decide ((4096 : Int) < (n5 : Int)) = false := decide_eq_false (by have := N5.out; have := H4.out; omega)))
              refine ⟨K5.out, KS5.out, ⟨A5, n5, c5_, _, HGO.out.trans ST.out, BX5.out, S5.out, by have := N5.out; have := H4.out; omega⟩, B55.out, B65.out, Z5.out, BW5.out⟩
            · have ST := Aside0.mk (show stepT true tc y = none from if_neg (fun h => h4 h.2.2.2))
              have H4 := Aside0.mk h4
              have H2 := Aside0.mk h2
              have H3 := Aside0.mk h3
              clear h4 h2 h3
              gi_wp2_with (first
                      | ((try refine ⟨trivial, ?_⟩); (try refine ⟨hdd_ _, ?_⟩); gi_at_call 20; (with_reducible refine (CallsIn.inRound lp (callsIn_wide.2 CI.out)).mono ?_); rintro e W1 ⟨p4, A4, n4, c4, B4, m4, d4, rfl, hV4, hb1⟩; have k0 := (hb1.cell (p := ⟨g8, 0, none⟩) hgl8).trans e0; have k1 := (hb1.cell (p := ⟨g8, 1, none⟩) hgl8).trans e1; have k2 := (hb1.cell (p := ⟨g8, 2, none⟩) hgl8).trans e2; have x81 := (hb1.block _ hgl8).trans HX8.out; have f0 := blk_frozen (j := 0) x81; have f1 := blk_frozen (j := 1) x81; have f2 := blk_frozen (j := 2) x81; have L2 := Aside0.mk (show n4 ≤ 5000 ∧ m4 ≤ 5000 from ⟨by have h1 := hV4.g.hn; have h2 := HV0.out.k.hn; have h3 : y.inv.gone = y.came := rfl; rw [h3] at h1; omega, by have h1 := hV4.k.hn; have h2 := HV0.out.g.hn; have h3 : y.inv.came = y.gone := rfl; rw [h3] at h1; omega⟩); have hfar : ∀ k, k < W1.heap.size → k ≠ g8 → (((W1.setCell ⟨g8, 0, none⟩ (Value.int .i64 p4)).setCell ⟨g8, 1, none⟩ (Value.slice A4 n4 c4)).setCell ⟨g8, 2, none⟩ (Value.slice B4 m4 d4)).heap[k]? = W1.heap[k]? := fun k _ hk => set3_far hk; have V2 : Aside0 (ChV (((W1.setCell ⟨g8, 0, none⟩ (Value.int .i64 p4)).setCell ⟨g8, 1, none⟩ (Value.slice A4 n4 c4)).setCell ⟨g8, 2, none⟩ (Value.slice B4 m4 d4)) p4 A4 n4 c4 B4 m4 d4 (y.way true)) := ⟨hV4.only (blk_noI x81 noI_ch) hfar⟩; have S2 : Aside0 (Sl (((W1.setCell ⟨g8, 0, none⟩ (Value.int .i64 p4)).setCell ⟨g8, 1, none⟩ (Value.slice A4 n4 c4)).setCell ⟨g8, 2, none⟩ (Value.slice B4 m4 d4)) A2 n2 c2 tc) := ⟨(HS.out.below hb1).only (blk_noI x81 noI_ch) hfar⟩; have BX2 : Aside0 (Boxed (((W1.setCell ⟨g8, 0, none⟩ (Value.int .i64 p4)).setCell ⟨g8, 1, none⟩ (Value.slice A4 n4 c4)).setCell ⟨g8, 2, none⟩ (Value.slice B4 m4 d4)) g3 31 (.slice A2 n2 c2)) := ⟨(set3_far n83).trans ((hb1.block _ HB3.out.lt).trans HB3.out)⟩; have B52 : Aside0 (Boxed (((W1.setCell ⟨g8, 0, none⟩ (Value.int .i64 p4)).setCell ⟨g8, 1, none⟩ (Value.slice A4 n4 c4)).setCell ⟨g8, 2, none⟩ (Value.slice B4 m4 d4)) g5 4 (.bool true)) := ⟨(set3_far n85).trans ((hb1.block _ HB5.out.lt).trans HB5.out)⟩; have B62 : Aside0 (Boxed (((W1.setCell ⟨g8, 0, none⟩ (Value.int .i64 p4)).setCell ⟨g8, 1, none⟩ (Value.slice A4 n4 c4)).setCell ⟨g8, 2, none⟩ (Value.slice B4 m4 d4)) g6 4 (.bool false)) := ⟨(set3_far n86).trans ((hb1.block _ HB6.out.lt).trans HB6.out)⟩; have X82 : Aside0 (Box8 g8 p4 A4 n4 c4 B4 m4 d4 (((W1.setCell ⟨g8, 0, none⟩ (Value.int .i64 p4)).setCell ⟨g8, 1, none⟩ (Value.slice A4 n4 c4)).setCell ⟨g8, 2, none⟩ (Value.slice B4 m4 d4))) := ⟨set3_blk x81⟩; have K2 : Aside0 (KeepsFrom W0.heap.size W (((W1.setCell ⟨g8, 0, none⟩ (Value.int .i64 p4)).setCell ⟨g8, 1, none⟩ (Value.slice A4 n4 c4)).setCell ⟨g8, 2, none⟩ (Value.slice B4 m4 d4))) := ⟨(KeepsOthers.below (n := 0) hb1).from _ |>.trans (((KeepsOthers.setCell _ _ _).from _).trans (((KeepsOthers.setCell _ _ _).from _).trans ((KeepsOthers.setCell _ _ _).from _)))⟩; have Z2 : Aside0 (W0.heap.size ≤ (((W1.setCell ⟨g8, 0, none⟩ (Value.int .i64 p4)).setCell ⟨g8, 1, none⟩ (Value.slice A4 n4 c4)).setCell ⟨g8, 2, none⟩ (Value.slice B4 m4 d4)).heap.size) := ⟨by simp; exact Nat.le_trans HSZ.out hb1.size⟩; have KS2 : Aside0 (KeepS (InB w.heap.size gs) W (((W1.setCell ⟨g8, 0, none⟩ (Value.int .i64 p4)).setCell ⟨g8, 1, none⟩ (Value.slice A4 n4 c4)).setCell ⟨g8, 2, none⟩ (Value.slice B4 m4 d4))) := ⟨fun k hk => by (have hk0 := hS0 k hk; have hks : k ≠ g8 := (by omega); exact (set3_far hks).trans (hb1.block _ (by have := HSZ.out; omega)))⟩; have BW2 : Aside0 (Below w.heap.size w (((W1.setCell ⟨g8, 0, none⟩ (Value.int .i64 p4)).setCell ⟨g8, 1, none⟩ (Value.slice A4 n4 c4)).setCell ⟨g8, 2, none⟩ (Value.slice B4 m4 d4))) := ⟨below_set3 le8 (below_step HBW.out hb1)⟩; have q0 := blk_cell (j := 0) X82.out; have q1 := blk_cell (j := 1) X82.out; have q2 := blk_cell (j := 2) X82.out; have c3_ := Boxed.cell BX2.out; have hz2 := BW2.out; clear hV4 hfar x81 hz2)
                      | ((try refine ⟨trivial, ?_⟩); (try refine ⟨hdd_ _, ?_⟩); gi_at_call 79; (with_reducible refine (CallsIn.inRound lp (callsIn_wide.2 (fits_q S2.out V2.out h1 (by omega) (by have := L2.out; omega)))).mono ?_); rintro e W3 ⟨rfl, hb⟩; have V3 := Aside0.mk (V2.out.below hb); have S3 := Aside0.mk (S2.out.below hb); have BX3 : Aside0 (Boxed W3 g3 31 (.slice A2 n2 c2)) := ⟨(hb.block _ BX2.out.lt).trans BX2.out⟩; have B53 : Aside0 (Boxed W3 g5 4 (.bool true)) := ⟨(hb.block _ B52.out.lt).trans B52.out⟩; have b63 : Boxed W3 g6 4 (.bool false) := (hb.block _ B62.out.lt).trans B62.out; have B63 := Aside0.mk b63; have c6_3 := Boxed.cell b63; have f6_3 := Boxed.frozen b63; have x83 := (hb.block _ (Array.getElem?_eq_some_iff.1 X82.out).1).trans X82.out; have y0_3 := blk_cell (j := 0) x83; have y1_3 := blk_cell (j := 1) x83; have y2_3 := blk_cell (j := 2) x83; have c3_3 := Boxed.cell BX3.out; have K3 := Aside0.mk (K2.out.trans ((KeepsOthers.below (n := 0) hb).from _)); have KS3 := Aside0.mk (KS2.out.trans (KeepS.of_below hb (fun k hk => Nat.lt_of_lt_of_le (hS0 k hk) Z2.out))); have Z3 := Aside0.mk (Nat.le_trans Z2.out hb.size); have BW3 := Aside0.mk (below_step BW2.out hb); clear hb b63 x83)
                      | ((try refine ⟨trivial, ?_⟩); (try refine ⟨hdd_ _, ?_⟩); gi_at_call 56; (with_reducible refine (CallsIn.inRound lp (callsIn_wide.2 (scalars_q V3.out.g H2.out (by have := L2.out; omega)))).mono ?_); rintro e w' ⟨rfl, rfl⟩)
                      | ((try refine ⟨trivial, ?_⟩); (try refine ⟨hdd_ _, ?_⟩); gi_at_call 56; (with_reducible refine (CallsIn.inRound lp (callsIn_wide.2 (scalars_q V3.out.k H3.out (by have := L2.out; omega)))).mono ?_); rintro e w' ⟨rfl, rfl⟩)
                      | ((try refine ⟨trivial, ?_⟩); (try refine ⟨hdd_ _, ?_⟩); gi_at_call 18; (with_reducible refine (CallsIn.inRound lp (callsIn_wide.2 (done_calls S3.out V3.out h1 (by omega) (by have := L2.out; omega)))).mono ?_); rintro e W4 ⟨A5, n5, c5_, rfl, hS5, hb⟩; have b34 : Boxed W4 g3 31 (.slice A2 n2 c2) := (hb.block _ BX3.out.lt).trans BX3.out; have c3_4 := Boxed.cell b34; have f3_4 := Boxed.frozen b34; have hno := blk_noI b34 (noI_slv A2 n2 c2); have S5 : Aside0 (Sl (W4.setCell ⟨g3, 0, none⟩ (.slice A5 n5 c5_)) A5 n5 c5_ (doneT tc (y.way true))) := ⟨hS5.only hno (fun k _ hk => Below.heap_setCell _ ⟨g3, 0, none⟩ _ k hk)⟩; have BX5 := Aside0.mk (Boxed.set (.slice A5 n5 c5_) b34); have B55 := Aside0.mk (Boxed.other (show Boxed W4 g5 4 (.bool true) from (hb.block _ B53.out.lt).trans B53.out) n35 (.slice A5 n5 c5_)); have b65 := Boxed.other (show Boxed W4 g6 4 (.bool false) from (hb.block _ B63.out.lt).trans B63.out) n36 (.slice A5 n5 c5_); have B65 := Aside0.mk b65; have c6_5 := Boxed.cell b65; have f6_5 := Boxed.frozen b65; have c3_5 := Boxed.cell BX5.out; have K5 := Aside0.mk ((K3.out.trans ((KeepsOthers.below (n := 0) hb).from _)).trans ((KeepsOthers.setCell W4 ⟨g3, 0, none⟩ (.slice A5 n5 c5_)).from _)); have KS5 : Aside0 (KeepS (InB w.heap.size gs) W (W4.setCell ⟨g3, 0, none⟩ (.slice A5 n5 c5_))) := ⟨(KS3.out.trans (KeepS.of_below hb (fun k hk => Nat.lt_of_lt_of_le (hS0 k hk) Z3.out))).trans (fun k hk => Below.heap_setCell _ ⟨g3, 0, none⟩ _ k (by have h3 := HG.out; show k ≠ g3; rcases hk with hk | hk <;> omega))⟩; have Z5 : Aside0 (W0.heap.size ≤ (W4.setCell ⟨g3, 0, none⟩ (.slice A5 n5 c5_)).heap.size) := ⟨by simp; exact Nat.le_trans Z3.out hb.size⟩; have BW5 := Aside0.mk ((below_step BW3.out hb).setCell (p := ⟨g3, 0, none⟩) le3 (.slice A5 n5 c5_)); have N5 := Aside0.mk hS5.hn; clear hb b34 b65 hno hS5; have h5 : decide ((4096 : Int) < (n5 : Int)) = true := decide_eq_true (by have := N5.out; have := H4.out; omega)))
              refine ⟨K5.out.trans ((KeepsOthers.setCell _ _ _).from _), rfl, HGO.out.trans ST.out, Boxed.set _ B65.out, BW5.out.setCell (p := ⟨g6, 0, none⟩) le6 _⟩
          · have ST := Aside0.mk (show stepT true tc y = none from if_neg (fun h => h3 h.2.2.1))
            have H3 := Aside0.mk (Bool.eq_false_iff.2 h3)
            have H2 := Aside0.mk h2
            clear h2 h3
            gi_wp2_with (first
                    | ((try refine ⟨trivial, ?_⟩); (try refine ⟨hdd_ _, ?_⟩); gi_at_call 20; (with_reducible refine (CallsIn.inRound lp (callsIn_wide.2 CI.out)).mono ?_); rintro e W1 ⟨p4, A4, n4, c4, B4, m4, d4, rfl, hV4, hb1⟩; have k0 := (hb1.cell (p := ⟨g8, 0, none⟩) hgl8).trans e0; have k1 := (hb1.cell (p := ⟨g8, 1, none⟩) hgl8).trans e1; have k2 := (hb1.cell (p := ⟨g8, 2, none⟩) hgl8).trans e2; have x81 := (hb1.block _ hgl8).trans HX8.out; have f0 := blk_frozen (j := 0) x81; have f1 := blk_frozen (j := 1) x81; have f2 := blk_frozen (j := 2) x81; have L2 := Aside0.mk (show n4 ≤ 5000 ∧ m4 ≤ 5000 from ⟨by have h1 := hV4.g.hn; have h2 := HV0.out.k.hn; have h3 : y.inv.gone = y.came := rfl; rw [h3] at h1; omega, by have h1 := hV4.k.hn; have h2 := HV0.out.g.hn; have h3 : y.inv.came = y.gone := rfl; rw [h3] at h1; omega⟩); have hfar : ∀ k, k < W1.heap.size → k ≠ g8 → (((W1.setCell ⟨g8, 0, none⟩ (Value.int .i64 p4)).setCell ⟨g8, 1, none⟩ (Value.slice A4 n4 c4)).setCell ⟨g8, 2, none⟩ (Value.slice B4 m4 d4)).heap[k]? = W1.heap[k]? := fun k _ hk => set3_far hk; have V2 : Aside0 (ChV (((W1.setCell ⟨g8, 0, none⟩ (Value.int .i64 p4)).setCell ⟨g8, 1, none⟩ (Value.slice A4 n4 c4)).setCell ⟨g8, 2, none⟩ (Value.slice B4 m4 d4)) p4 A4 n4 c4 B4 m4 d4 (y.way true)) := ⟨hV4.only (blk_noI x81 noI_ch) hfar⟩; have S2 : Aside0 (Sl (((W1.setCell ⟨g8, 0, none⟩ (Value.int .i64 p4)).setCell ⟨g8, 1, none⟩ (Value.slice A4 n4 c4)).setCell ⟨g8, 2, none⟩ (Value.slice B4 m4 d4)) A2 n2 c2 tc) := ⟨(HS.out.below hb1).only (blk_noI x81 noI_ch) hfar⟩; have BX2 : Aside0 (Boxed (((W1.setCell ⟨g8, 0, none⟩ (Value.int .i64 p4)).setCell ⟨g8, 1, none⟩ (Value.slice A4 n4 c4)).setCell ⟨g8, 2, none⟩ (Value.slice B4 m4 d4)) g3 31 (.slice A2 n2 c2)) := ⟨(set3_far n83).trans ((hb1.block _ HB3.out.lt).trans HB3.out)⟩; have B52 : Aside0 (Boxed (((W1.setCell ⟨g8, 0, none⟩ (Value.int .i64 p4)).setCell ⟨g8, 1, none⟩ (Value.slice A4 n4 c4)).setCell ⟨g8, 2, none⟩ (Value.slice B4 m4 d4)) g5 4 (.bool true)) := ⟨(set3_far n85).trans ((hb1.block _ HB5.out.lt).trans HB5.out)⟩; have B62 : Aside0 (Boxed (((W1.setCell ⟨g8, 0, none⟩ (Value.int .i64 p4)).setCell ⟨g8, 1, none⟩ (Value.slice A4 n4 c4)).setCell ⟨g8, 2, none⟩ (Value.slice B4 m4 d4)) g6 4 (.bool false)) := ⟨(set3_far n86).trans ((hb1.block _ HB6.out.lt).trans HB6.out)⟩; have X82 : Aside0 (Box8 g8 p4 A4 n4 c4 B4 m4 d4 (((W1.setCell ⟨g8, 0, none⟩ (Value.int .i64 p4)).setCell ⟨g8, 1, none⟩ (Value.slice A4 n4 c4)).setCell ⟨g8, 2, none⟩ (Value.slice B4 m4 d4))) := ⟨set3_blk x81⟩; have K2 : Aside0 (KeepsFrom W0.heap.size W (((W1.setCell ⟨g8, 0, none⟩ (Value.int .i64 p4)).setCell ⟨g8, 1, none⟩ (Value.slice A4 n4 c4)).setCell ⟨g8, 2, none⟩ (Value.slice B4 m4 d4))) := ⟨(KeepsOthers.below (n := 0) hb1).from _ |>.trans (((KeepsOthers.setCell _ _ _).from _).trans (((KeepsOthers.setCell _ _ _).from _).trans ((KeepsOthers.setCell _ _ _).from _)))⟩; have Z2 : Aside0 (W0.heap.size ≤ (((W1.setCell ⟨g8, 0, none⟩ (Value.int .i64 p4)).setCell ⟨g8, 1, none⟩ (Value.slice A4 n4 c4)).setCell ⟨g8, 2, none⟩ (Value.slice B4 m4 d4)).heap.size) := ⟨by simp; exact Nat.le_trans HSZ.out hb1.size⟩; have KS2 : Aside0 (KeepS (InB w.heap.size gs) W (((W1.setCell ⟨g8, 0, none⟩ (Value.int .i64 p4)).setCell ⟨g8, 1, none⟩ (Value.slice A4 n4 c4)).setCell ⟨g8, 2, none⟩ (Value.slice B4 m4 d4))) := ⟨fun k hk => by (have hk0 := hS0 k hk; have hks : k ≠ g8 := (by omega); exact (set3_far hks).trans (hb1.block _ (by have := HSZ.out; omega)))⟩; have BW2 : Aside0 (Below w.heap.size w (((W1.setCell ⟨g8, 0, none⟩ (Value.int .i64 p4)).setCell ⟨g8, 1, none⟩ (Value.slice A4 n4 c4)).setCell ⟨g8, 2, none⟩ (Value.slice B4 m4 d4))) := ⟨below_set3 le8 (below_step HBW.out hb1)⟩; have q0 := blk_cell (j := 0) X82.out; have q1 := blk_cell (j := 1) X82.out; have q2 := blk_cell (j := 2) X82.out; have c3_ := Boxed.cell BX2.out; have hz2 := BW2.out; clear hV4 hfar x81 hz2)
                    | ((try refine ⟨trivial, ?_⟩); (try refine ⟨hdd_ _, ?_⟩); gi_at_call 79; (with_reducible refine (CallsIn.inRound lp (callsIn_wide.2 (fits_q S2.out V2.out h1 (by omega) (by have := L2.out; omega)))).mono ?_); rintro e W3 ⟨rfl, hb⟩; have V3 := Aside0.mk (V2.out.below hb); have S3 := Aside0.mk (S2.out.below hb); have BX3 : Aside0 (Boxed W3 g3 31 (.slice A2 n2 c2)) := ⟨(hb.block _ BX2.out.lt).trans BX2.out⟩; have B53 : Aside0 (Boxed W3 g5 4 (.bool true)) := ⟨(hb.block _ B52.out.lt).trans B52.out⟩; have b63 : Boxed W3 g6 4 (.bool false) := (hb.block _ B62.out.lt).trans B62.out; have B63 := Aside0.mk b63; have c6_3 := Boxed.cell b63; have f6_3 := Boxed.frozen b63; have x83 := (hb.block _ (Array.getElem?_eq_some_iff.1 X82.out).1).trans X82.out; have y0_3 := blk_cell (j := 0) x83; have y1_3 := blk_cell (j := 1) x83; have y2_3 := blk_cell (j := 2) x83; have c3_3 := Boxed.cell BX3.out; have K3 := Aside0.mk (K2.out.trans ((KeepsOthers.below (n := 0) hb).from _)); have KS3 := Aside0.mk (KS2.out.trans (KeepS.of_below hb (fun k hk => Nat.lt_of_lt_of_le (hS0 k hk) Z2.out))); have Z3 := Aside0.mk (Nat.le_trans Z2.out hb.size); have BW3 := Aside0.mk (below_step BW2.out hb); clear hb b63 x83)
                    | ((try refine ⟨trivial, ?_⟩); (try refine ⟨hdd_ _, ?_⟩); gi_at_call 56; (with_reducible refine (CallsIn.inRound lp (callsIn_wide.2 (scalars_q V3.out.g H2.out (by have := L2.out; omega)))).mono ?_); rintro e w' ⟨rfl, rfl⟩)
                    | ((try refine ⟨trivial, ?_⟩); (try refine ⟨hdd_ _, ?_⟩); gi_at_call 56; (with_reducible refine (CallsIn.inRound lp (callsIn_wide.2 (scalars_q V3.out.k H3.out (by have := L2.out; omega)))).mono ?_); rintro e w' ⟨rfl, rfl⟩))
            refine ⟨K3.out.trans ((KeepsOthers.setCell _ _ _).from _), rfl, HGO.out.trans ST.out, Boxed.set _ B63.out, BW3.out.setCell (p := ⟨g6, 0, none⟩) le6 _⟩
        · have ST := Aside0.mk (show stepT true tc y = none from if_neg (fun h => h2 h.2.1))
          have H2 := Aside0.mk (Bool.eq_false_iff.2 h2)
          clear h2
          gi_wp2_with (first
                  | ((try refine ⟨trivial, ?_⟩); (try refine ⟨hdd_ _, ?_⟩); gi_at_call 20; (with_reducible refine (CallsIn.inRound lp (callsIn_wide.2 CI.out)).mono ?_); rintro e W1 ⟨p4, A4, n4, c4, B4, m4, d4, rfl, hV4, hb1⟩; have k0 := (hb1.cell (p := ⟨g8, 0, none⟩) hgl8).trans e0; have k1 := (hb1.cell (p := ⟨g8, 1, none⟩) hgl8).trans e1; have k2 := (hb1.cell (p := ⟨g8, 2, none⟩) hgl8).trans e2; have x81 := (hb1.block _ hgl8).trans HX8.out; have f0 := blk_frozen (j := 0) x81; have f1 := blk_frozen (j := 1) x81; have f2 := blk_frozen (j := 2) x81; have L2 := Aside0.mk (show n4 ≤ 5000 ∧ m4 ≤ 5000 from ⟨by have h1 := hV4.g.hn; have h2 := HV0.out.k.hn; have h3 : y.inv.gone = y.came := rfl; rw [h3] at h1; omega, by have h1 := hV4.k.hn; have h2 := HV0.out.g.hn; have h3 : y.inv.came = y.gone := rfl; rw [h3] at h1; omega⟩); have hfar : ∀ k, k < W1.heap.size → k ≠ g8 → (((W1.setCell ⟨g8, 0, none⟩ (Value.int .i64 p4)).setCell ⟨g8, 1, none⟩ (Value.slice A4 n4 c4)).setCell ⟨g8, 2, none⟩ (Value.slice B4 m4 d4)).heap[k]? = W1.heap[k]? := fun k _ hk => set3_far hk; have V2 : Aside0 (ChV (((W1.setCell ⟨g8, 0, none⟩ (Value.int .i64 p4)).setCell ⟨g8, 1, none⟩ (Value.slice A4 n4 c4)).setCell ⟨g8, 2, none⟩ (Value.slice B4 m4 d4)) p4 A4 n4 c4 B4 m4 d4 (y.way true)) := ⟨hV4.only (blk_noI x81 noI_ch) hfar⟩; have S2 : Aside0 (Sl (((W1.setCell ⟨g8, 0, none⟩ (Value.int .i64 p4)).setCell ⟨g8, 1, none⟩ (Value.slice A4 n4 c4)).setCell ⟨g8, 2, none⟩ (Value.slice B4 m4 d4)) A2 n2 c2 tc) := ⟨(HS.out.below hb1).only (blk_noI x81 noI_ch) hfar⟩; have BX2 : Aside0 (Boxed (((W1.setCell ⟨g8, 0, none⟩ (Value.int .i64 p4)).setCell ⟨g8, 1, none⟩ (Value.slice A4 n4 c4)).setCell ⟨g8, 2, none⟩ (Value.slice B4 m4 d4)) g3 31 (.slice A2 n2 c2)) := ⟨(set3_far n83).trans ((hb1.block _ HB3.out.lt).trans HB3.out)⟩; have B52 : Aside0 (Boxed (((W1.setCell ⟨g8, 0, none⟩ (Value.int .i64 p4)).setCell ⟨g8, 1, none⟩ (Value.slice A4 n4 c4)).setCell ⟨g8, 2, none⟩ (Value.slice B4 m4 d4)) g5 4 (.bool true)) := ⟨(set3_far n85).trans ((hb1.block _ HB5.out.lt).trans HB5.out)⟩; have B62 : Aside0 (Boxed (((W1.setCell ⟨g8, 0, none⟩ (Value.int .i64 p4)).setCell ⟨g8, 1, none⟩ (Value.slice A4 n4 c4)).setCell ⟨g8, 2, none⟩ (Value.slice B4 m4 d4)) g6 4 (.bool false)) := ⟨(set3_far n86).trans ((hb1.block _ HB6.out.lt).trans HB6.out)⟩; have X82 : Aside0 (Box8 g8 p4 A4 n4 c4 B4 m4 d4 (((W1.setCell ⟨g8, 0, none⟩ (Value.int .i64 p4)).setCell ⟨g8, 1, none⟩ (Value.slice A4 n4 c4)).setCell ⟨g8, 2, none⟩ (Value.slice B4 m4 d4))) := ⟨set3_blk x81⟩; have K2 : Aside0 (KeepsFrom W0.heap.size W (((W1.setCell ⟨g8, 0, none⟩ (Value.int .i64 p4)).setCell ⟨g8, 1, none⟩ (Value.slice A4 n4 c4)).setCell ⟨g8, 2, none⟩ (Value.slice B4 m4 d4))) := ⟨(KeepsOthers.below (n := 0) hb1).from _ |>.trans (((KeepsOthers.setCell _ _ _).from _).trans (((KeepsOthers.setCell _ _ _).from _).trans ((KeepsOthers.setCell _ _ _).from _)))⟩; have Z2 : Aside0 (W0.heap.size ≤ (((W1.setCell ⟨g8, 0, none⟩ (Value.int .i64 p4)).setCell ⟨g8, 1, none⟩ (Value.slice A4 n4 c4)).setCell ⟨g8, 2, none⟩ (Value.slice B4 m4 d4)).heap.size) := ⟨by simp; exact Nat.le_trans HSZ.out hb1.size⟩; have KS2 : Aside0 (KeepS (InB w.heap.size gs) W (((W1.setCell ⟨g8, 0, none⟩ (Value.int .i64 p4)).setCell ⟨g8, 1, none⟩ (Value.slice A4 n4 c4)).setCell ⟨g8, 2, none⟩ (Value.slice B4 m4 d4))) := ⟨fun k hk => by (have hk0 := hS0 k hk; have hks : k ≠ g8 := (by omega); exact (set3_far hks).trans (hb1.block _ (by have := HSZ.out; omega)))⟩; have BW2 : Aside0 (Below w.heap.size w (((W1.setCell ⟨g8, 0, none⟩ (Value.int .i64 p4)).setCell ⟨g8, 1, none⟩ (Value.slice A4 n4 c4)).setCell ⟨g8, 2, none⟩ (Value.slice B4 m4 d4))) := ⟨below_set3 le8 (below_step HBW.out hb1)⟩; have q0 := blk_cell (j := 0) X82.out; have q1 := blk_cell (j := 1) X82.out; have q2 := blk_cell (j := 2) X82.out; have c3_ := Boxed.cell BX2.out; have hz2 := BW2.out; clear hV4 hfar x81 hz2)
                  | ((try refine ⟨trivial, ?_⟩); (try refine ⟨hdd_ _, ?_⟩); gi_at_call 79; (with_reducible refine (CallsIn.inRound lp (callsIn_wide.2 (fits_q S2.out V2.out h1 (by omega) (by have := L2.out; omega)))).mono ?_); rintro e W3 ⟨rfl, hb⟩; have V3 := Aside0.mk (V2.out.below hb); have S3 := Aside0.mk (S2.out.below hb); have BX3 : Aside0 (Boxed W3 g3 31 (.slice A2 n2 c2)) := ⟨(hb.block _ BX2.out.lt).trans BX2.out⟩; have B53 : Aside0 (Boxed W3 g5 4 (.bool true)) := ⟨(hb.block _ B52.out.lt).trans B52.out⟩; have b63 : Boxed W3 g6 4 (.bool false) := (hb.block _ B62.out.lt).trans B62.out; have B63 := Aside0.mk b63; have c6_3 := Boxed.cell b63; have f6_3 := Boxed.frozen b63; have x83 := (hb.block _ (Array.getElem?_eq_some_iff.1 X82.out).1).trans X82.out; have y0_3 := blk_cell (j := 0) x83; have y1_3 := blk_cell (j := 1) x83; have y2_3 := blk_cell (j := 2) x83; have c3_3 := Boxed.cell BX3.out; have K3 := Aside0.mk (K2.out.trans ((KeepsOthers.below (n := 0) hb).from _)); have KS3 := Aside0.mk (KS2.out.trans (KeepS.of_below hb (fun k hk => Nat.lt_of_lt_of_le (hS0 k hk) Z2.out))); have Z3 := Aside0.mk (Nat.le_trans Z2.out hb.size); have BW3 := Aside0.mk (below_step BW2.out hb); clear hb b63 x83)
                  | ((try refine ⟨trivial, ?_⟩); (try refine ⟨hdd_ _, ?_⟩); gi_at_call 56; (with_reducible refine (CallsIn.inRound lp (callsIn_wide.2 (scalars_q V3.out.g H2.out (by have := L2.out; omega)))).mono ?_); rintro e w' ⟨rfl, rfl⟩))
          refine ⟨trivial, ?_⟩
          gi_wp2
          refine ⟨K3.out.trans ((KeepsOthers.setCell _ _ _).from _), rfl, HGO.out.trans ST.out, Boxed.set _ B63.out, BW3.out.setCell (p := ⟨g6, 0, none⟩) le6 _⟩
      · have ST := Aside0.mk (show stepT true tc y = none from if_neg (fun h => h1 h.1))
        have H1 := Aside0.mk (Bool.eq_false_iff.2 h1)
        clear h1
        gi_wp2_with (first
                | ((try refine ⟨trivial, ?_⟩); (try refine ⟨hdd_ _, ?_⟩); gi_at_call 20; (with_reducible refine (CallsIn.inRound lp (callsIn_wide.2 CI.out)).mono ?_); rintro e W1 ⟨p4, A4, n4, c4, B4, m4, d4, rfl, hV4, hb1⟩; have k0 := (hb1.cell (p := ⟨g8, 0, none⟩) hgl8).trans e0; have k1 := (hb1.cell (p := ⟨g8, 1, none⟩) hgl8).trans e1; have k2 := (hb1.cell (p := ⟨g8, 2, none⟩) hgl8).trans e2; have x81 := (hb1.block _ hgl8).trans HX8.out; have f0 := blk_frozen (j := 0) x81; have f1 := blk_frozen (j := 1) x81; have f2 := blk_frozen (j := 2) x81; have L2 := Aside0.mk (show n4 ≤ 5000 ∧ m4 ≤ 5000 from ⟨by have h1 := hV4.g.hn; have h2 := HV0.out.k.hn; have h3 : y.inv.gone = y.came := rfl; rw [h3] at h1; omega, by have h1 := hV4.k.hn; have h2 := HV0.out.g.hn; have h3 : y.inv.came = y.gone := rfl; rw [h3] at h1; omega⟩); have hfar : ∀ k, k < W1.heap.size → k ≠ g8 → (((W1.setCell ⟨g8, 0, none⟩ (Value.int .i64 p4)).setCell ⟨g8, 1, none⟩ (Value.slice A4 n4 c4)).setCell ⟨g8, 2, none⟩ (Value.slice B4 m4 d4)).heap[k]? = W1.heap[k]? := fun k _ hk => set3_far hk; have V2 : Aside0 (ChV (((W1.setCell ⟨g8, 0, none⟩ (Value.int .i64 p4)).setCell ⟨g8, 1, none⟩ (Value.slice A4 n4 c4)).setCell ⟨g8, 2, none⟩ (Value.slice B4 m4 d4)) p4 A4 n4 c4 B4 m4 d4 (y.way true)) := ⟨hV4.only (blk_noI x81 noI_ch) hfar⟩; have S2 : Aside0 (Sl (((W1.setCell ⟨g8, 0, none⟩ (Value.int .i64 p4)).setCell ⟨g8, 1, none⟩ (Value.slice A4 n4 c4)).setCell ⟨g8, 2, none⟩ (Value.slice B4 m4 d4)) A2 n2 c2 tc) := ⟨(HS.out.below hb1).only (blk_noI x81 noI_ch) hfar⟩; have BX2 : Aside0 (Boxed (((W1.setCell ⟨g8, 0, none⟩ (Value.int .i64 p4)).setCell ⟨g8, 1, none⟩ (Value.slice A4 n4 c4)).setCell ⟨g8, 2, none⟩ (Value.slice B4 m4 d4)) g3 31 (.slice A2 n2 c2)) := ⟨(set3_far n83).trans ((hb1.block _ HB3.out.lt).trans HB3.out)⟩; have B52 : Aside0 (Boxed (((W1.setCell ⟨g8, 0, none⟩ (Value.int .i64 p4)).setCell ⟨g8, 1, none⟩ (Value.slice A4 n4 c4)).setCell ⟨g8, 2, none⟩ (Value.slice B4 m4 d4)) g5 4 (.bool true)) := ⟨(set3_far n85).trans ((hb1.block _ HB5.out.lt).trans HB5.out)⟩; have B62 : Aside0 (Boxed (((W1.setCell ⟨g8, 0, none⟩ (Value.int .i64 p4)).setCell ⟨g8, 1, none⟩ (Value.slice A4 n4 c4)).setCell ⟨g8, 2, none⟩ (Value.slice B4 m4 d4)) g6 4 (.bool false)) := ⟨(set3_far n86).trans ((hb1.block _ HB6.out.lt).trans HB6.out)⟩; have X82 : Aside0 (Box8 g8 p4 A4 n4 c4 B4 m4 d4 (((W1.setCell ⟨g8, 0, none⟩ (Value.int .i64 p4)).setCell ⟨g8, 1, none⟩ (Value.slice A4 n4 c4)).setCell ⟨g8, 2, none⟩ (Value.slice B4 m4 d4))) := ⟨set3_blk x81⟩; have K2 : Aside0 (KeepsFrom W0.heap.size W (((W1.setCell ⟨g8, 0, none⟩ (Value.int .i64 p4)).setCell ⟨g8, 1, none⟩ (Value.slice A4 n4 c4)).setCell ⟨g8, 2, none⟩ (Value.slice B4 m4 d4))) := ⟨(KeepsOthers.below (n := 0) hb1).from _ |>.trans (((KeepsOthers.setCell _ _ _).from _).trans (((KeepsOthers.setCell _ _ _).from _).trans ((KeepsOthers.setCell _ _ _).from _)))⟩; have Z2 : Aside0 (W0.heap.size ≤ (((W1.setCell ⟨g8, 0, none⟩ (Value.int .i64 p4)).setCell ⟨g8, 1, none⟩ (Value.slice A4 n4 c4)).setCell ⟨g8, 2, none⟩ (Value.slice B4 m4 d4)).heap.size) := ⟨by simp; exact Nat.le_trans HSZ.out hb1.size⟩; have KS2 : Aside0 (KeepS (InB w.heap.size gs) W (((W1.setCell ⟨g8, 0, none⟩ (Value.int .i64 p4)).setCell ⟨g8, 1, none⟩ (Value.slice A4 n4 c4)).setCell ⟨g8, 2, none⟩ (Value.slice B4 m4 d4))) := ⟨fun k hk => by (have hk0 := hS0 k hk; have hks : k ≠ g8 := (by omega); exact (set3_far hks).trans (hb1.block _ (by have := HSZ.out; omega)))⟩; have BW2 : Aside0 (Below w.heap.size w (((W1.setCell ⟨g8, 0, none⟩ (Value.int .i64 p4)).setCell ⟨g8, 1, none⟩ (Value.slice A4 n4 c4)).setCell ⟨g8, 2, none⟩ (Value.slice B4 m4 d4))) := ⟨below_set3 le8 (below_step HBW.out hb1)⟩; have q0 := blk_cell (j := 0) X82.out; have q1 := blk_cell (j := 1) X82.out; have q2 := blk_cell (j := 2) X82.out; have c3_ := Boxed.cell BX2.out; have hz2 := BW2.out; clear hV4 hfar x81 hz2)
                | ((try refine ⟨trivial, ?_⟩); (try refine ⟨hdd_ _, ?_⟩); gi_at_call 79; (with_reducible refine (CallsIn.inRound lp (callsIn_wide.2 (fits_q S2.out V2.out H1.out (by omega) (by have := L2.out; omega)))).mono ?_); rintro e W3 ⟨rfl, hb⟩; have V3 := Aside0.mk (V2.out.below hb); have S3 := Aside0.mk (S2.out.below hb); have BX3 : Aside0 (Boxed W3 g3 31 (.slice A2 n2 c2)) := ⟨(hb.block _ BX2.out.lt).trans BX2.out⟩; have B53 : Aside0 (Boxed W3 g5 4 (.bool true)) := ⟨(hb.block _ B52.out.lt).trans B52.out⟩; have b63 : Boxed W3 g6 4 (.bool false) := (hb.block _ B62.out.lt).trans B62.out; have B63 := Aside0.mk b63; have c6_3 := Boxed.cell b63; have f6_3 := Boxed.frozen b63; have x83 := (hb.block _ (Array.getElem?_eq_some_iff.1 X82.out).1).trans X82.out; have y0_3 := blk_cell (j := 0) x83; have y1_3 := blk_cell (j := 1) x83; have y2_3 := blk_cell (j := 2) x83; have c3_3 := Boxed.cell BX3.out; have K3 := Aside0.mk (K2.out.trans ((KeepsOthers.below (n := 0) hb).from _)); have KS3 := Aside0.mk (KS2.out.trans (KeepS.of_below hb (fun k hk => Nat.lt_of_lt_of_le (hS0 k hk) Z2.out))); have Z3 := Aside0.mk (Nat.le_trans Z2.out hb.size); have BW3 := Aside0.mk (below_step BW2.out hb); clear hb b63 x83))
        refine ⟨trivial, ?_⟩
        gi_wp2
        refine ⟨trivial, ?_⟩
        gi_wp2
        refine ⟨K3.out.trans ((KeepsOthers.setCell _ _ _).from _), rfl, HGO.out.trans ST.out, Boxed.set _ B63.out, BW3.out.setCell (p := ⟨g6, 0, none⟩) le6 _⟩
  case stop =>
    rintro D cd pre W hD hpre ⟨rfl, hx, hb6, hB⟩ hK
    have hfin : goesT back text ((dn n1 (Nat.le_refl n1)).map fun j => xs j.1) = none := goesT_prefix (hpre.map _) hx
    have HM : Marks w.heap.size W [{ target := .collected D, args := #[] }] := ⟨⟨D, rfl, by omega, hK, fun D' hD' => by cases hD'⟩, trivial⟩
    gi_wp2
    refine marks_leave (b := w.heap.size) (Φ := fun W => Below w.heap.size w W ∧ Boxed W g6 4 (.bool false)) ?_ ?_ _ _ HM ⟨hB, hb6⟩
    · exact fun W D h hD hd => ⟨h.1.trans (belowK_b (w := w) (Nat.le_refl _) W D _ _ hD hd rfl rfl), Boxed.putObj h.2 hd rfl⟩
    · intro W h
      have hc := Boxed.cell h.2
      exact ⟨.bool false, by simp [results, Tryd.results57, go_sem, hc], by rw [hfin]; rfl, h.1⟩
  case done =>
    rintro D ys W hD rfl ⟨⟨A2, n2, c2, tc, hgo, _, _, _⟩, _, hb6, _, hB⟩ hK
    have HM : Marks w.heap.size W [{ target := .collected D, args := #[] }] := ⟨⟨D, rfl, by omega, hK, fun D' hD' => by cases hD'⟩, trivial⟩
    have hc6 := Boxed.cell hb6
    have hf6 := Boxed.frozen hb6
    have hle6 : w.heap.size ≤ g6 := by have := HG.out; omega
    have hf6s := Boxed.set (.bool true) hb6
    have hBs := hB.setCell (p := ⟨g6, 0, none⟩) hle6 (.bool true)
    have HMs := HM.box hb6 (.bool true)
    gi_wp2
    refine marks_leave (b := w.heap.size) (Φ := fun W => Below w.heap.size w W ∧ Boxed W g6 4 (.bool true)) ?_ ?_ _ _ HMs ⟨hBs, hf6s⟩
    · exact fun W D h hD hd => ⟨h.1.trans (belowK_b (w := w) (Nat.le_refl _) W D _ _ hD hd rfl rfl), Boxed.putObj h.2 hd rfl⟩
    · intro W h
      have hc := Boxed.cell h.2
      exact ⟨.bool true, by simp [results, Tryd.results57, go_sem, hc], by rw [hgo]; rfl, h.1⟩
end Go.Proofs.YtenjldfflkinkaaDoor.Rop

namespace Go.Proofs.YtenjldfflkinkaaDoor.Rop
set_option linter.unusedVariables false
set_option linter.unusedSimpArgs false
open Go.RowKit Go.Proofs.YtenjldfflkinkaaDoor.F Go.Proofs.YtenjldfflkinkaaDoorW.PrintWords Go.Proofs.YtenjldfflkinkaaDoorW.PrintLast Go.Proofs.YtenjldfflkinkaaDoorW.PrintMore
set_option linter.unusedSectionVars false
variable [Coe Unit Nat]
theorem goes_q {w : World} {A A1 : Option Addr} {n c n1 c1 : Nat} {text : List Int} {vs : Nat → CV} {xs : Nat → Ch} {back b : Bool} (h : Sl w A n c text) (hR : Rc w A1 n1 c1 vs xs) (hq : (goesT back text ((dn n1 (Nat.le_refl n1)).map fun j => xs j.1)).isSome = b) (hn : n ≤ 4096) (hn1 : n1 ≤ 1000) (hv : ∀ i, i < n1 → (vs i).n ≤ 5000 ∧ (vs i).m ≤ 5000) :
    Calls Tryd.prog 57 #[.slice A n c, .slice A1 n1 c1, .bool back] w fun e w' => e = .returned (.bool b) ∧ Below w.heap.size w w' := by
  rw [← hq]
  exact goes_calls h hR hn hn1 hv
/-- a state: its values .. -/
structure SV where
  A : Option Addr
  n : Nat
  c : Nat
  A1 : Option Addr
  n1 : Nat
  c1 : Nat
  A2 : Option Addr
  n2 : Nat
  c2 : Nat
  v1 : Nat → CV
  v2 : Nat → CV
def SV.val (v : SV) : Value := .agg #[.slice v.A v.n v.c, .slice v.A1 v.n1 v.c1, .slice v.A2 v.n2 v.c2]
/-- .. and what they tell -/
structure SP where
  text : List Int
  x1 : Nat → Ch
  x2 : Nat → Ch
structure StOk (W : World) (v : SV) (s : SP) : Prop where
  t : Sl W v.A v.n v.c s.text
  u : Rc W v.A1 v.n1 v.c1 v.v1 s.x1
  r : Rc W v.A2 v.n2 v.c2 v.v2 s.x2
  bn : v.n ≤ 5000
  b1 : v.n1 ≤ 1000
  b2 : v.n2 ≤ 1000
  s1 : ∀ i, i < v.n1 → (v.v1 i).n ≤ 5000 ∧ (v.v1 i).m ≤ 5000
  s2 : ∀ i, i < v.n2 → (v.v2 i).n ≤ 5000 ∧ (v.v2 i).m ≤ 5000
theorem StOk.below {W W' : World} {v : SV} {s : SP} (h : StOk W v s) (hb : Below W.heap.size W W') : StOk W' v s := ⟨h.t.below hb, h.u.below hb, h.r.below hb, h.bn, h.b1, h.b2, h.s1, h.s2⟩
/-- what is wrong with a state -/
def rightE (v : SV) (s : SP) : Int :=
  if 4096 < v.n ∨ 16 < v.n1 ∨ 16 < v.n1 + v.n2 then 3 else if s.text.all scl = false then 11 else
  if (goesT true s.text ((dn v.n1 (Nat.le_refl _)).map fun j => s.x1 j.1)).isSome = false ∨ (goesT false s.text ((dn v.n2 (Nat.le_refl _)).map fun j => s.x2 j.1)).isSome = false then 50 else 0
section
variable {w : World} {v : SV} {s : SP}

set_option maxRecDepth 100000 in
set_option maxHeartbeats 4000000 in
theorem Right_calls (h : StOk w v s) : Calls Tryd.prog 22 #[v.val] w fun e w' => e = .returned (.int .i64 (rightE v s)) ∧ Below w.heap.size w w' := by
  obtain ⟨A, n, c, A1, n1, c1, A2, n2, c2, v1, v2⟩ := v
  dsimp only [SV.val]
  have ht := h.t
  have hu := h.u
  have hr := h.r
  have bn := h.bn
  have b1 := h.b1
  have b2 := h.b2
  have s1 := h.s1
  have s2 := h.s2
  clear h
  dsimp only at ht hu hr bn b1 b2 s1 s2
  obtain ⟨D, hD⟩ : ∃ D, w.alloc (Obj.cells #[Value.slice A n c, Value.slice A1 n1 c1, Value.slice A2 n2 c2] 34) = D := ⟨_, rfl⟩
  have m0 : D.cell? ⟨w.heap.size, 0, none⟩ = some (.slice A n c) := by rw [← hD, new_cell]; rfl
  have m1 : D.cell? ⟨w.heap.size, 1, none⟩ = some (.slice A1 n1 c1) := by rw [← hD, new_cell]; rfl
  have m2 : D.cell? ⟨w.heap.size, 2, none⟩ = some (.slice A2 n2 c2) := by rw [← hD, new_cell]; rfl
  have hbd : Below w.heap.size w D := by rw [← hD]; exact (Below.refl _ _).alloc (Nat.le_refl _) _
  have HBD := Aside0.mk hbd
  have HD := Aside0.mk hD
  have HT := Aside0.mk ht
  have HU := Aside0.mk hu
  have HRr := Aside0.mk hr
  have S1 := Aside0.mk s1
  have S2 := Aside0.mk s2
  have hgl : w.heap.size < D.heap.size := World.block_lt_of_cell? D _ m0
  clear hbd ht hu hr s1 s2 hD
  unfold rightE
  dsimp only
  by_cases h1 : 4096 < n
  · rw [if_pos (.inl h1)]
    have d1 : decide ((4096 : Int) < (n : Int)) = true := decide_eq_true (by omega)
    have d1' : (4096 : Int) < (n : Int) := by omega
    go_enter Tryd.func22, Tryd.ntmps22
    go_wp2
    go_ret
    exact ⟨rfl, (Below.refl _ _).alloc (Nat.le_refl _) _⟩
  have d1 : ¬ (4096 : Int) < (n : Int) := by omega
  by_cases h2 : 16 < n1
  · rw [if_pos (.inr (.inl h2))]
    have d2 : decide ((16 : Int) < (n1 : Int)) = true := decide_eq_true (by omega)
    go_enter Tryd.func22, Tryd.ntmps22
    go_wp2
    go_ret
    exact ⟨rfl, (Below.refl _ _).alloc (Nat.le_refl _) _⟩
  have d2 : decide ((16 : Int) < (n1 : Int)) = false := decide_eq_false (by omega)
  have hsub : IntKind.i64.wrap (16 - (n1 : Int)) = 16 - (n1 : Int) := wrap_small (by omega)
  have hn1b : (n1 : Int) ≤ 16 := by omega
  by_cases h3 : 16 < n1 + n2
  · rw [if_pos (.inr (.inr h3))]
    have d3 : decide (16 - (n1 : Int) < (n2 : Int)) = true := decide_eq_true (by omega)
    go_enter Tryd.func22, Tryd.ntmps22
    go_wp2
    go_ret
    exact ⟨rfl, (Below.refl _ _).alloc (Nat.le_refl _) _⟩
  have d3 : decide (16 - (n1 : Int) < (n2 : Int)) = false := decide_eq_false (by omega)
  rw [if_neg (by omega)]
  have hn4 : n ≤ 4096 := by omega
  by_cases h4 : s.text.all scl = false
  · rw [if_pos h4]
    have CS := Aside0.mk (fun W (hW : Below w.heap.size w W) => scalars_q (HT.out.below hW) h4 (by omega))
    clear h4
    go_enter Tryd.func22, Tryd.ntmps22
    go_wp2_with (go_at_call 56; (with_reducible refine (CS.out _ ((Below.refl _ _).alloc (Nat.le_refl _) _)).mono ?_); rintro e w' ⟨rfl, rfl⟩)
    go_ret
    exact ⟨rfl, (Below.refl _ _).alloc (Nat.le_refl _) _⟩
  rw [if_neg h4]
  have h4' : s.text.all scl = true := by simpa using h4
  have CS := Aside0.mk (fun W (hW : Below w.heap.size w W) => scalars_q (HT.out.below hW) h4' (by omega))
  clear h4 h4'
  by_cases h5 : (goesT true s.text ((dn n1 (Nat.le_refl _)).map fun j => s.x1 j.1)).isSome = false
  · rw [if_pos (.inl h5)]
    have CG := Aside0.mk (fun W (hW : Below w.heap.size w W) => goes_q (HT.out.below hW) (HU.out.below hW) h5 hn4 b1 S1.out)
    clear h5
    go_enter Tryd.func22, Tryd.ntmps22
    go_wp2_with (first
      | (go_at_call 56; (with_reducible refine (CS.out _ ((Below.refl _ _).alloc (Nat.le_refl _) _)).mono ?_); rintro e w' ⟨rfl, rfl⟩)
      | (go_at_call 57; (with_reducible refine (CG.out _ ((Below.refl _ _).alloc (Nat.le_refl _) _)).mono ?_); rintro e w1 ⟨rfl, hb⟩))
    go_ret
    exact ⟨rfl, below_step ((Below.refl _ _).alloc (Nat.le_refl _) _) hb⟩
  have h5' : (goesT true s.text ((dn n1 (Nat.le_refl _)).map fun j => s.x1 j.1)).isSome = true := by rw [Bool.not_eq_false] at h5; exact h5
  have CG := Aside0.mk (fun W (hW : Below w.heap.size w W) => goes_q (HT.out.below hW) (HU.out.below hW) h5' hn4 b1 S1.out)
  obtain ⟨q, hq⟩ : ∃ q, (goesT false s.text ((dn n2 (Nat.le_refl _)).map fun j => s.x2 j.1)).isSome = q := ⟨_, rfl⟩
  rw [hq]
  have CH := Aside0.mk (fun W (hW : Below w.heap.size w W) => goes_q (HT.out.below hW) (HRr.out.below hW) hq hn4 b2 S2.out)
  have hcl : ∀ W1, Below (w.alloc (Obj.cells #[Value.slice A n c, Value.slice A1 n1 c1, Value.slice A2 n2 c2] 34)).heap.size (w.alloc (Obj.cells #[Value.slice A n c, Value.slice A1 n1 c1, Value.slice A2 n2 c2] 34)) W1 → W1.cell? ⟨w.heap.size, 0, none⟩ = some (.slice A n c) ∧ W1.cell? ⟨w.heap.size, 2, none⟩ = some (.slice A2 n2 c2) := fun W1 hb => by
    rw [HD.out] at hb
    exact ⟨(hb.cell (p := ⟨w.heap.size, 0, none⟩) hgl).trans m0, (hb.cell (p := ⟨w.heap.size, 2, none⟩) hgl).trans m2⟩
  have HCL := Aside0.mk hcl
  cases q
  case false =>
    rw [if_pos (.inr rfl)]
    clear h5 h5' hq hcl m0 m1 m2 hgl
    go_enter Tryd.func22, Tryd.ntmps22
    go_wp2_with (first
      | (go_at_call 56; (with_reducible refine (CS.out _ ((Below.refl _ _).alloc (Nat.le_refl _) _)).mono ?_); rintro e w' ⟨rfl, rfl⟩)
      | (go_at_call 57; (with_reducible refine (CG.out _ ((Below.refl _ _).alloc (Nat.le_refl _) _)).mono ?_); rintro e w1 ⟨rfl, hb⟩; obtain ⟨k0, k2⟩ := HCL.out _ hb; have bt := below_step ((Below.refl _ _).alloc (Nat.le_refl _) _) hb; have BT := Aside0.mk bt; clear bt hb)
      | (go_at_call 57; (with_reducible refine (CH.out _ BT.out).mono ?_); rintro e w2 ⟨rfl, hb2⟩))
    go_ret
    exact ⟨rfl, below_step BT.out hb2⟩
  case true =>
    rw [if_neg (by rw [h5']; simp)]
    clear h5 h5' hq hcl m0 m1 m2 hgl
    go_enter Tryd.func22, Tryd.ntmps22
    go_wp2_with (first
      | (go_at_call 56; (with_reducible refine (CS.out _ ((Below.refl _ _).alloc (Nat.le_refl _) _)).mono ?_); rintro e w' ⟨rfl, rfl⟩)
      | (go_at_call 57; (with_reducible refine (CG.out _ ((Below.refl _ _).alloc (Nat.le_refl _) _)).mono ?_); rintro e w1 ⟨rfl, hb⟩; obtain ⟨k0, k2⟩ := HCL.out _ hb; have bt := below_step ((Below.refl _ _).alloc (Nat.le_refl _) _) hb; have BT := Aside0.mk bt; clear bt hb)
      | (go_at_call 57; (with_reducible refine (CH.out _ BT.out).mono ?_); rintro e w2 ⟨rfl, hb2⟩))
    go_ret
    exact ⟨rfl, below_step BT.out hb2⟩
end
end Go.Proofs.YtenjldfflkinkaaDoor.Rop

namespace Go.Proofs.YtenjldfflkinkaaDoor.Rop
set_option linter.unusedVariables false
set_option linter.unusedSimpArgs false
open Go.RowKit Go.Proofs.YtenjldfflkinkaaDoor.F Go.Proofs.YtenjldfflkinkaaDoorW.PrintWords Go.Proofs.YtenjldfflkinkaaDoorW.PrintLast Go.Proofs.YtenjldfflkinkaaDoorW.PrintMore
set_option linter.unusedSectionVars false
variable [Coe Unit Nat]
def Ch.zero : Ch := ⟨0, [], []⟩
theorem ChV.zero (W : World) : ChV W 0 none 0 0 none 0 0 Ch.zero := ⟨rfl, Sl.nil W, Sl.nil W⟩
/-- a change and what is wrong -/
def GivesCE (x : Ch) (q : Int) (w : World) (e : Ending) (w' : World) : Prop := ∃ p A n c B m d, e = .returned (.tuple #[.agg #[.int .i64 p, .slice A n c, .slice B m d], .int .i64 q]) ∧ ChV w' p A n c B m d x ∧ Below w.heap.size w w'
/-- what an insertion does -/
def insE (text : List Int) (a : Int) (z : List Int) : Ch × Int :=
  if z.length = 0 then (Ch.zero, 2) else if z.all scl = false then (Ch.zero, 11) else if a < 0 ∨ (text.length : Int) < a then (Ch.zero, 4) else if 4096 < z.length + text.length then (Ch.zero, 3) else (⟨a, [], z⟩, 0)
/-- what a deletion does -/
def remE (text : List Int) (a b : Int) : Ch × Int :=
  if a < 0 ∨ (text.length : Int) < b ∨ b < a then (Ch.zero, 4) else if a = b then (Ch.zero, 2) else (⟨a, (text.drop a.toNat).take (b.toNat - a.toNat), []⟩, 0)
section
variable {w : World} {A Az : Option Addr} {n c nz cz : Nat} {text z : List Int} {k a b : Int}

set_option maxRecDepth 100000 in
set_option maxHeartbeats 4000000 in
theorem insert_calls (h : Sl w A n c text) (hz : Sl w Az nz cz z) (hn : n ≤ 5000) (hnz : nz ≤ 5000) : Calls Tryd.prog 52 #[.slice A n c, .agg #[.int .i64 k, .int .i64 a, .int .i64 b, .slice Az nz cz]] w (GivesCE (insE text a z).1 (insE text a z).2 w) := by
  have HZZ := Aside0.mk hz
  unfold insE
  rw [hz.hn, h.hn]
  have hzn := hz.hn
  clear h hz
  by_cases h1 : nz = 0
  · rw [if_pos h1]
    subst h1
    go_enter Tryd.func52, Tryd.ntmps52
    go_wp2
    refine bodyPost_ret (v := .tuple #[.agg #[.int .i64 0, .slice none 0 0, .slice none 0 0], .int .i64 2]) (by simp [results, Tryd.results52, go_sem]) rfl ?_
    exact ⟨0, none, 0, 0, none, 0, 0, rfl, ChV.zero _, by (repeat (first | exact Below.refl _ _ | apply below_alloc))⟩
  rw [if_neg h1]
  have d1 : ((nz : Int) == 0) = false := by simp; omega
  by_cases h2 : z.all scl = false
  · rw [if_pos h2]
    have CS := Aside0.mk (fun W (hW : Below w.heap.size w W) => scalars_q (HZZ.out.below hW) h2 (by omega))
    clear h2
    go_enter Tryd.func52, Tryd.ntmps52
    go_wp2_with (go_at_call 56; (with_reducible refine (CS.out _ (by (repeat (first | exact Below.refl _ _ | apply below_alloc)))).mono ?_); rintro e w' ⟨rfl, rfl⟩)
    refine bodyPost_ret (v := .tuple #[.agg #[.int .i64 0, .slice none 0 0, .slice none 0 0], .int .i64 11]) (by simp [results, Tryd.results52, go_sem]) rfl ?_
    exact ⟨0, none, 0, 0, none, 0, 0, rfl, ChV.zero _, by (repeat (first | exact Below.refl _ _ | apply below_alloc))⟩
  rw [if_neg h2]
  have h2' : z.all scl = true := by rw [Bool.not_eq_false] at h2; exact h2
  have CS := Aside0.mk (fun W (hW : Below w.heap.size w W) => scalars_q (HZZ.out.below hW) h2' (by omega))
  clear h2 h2'
  by_cases h3 : a < 0 ∨ (n : Int) < a
  · rw [if_pos h3]
    by_cases h4 : a < 0
    · have d4 : decide (a < 0) = true := decide_eq_true h4
      clear h3
      go_enter Tryd.func52, Tryd.ntmps52
      go_wp2_with (go_at_call 56; (with_reducible refine (CS.out _ (by (repeat (first | exact Below.refl _ _ | apply below_alloc)))).mono ?_); rintro e w' ⟨rfl, rfl⟩)
      refine bodyPost_ret (v := .tuple #[.agg #[.int .i64 0, .slice none 0 0, .slice none 0 0], .int .i64 4]) (by simp [results, Tryd.results52, go_sem]) rfl ?_
      exact ⟨0, none, 0, 0, none, 0, 0, rfl, ChV.zero _, by (repeat (first | exact Below.refl _ _ | apply below_alloc))⟩
    · have d4 : decide (a < 0) = false := decide_eq_false h4
      have d5 : decide ((n : Int) < a) = true := decide_eq_true (by omega)
      clear h3
      go_enter Tryd.func52, Tryd.ntmps52
      go_wp2_with (go_at_call 56; (with_reducible refine (CS.out _ (by (repeat (first | exact Below.refl _ _ | apply below_alloc)))).mono ?_); rintro e w' ⟨rfl, rfl⟩)
      refine bodyPost_ret (v := .tuple #[.agg #[.int .i64 0, .slice none 0 0, .slice none 0 0], .int .i64 4]) (by simp [results, Tryd.results52, go_sem]) rfl ?_
      exact ⟨0, none, 0, 0, none, 0, 0, rfl, ChV.zero _, by (repeat (first | exact Below.refl _ _ | apply below_alloc))⟩
  rw [if_neg h3]
  have d4 : decide (a < 0) = false := decide_eq_false (by omega)
  have d5 : decide ((n : Int) < a) = false := decide_eq_false (by omega)
  have hsub : IntKind.i64.wrap (4096 - (n : Int)) = 4096 - (n : Int) := wrap_small (by omega)
  have hnb : (n : Int) ≤ 5000 := by omega
  by_cases h6 : 4096 < nz + n
  · rw [if_pos h6]
    have d6 : decide (4096 - (n : Int) < (nz : Int)) = true := decide_eq_true (by omega)
    go_enter Tryd.func52, Tryd.ntmps52
    go_wp2_with (go_at_call 56; (with_reducible refine (CS.out _ (by (repeat (first | exact Below.refl _ _ | apply below_alloc)))).mono ?_); rintro e w' ⟨rfl, rfl⟩)
    refine bodyPost_ret (v := .tuple #[.agg #[.int .i64 0, .slice none 0 0, .slice none 0 0], .int .i64 3]) (by simp [results, Tryd.results52, go_sem]) rfl ?_
    exact ⟨0, none, 0, 0, none, 0, 0, rfl, ChV.zero _, by (repeat (first | exact Below.refl _ _ | apply below_alloc))⟩
  rw [if_neg h6]
  have d6 : decide (4096 - (n : Int) < (nz : Int)) = false := decide_eq_false (by omega)
  clear h3 h6 h1
  go_enter Tryd.func52, Tryd.ntmps52
  go_wp2_with (go_at_call 56; (with_reducible refine (CS.out _ (by (repeat (first | exact Below.refl _ _ | apply below_alloc)))).mono ?_); rintro e w' ⟨rfl, rfl⟩)
  obtain ⟨D1, hD1⟩ : ∃ D1, w.alloc (Obj.cells #[Value.int IntKind.i64 k, Value.int IntKind.i64 a, Value.int IntKind.i64 b, Value.slice Az nz cz] 37) = D1 := ⟨_, rfl⟩
  have m0 : D1.cell? ⟨w.heap.size, 0, none⟩ = some (.int IntKind.i64 k) := by rw [← hD1, new_cell]; rfl
  have m1 : D1.cell? ⟨w.heap.size, 1, none⟩ = some (.int IntKind.i64 a) := by rw [← hD1, new_cell]; rfl
  have m2 : D1.cell? ⟨w.heap.size, 2, none⟩ = some (.int IntKind.i64 b) := by rw [← hD1, new_cell]; rfl
  have m3 : D1.cell? ⟨w.heap.size, 3, none⟩ = some (.slice Az nz cz) := by rw [← hD1, new_cell]; rfl
  have hz1 : D1.heap.size = w.heap.size + 1 := by rw [← hD1]; simp
  have hb1 : Below w.heap.size w D1 := by rw [← hD1]; exact (Below.refl _ _).alloc (Nat.le_refl _) _
  rw [hD1]
  obtain ⟨D2, hD2⟩ : ∃ D2, D1.alloc (Obj.cells #[Value.int IntKind.i64 0, Value.slice none 0 0, Value.slice none 0 0] 68) = D2 := ⟨_, rfl⟩
  have hb2 : Below D1.heap.size D1 D2 := by rw [← hD2]; exact (Below.refl _ _).alloc (Nat.le_refl _) _
  have z0 : D2.heap[w.heap.size + 1]? = some (.cells #[Value.int IntKind.i64 0, Value.slice none 0 0, Value.slice none 0 0] 68 (0, 0)) := by rw [← hD2, ← hz1]; exact World.alloc_heap_new D1 _
  have hz2 : D2.heap.size = w.heap.size + 2 := by rw [← hD2, World.size_alloc, hz1]
  rw [hD2]
  replace m0 := (hb2.cell (p := ⟨w.heap.size, 0, none⟩) (by rw [hz1]; exact Nat.lt_succ_self _)).trans m0
  replace m1 := (hb2.cell (p := ⟨w.heap.size, 1, none⟩) (by rw [hz1]; exact Nat.lt_succ_self _)).trans m1
  replace m2 := (hb2.cell (p := ⟨w.heap.size, 2, none⟩) (by rw [hz1]; exact Nat.lt_succ_self _)).trans m2
  replace m3 := (hb2.cell (p := ⟨w.heap.size, 3, none⟩) (by rw [hz1]; exact Nat.lt_succ_self _)).trans m3
  have HBD := Aside0.mk (below_step hb1 hb2)
  have h1l : w.heap.size < D2.heap.size := by omega
  have h2l : w.heap.size + 1 < D2.heap.size := by omega
  clear hz2 hD1 hD2 hz1 hb1 hb2
  obtain ⟨h, hh⟩ : ∃ h, w.heap.size + 1 = h := ⟨_, rfl⟩
  have hgh : w.heap.size ≤ h := by omega
  rw [hh] at z0 h2l ⊢
  have HZ := Aside0.mk z0
  have y0 : D2.cell? ⟨h, 0, none⟩ = some (.int .i64 0) := blk_cell z0
  have y1 : D2.cell? ⟨h, 1, none⟩ = some (.slice none 0 0) := blk_cell z0
  have y2 : D2.cell? ⟨h, 2, none⟩ = some (.slice none 0 0) := blk_cell z0
  have f0 : D2.frozen? ⟨h, 0, none⟩ = false := blk_frozen z0
  have f1 : D2.frozen? ⟨h, 1, none⟩ = false := blk_frozen z0
  have f2 : D2.frozen? ⟨h, 2, none⟩ = false := blk_frozen z0
  clear z0
  obtain ⟨g, hg⟩ : ∃ g, w.heap.size = g := ⟨_, rfl⟩
  have hle : w.heap.size ≤ h := by omega
  have hgne : g ≠ h := by omega
  rw [hg] at m0 m1 m2 m3 h1l hgh ⊢
  clear hg hh
  have X2 := Aside0.mk (HZZ.out.below HBD.out)
  go_region_held3 (fun W' => W'.cell? ⟨g, 1, none⟩ = some (.int .i64 a) ∧ W'.cell? ⟨g, 3, none⟩ = some (.slice Az nz cz) ∧ Below w.heap.size w W')
    (((try dsimp only); (repeat' apply And.intro); all_goals (first | assumption | exact HBD.out | exact below_drew1 HBD.out | exact (cell_far3 hgne).trans (by assumption) | exact below_set3 hle (by assumption) | exact Below.refl _ _ | exact below_drew1 (Below.refl _ _) | exact below_drew1 (pw_below_drewN (Below.refl _ _) _) | exact below_drew1 (by assumption) | exact below_step (by assumption) (by assumption) | go_keep)))
    (first | (go_at_call 55; (with_reducible refine (Clone_calls (X2.out.below (by (first | assumption | exact Below.refl _ _ | exact pw_below_drewN (Below.refl _ _) _ | exact below_drew1 (pw_below_drewN (Below.refl _ _) _) | exact below_drew1 (Below.refl _ _) | exact pw_below_drewN (by assumption) _ | exact below_drew1 (by assumption)))) (by omega)).mono ?_); rintro e w3 ⟨A3, n3, c3, rfl, hS3, hb⟩; have bt3 := below_step (w := D2) (by (first | assumption | exact Below.refl _ _ | exact pw_below_drewN (Below.refl _ _) _ | exact below_drew1 (pw_below_drewN (Below.refl _ _) _) | exact below_drew1 (Below.refl _ _) | exact pw_below_drewN (by assumption) _ | exact below_drew1 (by assumption))) hb; have m0_3 := (bt3.cell (p := ⟨g, 0, none⟩) h1l).trans m0; have m1_3 := (bt3.cell (p := ⟨g, 1, none⟩) h1l).trans m1; have m2_3 := (bt3.cell (p := ⟨g, 2, none⟩) h1l).trans m2; have m3_3 := (bt3.cell (p := ⟨g, 3, none⟩) h1l).trans m3; have y0_3 := (bt3.cell (p := ⟨h, 0, none⟩) h2l).trans y0; have f0_3 := (bt3.frozen (p := ⟨h, 0, none⟩) h2l).trans f0; have y1_3 := (bt3.cell (p := ⟨h, 1, none⟩) h2l).trans y1; have f1_3 := (bt3.frozen (p := ⟨h, 1, none⟩) h2l).trans f1; have y2_3 := (bt3.cell (p := ⟨h, 2, none⟩) h2l).trans y2; have f2_3 := (bt3.frozen (p := ⟨h, 2, none⟩) h2l).trans f2; have bw3 := below_step HBD.out bt3; have S3 := Aside0.mk hS3; clear hS3 hb))
  have hno := blk_noI ((bt3.block _ h2l).trans HZ.out) noI_ch
  obtain ⟨c0, c1, c2⟩ := set3_get (a := Value.int .i64 a) (b := Value.slice none 0 0) (c := Value.slice A3 n3 c3) y0_3 y1_3 y2_3
  have hb5 := below_set3 (a := Value.int .i64 a) (b := Value.slice none 0 0) (c := Value.slice A3 n3 c3) hle bw3
  have S5 := S3.out.only hno (fun k _ hk => set3_far (a := Value.int .i64 a) (b := Value.slice none 0 0) (c := Value.slice A3 n3 c3) hk)
  generalize ((w3.setCell ⟨h, 0, none⟩ (Value.int .i64 a)).setCell ⟨h, 1, none⟩ (Value.slice none 0 0)).setCell ⟨h, 2, none⟩ (Value.slice A3 n3 c3) = W5 at c0 c1 c2 hb5 S5 ⊢
  go_wp2
  refine bodyPost_ret (v := .tuple #[.agg #[.int .i64 a, .slice none 0 0, .slice A3 n3 c3], .int .i64 0]) (by simp [results, Tryd.results52, go_sem, c0, c1, c2]) rfl ?_
  exact ⟨a, none, 0, 0, A3, n3, c3, rfl, ⟨rfl, Sl.nil _, S5⟩, hb5⟩
set_option maxRecDepth 100000 in
set_option maxHeartbeats 4000000 in
theorem remove_calls (h : Sl w A n c text) (hn : n ≤ 5000) : Calls Tryd.prog 53 #[.slice A n c, .agg #[.int .i64 k, .int .i64 a, .int .i64 b, .slice Az nz cz]] w (GivesCE (remE text a b).1 (remE text a b).2 w) := by
  unfold remE
  rw [h.hn]
  by_cases h1 : a < 0 ∨ (n : Int) < b ∨ b < a
  · rw [if_pos h1]
    clear h
    by_cases h4 : a < 0
    · have d4 : decide (a < 0) = true := decide_eq_true h4
      clear h1
      go_enter Tryd.func53, Tryd.ntmps53
      go_wp2
      refine bodyPost_ret (v := .tuple #[.agg #[.int .i64 0, .slice none 0 0, .slice none 0 0], .int .i64 4]) (by simp [results, Tryd.results53, go_sem]) rfl ?_
      exact ⟨0, none, 0, 0, none, 0, 0, rfl, ChV.zero _, by (repeat (first | exact Below.refl _ _ | apply below_alloc))⟩
    have d4 : decide (a < 0) = false := decide_eq_false h4
    by_cases h5 : (n : Int) < b
    · have d5 : decide ((n : Int) < b) = true := decide_eq_true h5
      clear h1
      go_enter Tryd.func53, Tryd.ntmps53
      go_wp2
      refine bodyPost_ret (v := .tuple #[.agg #[.int .i64 0, .slice none 0 0, .slice none 0 0], .int .i64 4]) (by simp [results, Tryd.results53, go_sem]) rfl ?_
      exact ⟨0, none, 0, 0, none, 0, 0, rfl, ChV.zero _, by (repeat (first | exact Below.refl _ _ | apply below_alloc))⟩
    have d5 : decide ((n : Int) < b) = false := decide_eq_false h5
    have d6 : decide (b < a) = true := decide_eq_true (by omega)
    clear h1
    go_enter Tryd.func53, Tryd.ntmps53
    go_wp2
    refine bodyPost_ret (v := .tuple #[.agg #[.int .i64 0, .slice none 0 0, .slice none 0 0], .int .i64 4]) (by simp [results, Tryd.results53, go_sem]) rfl ?_
    exact ⟨0, none, 0, 0, none, 0, 0, rfl, ChV.zero _, by (repeat (first | exact Below.refl _ _ | apply below_alloc))⟩
  rw [if_neg h1]
  have d4 : decide (a < 0) = false := decide_eq_false (by omega)
  have d5 : decide ((n : Int) < b) = false := decide_eq_false (by omega)
  have d6 : decide (b < a) = false := decide_eq_false (by omega)
  obtain ⟨i, rfl⟩ : ∃ i : Nat, a = (i : Int) := ⟨a.toNat, by omega⟩
  obtain ⟨j, rfl⟩ : ∃ j : Nat, b = (j : Int) := ⟨b.toNat, by omega⟩
  rw [Int.toNat_natCast, Int.toNat_natCast]
  have hjn : j ≤ n := by omega
  have hij : i ≤ j := by omega
  have e5 : decide (n < j) = false := decide_eq_false (by omega)
  have e6 : decide (j < i) = false := decide_eq_false (by omega)
  by_cases h7 : i = j
  · subst h7
    rw [if_pos rfl]
    clear h h1
    go_enter Tryd.func53, Tryd.ntmps53
    go_wp2
    refine bodyPost_ret (v := .tuple #[.agg #[.int .i64 0, .slice none 0 0, .slice none 0 0], .int .i64 2]) (by simp [results, Tryd.results53, go_sem]) rfl ?_
    exact ⟨0, none, 0, 0, none, 0, 0, rfl, ChV.zero _, by (repeat (first | exact Below.refl _ _ | apply below_alloc))⟩
  rw [if_neg (by omega)]
  have d7 : ((i : Int) == (j : Int)) = false := by simp; omega
  have d8 : ¬ (i : Int) = (j : Int) := by omega
  have d9 : ¬ i = j := h7
  have hmid := fun W => run_mid (A := A) (c := c) (show i ≤ j by omega) (show j ≤ n by omega) h.hc W
  obtain ⟨B, hB⟩ : ∃ B, restA A c i = B := ⟨_, rfl⟩
  obtain ⟨m, hm⟩ : ∃ m, j - i = m := ⟨_, rfl⟩
  obtain ⟨c9, hc9⟩ : ∃ m, c - i = m := ⟨_, rfl⟩
  have hmm : m ≤ 5000 := by omega
  have hSm : Sl w B m c9 ((text.drop i).take m) := by
    have h1 := C_mid (by have := h.hC; rw [← h.hn] at this; exact this) (by rw [h.hn]; exact h.hc) (show i ≤ j by omega) (show j ≤ text.length by rw [h.hn]; omega)
    rw [hB, hm] at h1
    have h2 := h.hc
    have h3 := h.hm
    refine ⟨h1, by have := h.hn; simp; omega, by omega, by omega, ?_⟩
    rw [← hB]
    unfold restA
    split
    · exact h.ty.less (by omega)
    · exact h.ty.cut (by omega)
  rw [hB, hm, hc9] at hmid
  have HSM := Aside0.mk hSm
  rw [hm]
  clear hSm hB hc9 h h1 h7 hm
  clear hij hjn
  go_enter Tryd.func53, Tryd.ntmps53
  go_wp2
  obtain ⟨D1, hD1⟩ : ∃ D1, w.alloc (Obj.cells #[Value.int IntKind.i64 k, Value.int IntKind.i64 (i : Int), Value.int IntKind.i64 (j : Int), Value.slice Az nz cz] 37) = D1 := ⟨_, rfl⟩
  have m0 : D1.cell? ⟨w.heap.size, 0, none⟩ = some (.int IntKind.i64 k) := by rw [← hD1, new_cell]; rfl
  have m1 : D1.cell? ⟨w.heap.size, 1, none⟩ = some (.int IntKind.i64 (i : Int)) := by rw [← hD1, new_cell]; rfl
  have m2 : D1.cell? ⟨w.heap.size, 2, none⟩ = some (.int IntKind.i64 (j : Int)) := by rw [← hD1, new_cell]; rfl
  have m3 : D1.cell? ⟨w.heap.size, 3, none⟩ = some (.slice Az nz cz) := by rw [← hD1, new_cell]; rfl
  have hz1 : D1.heap.size = w.heap.size + 1 := by rw [← hD1]; simp
  have hb1 : Below w.heap.size w D1 := by rw [← hD1]; exact (Below.refl _ _).alloc (Nat.le_refl _) _
  rw [hD1]
  obtain ⟨D2, hD2⟩ : ∃ D2, D1.alloc (Obj.cells #[Value.int IntKind.i64 0, Value.slice none 0 0, Value.slice none 0 0] 68) = D2 := ⟨_, rfl⟩
  have hb2 : Below D1.heap.size D1 D2 := by rw [← hD2]; exact (Below.refl _ _).alloc (Nat.le_refl _) _
  have z0 : D2.heap[w.heap.size + 1]? = some (.cells #[Value.int IntKind.i64 0, Value.slice none 0 0, Value.slice none 0 0] 68 (0, 0)) := by rw [← hD2, ← hz1]; exact World.alloc_heap_new D1 _
  have hz2 : D2.heap.size = w.heap.size + 2 := by rw [← hD2, World.size_alloc, hz1]
  rw [hD2]
  replace m0 := (hb2.cell (p := ⟨w.heap.size, 0, none⟩) (by rw [hz1]; exact Nat.lt_succ_self _)).trans m0
  replace m1 := (hb2.cell (p := ⟨w.heap.size, 1, none⟩) (by rw [hz1]; exact Nat.lt_succ_self _)).trans m1
  replace m2 := (hb2.cell (p := ⟨w.heap.size, 2, none⟩) (by rw [hz1]; exact Nat.lt_succ_self _)).trans m2
  replace m3 := (hb2.cell (p := ⟨w.heap.size, 3, none⟩) (by rw [hz1]; exact Nat.lt_succ_self _)).trans m3
  have HBD := Aside0.mk (below_step hb1 hb2)
  have h1l : w.heap.size < D2.heap.size := by omega
  have h2l : w.heap.size + 1 < D2.heap.size := by omega
  clear hz2 hD1 hD2 hz1 hb1 hb2
  obtain ⟨h, hh⟩ : ∃ h, w.heap.size + 1 = h := ⟨_, rfl⟩
  have hgh : w.heap.size ≤ h := by omega
  rw [hh] at z0 h2l ⊢
  have HZ := Aside0.mk z0
  have y0 : D2.cell? ⟨h, 0, none⟩ = some (.int .i64 0) := blk_cell z0
  have y1 : D2.cell? ⟨h, 1, none⟩ = some (.slice none 0 0) := blk_cell z0
  have y2 : D2.cell? ⟨h, 2, none⟩ = some (.slice none 0 0) := blk_cell z0
  have f0 : D2.frozen? ⟨h, 0, none⟩ = false := blk_frozen z0
  have f1 : D2.frozen? ⟨h, 1, none⟩ = false := blk_frozen z0
  have f2 : D2.frozen? ⟨h, 2, none⟩ = false := blk_frozen z0
  clear z0
  obtain ⟨g, hg⟩ : ∃ g, w.heap.size = g := ⟨_, rfl⟩
  have hle : w.heap.size ≤ h := by omega
  have hgne : g ≠ h := by omega
  rw [hg] at m0 m1 m2 m3 h1l hgh ⊢
  clear hg hh
  have X2 := Aside0.mk (HSM.out.below HBD.out)
  go_region_held3 (fun W' => W'.cell? ⟨g, 1, none⟩ = some (.int .i64 (i : Int)) ∧ W'.cell? ⟨g, 2, none⟩ = some (.int .i64 (j : Int)) ∧ Below w.heap.size w W')
    (((try dsimp only); (repeat' apply And.intro); all_goals (first | assumption | exact HBD.out | exact below_drew1 HBD.out | exact (cell_far3 hgne).trans (by assumption) | exact below_set3 hle (by assumption) | exact Below.refl _ _ | exact below_drew1 (Below.refl _ _) | exact below_drew1 (pw_below_drewN (Below.refl _ _) _) | exact below_drew1 (by assumption) | exact below_step (by assumption) (by assumption) | go_keep)))
    (first | (go_at_call 55; (with_reducible refine (Clone_calls (X2.out.below (by (first | assumption | exact Below.refl _ _ | exact pw_below_drewN (Below.refl _ _) _ | exact below_drew1 (pw_below_drewN (Below.refl _ _) _) | exact below_drew1 (Below.refl _ _) | exact pw_below_drewN (by assumption) _ | exact below_drew1 (by assumption)))) (by omega)).mono ?_); rintro e w3 ⟨A3, n3, c3, rfl, hS3, hb⟩; have bt3 := below_step (w := D2) (by (first | assumption | exact Below.refl _ _ | exact pw_below_drewN (Below.refl _ _) _ | exact below_drew1 (pw_below_drewN (Below.refl _ _) _) | exact below_drew1 (Below.refl _ _) | exact pw_below_drewN (by assumption) _ | exact below_drew1 (by assumption))) hb; have m0_3 := (bt3.cell (p := ⟨g, 0, none⟩) h1l).trans m0; have m1_3 := (bt3.cell (p := ⟨g, 1, none⟩) h1l).trans m1; have m2_3 := (bt3.cell (p := ⟨g, 2, none⟩) h1l).trans m2; have m3_3 := (bt3.cell (p := ⟨g, 3, none⟩) h1l).trans m3; have y0_3 := (bt3.cell (p := ⟨h, 0, none⟩) h2l).trans y0; have f0_3 := (bt3.frozen (p := ⟨h, 0, none⟩) h2l).trans f0; have y1_3 := (bt3.cell (p := ⟨h, 1, none⟩) h2l).trans y1; have f1_3 := (bt3.frozen (p := ⟨h, 1, none⟩) h2l).trans f1; have y2_3 := (bt3.cell (p := ⟨h, 2, none⟩) h2l).trans y2; have f2_3 := (bt3.frozen (p := ⟨h, 2, none⟩) h2l).trans f2; have bw3 := below_step HBD.out bt3; have S3 := Aside0.mk hS3; clear hS3 hb))
  have hno := blk_noI ((bt3.block _ h2l).trans HZ.out) noI_ch
  obtain ⟨c0, c1, c2⟩ := set3_get (a := Value.int .i64 (i : Int)) (b := Value.slice A3 n3 c3) (c := Value.slice none 0 0) y0_3 y1_3 y2_3
  have hb5 := below_set3 (a := Value.int .i64 (i : Int)) (b := Value.slice A3 n3 c3) (c := Value.slice none 0 0) hle bw3
  have S5 := S3.out.only hno (fun k _ hk => set3_far (a := Value.int .i64 (i : Int)) (b := Value.slice A3 n3 c3) (c := Value.slice none 0 0) hk)
  generalize ((w3.setCell ⟨h, 0, none⟩ (Value.int .i64 (i : Int))).setCell ⟨h, 1, none⟩ (Value.slice A3 n3 c3)).setCell ⟨h, 2, none⟩ (Value.slice none 0 0) = W5 at c0 c1 c2 hb5 S5 ⊢
  go_wp2
  refine bodyPost_ret (v := .tuple #[.agg #[.int .i64 (i : Int), .slice A3 n3 c3, .slice none 0 0], .int .i64 0]) (by simp [results, Tryd.results53, go_sem, c0, c1, c2]) rfl ?_
  exact ⟨(i : Int), A3, n3, c3, none, 0, 0, rfl, ⟨rfl, S5, Sl.nil _⟩, hb5⟩
end
end Go.Proofs.YtenjldfflkinkaaDoor.Rop

namespace Go.Proofs.YtenjldfflkinkaaDoor.Rop
set_option linter.unusedVariables false
set_option linter.unusedSimpArgs false
open Go.RowKit Go.Proofs.YtenjldfflkinkaaDoor.F Go.Proofs.YtenjldfflkinkaaDoorW.PrintWords Go.Proofs.YtenjldfflkinkaaDoorW.PrintLast Go.Proofs.YtenjldfflkinkaaDoorW.PrintMore
set_option linter.unusedSectionVars false
variable [Coe Unit Nat]
/-- a change written into its block -/
theorem set3_ch {W w : World} {n0 r t : Nat} {p0 p : Int} {A0 B0 A B : Option Addr} {a0 b0 a1 b1 n c m d : Nat} {x : Ch} (zr : W.heap[r]? = some (.cells #[.int .i64 p0, .slice A0 a0 b0, .slice B0 a1 b1] t (0, 0))) (hV : ChV W p A n c B m d x) (hb : Below n0 w W) (hle : n0 ≤ r) :
    (((W.setCell ⟨r, 0, none⟩ (.int .i64 p)).setCell ⟨r, 1, none⟩ (.slice A n c)).setCell ⟨r, 2, none⟩ (.slice B m d)).cell? ⟨r, 0, none⟩ = some (.int .i64 p) ∧ (((W.setCell ⟨r, 0, none⟩ (.int .i64 p)).setCell ⟨r, 1, none⟩ (.slice A n c)).setCell ⟨r, 2, none⟩ (.slice B m d)).cell? ⟨r, 1, none⟩ = some (.slice A n c) ∧
    (((W.setCell ⟨r, 0, none⟩ (.int .i64 p)).setCell ⟨r, 1, none⟩ (.slice A n c)).setCell ⟨r, 2, none⟩ (.slice B m d)).cell? ⟨r, 2, none⟩ = some (.slice B m d) ∧ ChV (((W.setCell ⟨r, 0, none⟩ (.int .i64 p)).setCell ⟨r, 1, none⟩ (.slice A n c)).setCell ⟨r, 2, none⟩ (.slice B m d)) p A n c B m d x ∧
    Below n0 w (((W.setCell ⟨r, 0, none⟩ (.int .i64 p)).setCell ⟨r, 1, none⟩ (.slice A n c)).setCell ⟨r, 2, none⟩ (.slice B m d)) := by
  obtain ⟨c0, c1, c2⟩ := set3_get (W := W) (h := r) (a := .int .i64 p) (b := .slice A n c) (c := .slice B m d) (blk_cell zr) (blk_cell zr) (blk_cell zr)
  exact ⟨c0, c1, c2, hV.only (blk_noI zr noI_ch) (fun k _ hk => set3_far hk), below_set3 hle hb⟩
/-- what an operation does -/
def effE (v : SV) (s : SP) (k a b : Int) (z : List Int) : Ch × Int :=
  if rightE v s ≠ 0 then (Ch.zero, rightE v s) else if k = 1 then insE s.text a z else if k = 2 then remE s.text a b else
  if k = 3 then (if 0 < v.n1 then ((s.x1 (v.n1 - 1)).inv, 0) else (Ch.zero, 220)) else if k = 4 then (if 0 < v.n2 then (s.x2 (v.n2 - 1), 0) else (Ch.zero, 220)) else (Ch.zero, 2)
section
variable {w : World} {v : SV} {s : SP} {Az : Option Addr} {nz cz : Nat} {z : List Int} {k a b : Int}

set_option maxRecDepth 100000 in
set_option maxHeartbeats 8000000 in
theorem Effect_calls (h : StOk w v s) (hz : Sl w Az nz cz z) (hnz : nz ≤ 5000) : Calls Tryd.prog 17 #[v.val, .agg #[.int .i64 k, .int .i64 a, .int .i64 b, .slice Az nz cz]] w (GivesCE (effE v s k a b z).1 (effE v s k a b z).2 w) := by
  obtain ⟨A, n, c, A1, n1, c1, A2, n2, c2, v1, v2⟩ := v
  obtain ⟨u, hu⟩ : ∃ u, rightE ⟨A, n, c, A1, n1, c1, A2, n2, c2, v1, v2⟩ s = u := ⟨_, rfl⟩
  unfold effE
  rw [hu]
  dsimp only [SV.val]
  have HS := Aside0.mk h
  have HZ := Aside0.mk hz
  have bn := h.bn
  have b1 := h.b1
  have b2 := h.b2
  dsimp only at bn b1 b2
  have CR := Aside0.mk (fun W (hW : Below w.heap.size w W) => (by have := Right_calls (h.below hW); rw [hu] at this; exact this : Calls Tryd.prog 22 #[.agg #[.slice A n c, .slice A1 n1 c1, .slice A2 n2 c2]] W fun e w' => e = .returned (.int .i64 u) ∧ Below W.heap.size W w'))
  have HU := Aside0.mk hu
  clear h hz hu
  go_enter Tryd.func17, Tryd.ntmps17
  go_upto_region 1 with (fail)
  obtain ⟨D1, hD1⟩ : ∃ D1, w.alloc (Obj.cells #[Value.slice A n c, Value.slice A1 n1 c1, Value.slice A2 n2 c2] 34) = D1 := ⟨_, rfl⟩
  have m0 : D1.cell? ⟨w.heap.size, 0, none⟩ = some (.slice A n c) := by rw [← hD1, new_cell]; rfl
  have m1 : D1.cell? ⟨w.heap.size, 1, none⟩ = some (.slice A1 n1 c1) := by rw [← hD1, new_cell]; rfl
  have m2 : D1.cell? ⟨w.heap.size, 2, none⟩ = some (.slice A2 n2 c2) := by rw [← hD1, new_cell]; rfl
  have hz1 : D1.heap.size = w.heap.size + 1 := by rw [← hD1]; simp
  have hb1 : Below w.heap.size w D1 := by rw [← hD1]; exact (Below.refl _ _).alloc (Nat.le_refl _) _
  rw [hD1]
  obtain ⟨D2, hD2⟩ : ∃ D2, D1.alloc (Obj.cells #[Value.int IntKind.i64 k, Value.int IntKind.i64 a, Value.int IntKind.i64 b, Value.slice Az nz cz] 37) = D2 := ⟨_, rfl⟩
  have o0 : D2.cell? ⟨D1.heap.size, 0, none⟩ = some (.int .i64 k) := by rw [← hD2, new_cell]; rfl
  have o1 : D2.cell? ⟨D1.heap.size, 1, none⟩ = some (.int .i64 a) := by rw [← hD2, new_cell]; rfl
  have o2 : D2.cell? ⟨D1.heap.size, 2, none⟩ = some (.int .i64 b) := by rw [← hD2, new_cell]; rfl
  have o3 : D2.cell? ⟨D1.heap.size, 3, none⟩ = some (.slice Az nz cz) := by rw [← hD2, new_cell]; rfl
  have hz2 : D2.heap.size = w.heap.size + 2 := by rw [← hD2, World.size_alloc, hz1]
  have hb2 : Below D1.heap.size D1 D2 := by rw [← hD2]; exact (Below.refl _ _).alloc (Nat.le_refl _) _
  rw [hD2]
  obtain ⟨D3, hD3⟩ : ∃ D3, D2.alloc (Obj.cells #[Value.int IntKind.i64 0, Value.slice none 0 0, Value.slice none 0 0] 68) = D3 := ⟨_, rfl⟩
  have hb3 : Below D2.heap.size D2 D3 := by rw [← hD3]; exact (Below.refl _ _).alloc (Nat.le_refl _) _
  have zr : D3.heap[w.heap.size + 1 + 1]? = some (.cells #[Value.int IntKind.i64 0, Value.slice none 0 0, Value.slice none 0 0] 68 (0, 0)) := by rw [← hD3, show w.heap.size + 1 + 1 = D2.heap.size from by omega]; exact World.alloc_heap_new D2 _
  have hz3 : D3.heap.size = w.heap.size + 3 := by rw [← hD3, World.size_alloc, hz2]
  rw [hD3]
  rw [hz1] at o0 o1 o2 o3
  have tr1 : ∀ a : Addr, a.block = w.heap.size → D3.cell? a = D1.cell? a := fun a ha => (hb3.cell (p := a) (by rw [ha]; omega)).trans (hb2.cell (p := a) (by rw [ha]; omega))
  have tr2 : ∀ a : Addr, a.block = w.heap.size + 1 → D3.cell? a = D2.cell? a := fun a ha => hb3.cell (p := a) (by rw [ha]; omega)
  replace m0 := (tr1 ⟨w.heap.size, 0, none⟩ rfl).trans m0
  replace m1 := (tr1 ⟨w.heap.size, 1, none⟩ rfl).trans m1
  replace m2 := (tr1 ⟨w.heap.size, 2, none⟩ rfl).trans m2
  replace o0 := (tr2 ⟨w.heap.size + 1, 0, none⟩ rfl).trans o0
  replace o1 := (tr2 ⟨w.heap.size + 1, 1, none⟩ rfl).trans o1
  replace o2 := (tr2 ⟨w.heap.size + 1, 2, none⟩ rfl).trans o2
  replace o3 := (tr2 ⟨w.heap.size + 1, 3, none⟩ rfl).trans o3
  have HBD := Aside0.mk (below_step (below_step hb1 hb2) hb3)
  have hgl : w.heap.size < D3.heap.size := by omega
  have hhl : w.heap.size + 1 < D3.heap.size := by omega
  have hrl : w.heap.size + 1 + 1 < D3.heap.size := by omega
  clear hD1 hD2 hD3 hz1 hz2 hz3 hb1 hb2 hb3 tr1 tr2
  obtain ⟨r, hr⟩ : ∃ r, w.heap.size + 1 + 1 = r := ⟨_, rfl⟩
  have hler : w.heap.size ≤ r := by omega
  rw [hr] at zr hrl ⊢
  obtain ⟨h, hh⟩ : ∃ h, w.heap.size + 1 = h := ⟨_, rfl⟩
  rw [hh] at o0 o1 o2 o3 hhl ⊢
  obtain ⟨g, hg⟩ : ∃ g, w.heap.size = g := ⟨_, rfl⟩
  rw [hg] at m0 m1 m2 hgl ⊢
  clear hg hh hr
  have HCL := Aside0.mk (fun W1 (hb : Below D3.heap.size D3 W1) => (show (W1.cell? ⟨g, 0, none⟩ = some (.slice A n c) ∧ W1.cell? ⟨g, 1, none⟩ = some (.slice A1 n1 c1) ∧ W1.cell? ⟨g, 2, none⟩ = some (.slice A2 n2 c2)) ∧ (W1.cell? ⟨h, 0, none⟩ = some (.int .i64 k) ∧ W1.cell? ⟨h, 1, none⟩ = some (.int .i64 a) ∧ W1.cell? ⟨h, 2, none⟩ = some (.int .i64 b) ∧ W1.cell? ⟨h, 3, none⟩ = some (.slice Az nz cz)) ∧ W1.heap[r]? = some (.cells #[Value.int IntKind.i64 0, Value.slice none 0 0, Value.slice none 0 0] 68 (0, 0)) from
    ⟨⟨(hb.cell (p := ⟨g, 0, none⟩) hgl).trans m0, (hb.cell (p := ⟨g, 1, none⟩) hgl).trans m1, (hb.cell (p := ⟨g, 2, none⟩) hgl).trans m2⟩, ⟨(hb.cell (p := ⟨h, 0, none⟩) hhl).trans o0, (hb.cell (p := ⟨h, 1, none⟩) hhl).trans o1, (hb.cell (p := ⟨h, 2, none⟩) hhl).trans o2, (hb.cell (p := ⟨h, 3, none⟩) hhl).trans o3⟩, (hb.block _ hrl).trans zr⟩))
  have HRD := Aside0.mk (CR.out D3 HBD.out)
  by_cases h0 : u ≠ 0
  · rw [if_pos h0]
    have d0 : (u != 0) = true := by simpa using h0
    go_wp2_with (first
      | (go_at_call 22; (with_reducible refine HRD.out.mono ?_); rintro e W1 ⟨rfl, hb⟩; obtain ⟨⟨g0_1, g1_1, g2_1⟩, ⟨o0_1, o1_1, o2_1, o3_1⟩, zr1⟩ := HCL.out _ hb; have y0 := blk_cell (j := 0) zr1; have y1 := blk_cell (j := 1) zr1; have y2 := blk_cell (j := 2) zr1; have f0 := blk_frozen (j := 0) zr1; have f1 := blk_frozen (j := 1) zr1; have f2 := blk_frozen (j := 2) zr1; have BT1 := Aside0.mk hb; have BW1 := Aside0.mk (below_step HBD.out hb); have ZR1 := Aside0.mk zr1; clear hb zr1))
    obtain ⟨c0, c1, c2, hV5, hb5⟩ := set3_ch ZR1.out (ChV.zero _) BW1.out hler
    generalize ((W1.setCell ⟨r, 0, none⟩ (Value.int .i64 0)).setCell ⟨r, 1, none⟩ (Value.slice none 0 0)).setCell ⟨r, 2, none⟩ (Value.slice none 0 0) = W5 at c0 c1 c2 hV5 hb5 ⊢
    refine bodyPost_ret (v := .tuple #[.agg #[.int .i64 0, .slice none 0 0, .slice none 0 0], .int .i64 u]) (by simp [results, Tryd.results17, go_sem, c0, c1, c2]) rfl ?_
    exact ⟨0, none, 0, 0, none, 0, 0, rfl, hV5, hb5⟩
  rw [if_neg h0]
  obtain rfl : u = 0 := by omega
  clear h0
  by_cases h1 : k = 1
  · subst h1
    rw [if_pos rfl]
    have CI := Aside0.mk (fun W (hW : Below w.heap.size w W) => insert_calls (k := 1) (a := a) (b := b) (HS.out.t.below hW) (HZ.out.below hW) bn hnz)
    obtain ⟨x, q, hxq⟩ : ∃ x q, insE s.text a z = (x, q) := ⟨_, _, rfl⟩
    rw [hxq] at CI ⊢
    have HXQ := Aside0.mk hxq
    clear hxq
    go_wp2_with (first
      | (go_at_call 22; (with_reducible refine HRD.out.mono ?_); rintro e W1 ⟨rfl, hb⟩; obtain ⟨⟨g0_1, g1_1, g2_1⟩, ⟨o0_1, o1_1, o2_1, o3_1⟩, zr1⟩ := HCL.out _ hb; have y0 := blk_cell (j := 0) zr1; have y1 := blk_cell (j := 1) zr1; have y2 := blk_cell (j := 2) zr1; have f0 := blk_frozen (j := 0) zr1; have f1 := blk_frozen (j := 1) zr1; have f2 := blk_frozen (j := 2) zr1; have BT1 := Aside0.mk hb; have BW1 := Aside0.mk (below_step HBD.out hb); have ZR1 := Aside0.mk zr1; clear hb zr1)
      | (go_at_call 52; (with_reducible refine (CI.out _ BW1.out).mono ?_); rintro e W2 ⟨p2, A3, n3, c3, B3, m3, d3, rfl, hV, hb⟩; obtain ⟨⟨g0_2, g1_2, g2_2⟩, ⟨o0_2, o1_2, o2_2, o3_2⟩, zr2⟩ := HCL.out _ (below_step BT1.out hb); have y0_2 := blk_cell (j := 0) zr2; have y1_2 := blk_cell (j := 1) zr2; have y2_2 := blk_cell (j := 2) zr2; have f0_2 := blk_frozen (j := 0) zr2; have f1_2 := blk_frozen (j := 1) zr2; have f2_2 := blk_frozen (j := 2) zr2; have BW2 := Aside0.mk (below_step BW1.out hb); have BT2 := Aside0.mk (below_step BT1.out hb); have ZR2 := Aside0.mk zr2; have V2 := Aside0.mk hV; clear hb zr2 hV))
    obtain ⟨c0, c1, c2, hV5, hb5⟩ := set3_ch ZR2.out V2.out BW2.out hler
    generalize ((W2.setCell ⟨r, 0, none⟩ (Value.int .i64 p2)).setCell ⟨r, 1, none⟩ (Value.slice A3 n3 c3)).setCell ⟨r, 2, none⟩ (Value.slice B3 m3 d3) = W5 at c0 c1 c2 hV5 hb5 ⊢
    refine bodyPost_ret (v := .tuple #[.agg #[.int .i64 p2, .slice A3 n3 c3, .slice B3 m3 d3], .int .i64 q]) (by simp [results, Tryd.results17, go_sem, c0, c1, c2]) rfl ?_
    rw [HXQ.out]
    exact ⟨p2, A3, n3, c3, B3, m3, d3, rfl, hV5, hb5⟩
  rw [if_neg h1]
  have d1 : (k == 1) = false := by simpa using h1
  by_cases h2 : k = 2
  · subst h2
    rw [if_pos rfl]
    have CI := Aside0.mk (fun W (hW : Below w.heap.size w W) => remove_calls (k := 2) (a := a) (b := b) (Az := Az) (nz := nz) (cz := cz) (HS.out.t.below hW) bn)
    obtain ⟨x, q, hxq⟩ : ∃ x q, remE s.text a b = (x, q) := ⟨_, _, rfl⟩
    rw [hxq] at CI ⊢
    have HXQ := Aside0.mk hxq
    clear hxq
    go_wp2_with (first
      | (go_at_call 22; (with_reducible refine HRD.out.mono ?_); rintro e W1 ⟨rfl, hb⟩; obtain ⟨⟨g0_1, g1_1, g2_1⟩, ⟨o0_1, o1_1, o2_1, o3_1⟩, zr1⟩ := HCL.out _ hb; have y0 := blk_cell (j := 0) zr1; have y1 := blk_cell (j := 1) zr1; have y2 := blk_cell (j := 2) zr1; have f0 := blk_frozen (j := 0) zr1; have f1 := blk_frozen (j := 1) zr1; have f2 := blk_frozen (j := 2) zr1; have BT1 := Aside0.mk hb; have BW1 := Aside0.mk (below_step HBD.out hb); have ZR1 := Aside0.mk zr1; clear hb zr1)
      | (go_at_call 53; (with_reducible refine (CI.out _ BW1.out).mono ?_); rintro e W2 ⟨p2, A3, n3, c3, B3, m3, d3, rfl, hV, hb⟩; obtain ⟨⟨g0_2, g1_2, g2_2⟩, ⟨o0_2, o1_2, o2_2, o3_2⟩, zr2⟩ := HCL.out _ (below_step BT1.out hb); have y0_2 := blk_cell (j := 0) zr2; have y1_2 := blk_cell (j := 1) zr2; have y2_2 := blk_cell (j := 2) zr2; have f0_2 := blk_frozen (j := 0) zr2; have f1_2 := blk_frozen (j := 1) zr2; have f2_2 := blk_frozen (j := 2) zr2; have BW2 := Aside0.mk (below_step BW1.out hb); have BT2 := Aside0.mk (below_step BT1.out hb); have ZR2 := Aside0.mk zr2; have V2 := Aside0.mk hV; clear hb zr2 hV))
    obtain ⟨c0, c1, c2, hV5, hb5⟩ := set3_ch ZR2.out V2.out BW2.out hler
    generalize ((W2.setCell ⟨r, 0, none⟩ (Value.int .i64 p2)).setCell ⟨r, 1, none⟩ (Value.slice A3 n3 c3)).setCell ⟨r, 2, none⟩ (Value.slice B3 m3 d3) = W5 at c0 c1 c2 hV5 hb5 ⊢
    refine bodyPost_ret (v := .tuple #[.agg #[.int .i64 p2, .slice A3 n3 c3, .slice B3 m3 d3], .int .i64 q]) (by simp [results, Tryd.results17, go_sem, c0, c1, c2]) rfl ?_
    rw [HXQ.out]
    exact ⟨p2, A3, n3, c3, B3, m3, d3, rfl, hV5, hb5⟩
  rw [if_neg h2]
  have d2 : (k == 2) = false := by simpa using h2
  by_cases h3 : k = 3
  · subst h3
    rw [if_pos rfl]
    by_cases h5 : 0 < n1
    · rw [if_pos h5]
      have hx := HS.out.u.at_ (n1 - 1) (show n1 - 1 < n1 by omega)
      have hsz := HS.out.s1 (n1 - 1) (show n1 - 1 < n1 by omega)
      dsimp only at hx hsz
      obtain ⟨ad, rfl, hat⟩ := hx
      obtain ⟨i, hi⟩ : ∃ i, n1 - 1 = i := ⟨_, rfl⟩
      rw [hi] at hat hsz ⊢
      have hni : (n1 : Int) - 1 = (i : Int) := by omega
      have hil : (i : Int) < (n1 : Int) := by omega
      have hn1b : (n1 : Int) ≤ 1000 := by omega
      have hn1p : 1 ≤ (n1 : Int) := by omega
      have hn0 : (0 : Int) < (n1 : Int) := by omega
      have AT := Aside0.mk hat
      generalize v1 i = cv at hat hsz AT
      obtain ⟨p, A4, n4, c4, B4, m4, d4⟩ := cv
      dsimp only at hsz
      have CI := Aside0.mk (fun W (hW : Below w.heap.size w W) => Inverse_calls (AT.out.below hW).h (by dsimp only; omega) (by dsimp only; omega))
      dsimp only at CI
      have HCI := Aside0.mk (fun W1 (hb : Below w.heap.size w W1) => (show W1.cell? (ad.add (i * 3)) = some (.int .i64 p) ∧ W1.cell? ⟨(ad.add (i * 3)).block, (ad.add (i * 3)).off + 1, none⟩ = some (.slice A4 n4 c4) ∧ W1.cell? ⟨(ad.add (i * 3)).block, (ad.add (i * 3)).off + 2, none⟩ = some (.slice B4 m4 d4) from ⟨(AT.out.below hb).c0, (AT.out.below hb).c1, (AT.out.below hb).c2⟩))
      have HI := Aside0.mk hi
      clear hat h5 hi
      go_wp2_with (first
        | (go_at_call 22; (with_reducible refine HRD.out.mono ?_); rintro e W1 ⟨rfl, hb⟩; obtain ⟨⟨g0_1, g1_1, g2_1⟩, ⟨o0_1, o1_1, o2_1, o3_1⟩, zr1⟩ := HCL.out _ hb; have y0 := blk_cell (j := 0) zr1; have y1 := blk_cell (j := 1) zr1; have y2 := blk_cell (j := 2) zr1; have f0 := blk_frozen (j := 0) zr1; have f1 := blk_frozen (j := 1) zr1; have f2 := blk_frozen (j := 2) zr1; have BT1 := Aside0.mk hb; have BW1 := Aside0.mk (below_step HBD.out hb); have ZR1 := Aside0.mk zr1; obtain ⟨k0, k1, k2⟩ := HCI.out _ BW1.out; clear hb zr1)
        | (go_at_call 20; (with_reducible refine (CI.out _ BW1.out).mono ?_); rintro e W2 ⟨p2, A3, n3, c3, B3, m3, d3, rfl, hV, hb⟩; obtain ⟨⟨g0_2, g1_2, g2_2⟩, ⟨o0_2, o1_2, o2_2, o3_2⟩, zr2⟩ := HCL.out _ (below_step BT1.out hb); have y0_2 := blk_cell (j := 0) zr2; have y1_2 := blk_cell (j := 1) zr2; have y2_2 := blk_cell (j := 2) zr2; have f0_2 := blk_frozen (j := 0) zr2; have f1_2 := blk_frozen (j := 1) zr2; have f2_2 := blk_frozen (j := 2) zr2; have BW2 := Aside0.mk (below_step BW1.out hb); have BT2 := Aside0.mk (below_step BT1.out hb); have ZR2 := Aside0.mk zr2; have V2 := Aside0.mk hV; clear hb zr2 hV))
      obtain ⟨c0, c1, c2, hV5, hb5⟩ := set3_ch ZR2.out V2.out BW2.out hler
      generalize ((W2.setCell ⟨r, 0, none⟩ (Value.int .i64 p2)).setCell ⟨r, 1, none⟩ (Value.slice A3 n3 c3)).setCell ⟨r, 2, none⟩ (Value.slice B3 m3 d3) = W5 at c0 c1 c2 hV5 hb5 ⊢
      refine bodyPost_ret (v := .tuple #[.agg #[.int .i64 p2, .slice A3 n3 c3, .slice B3 m3 d3], .int .i64 0]) (by simp [results, Tryd.results17, go_sem, c0, c1, c2]) rfl ?_
      rw [HI.out]
      exact ⟨p2, A3, n3, c3, B3, m3, d3, rfl, hV5, hb5⟩
    · rw [if_neg h5]
      obtain rfl : n1 = 0 := by omega
      go_wp2_with (first
        | (go_at_call 22; (with_reducible refine HRD.out.mono ?_); rintro e W1 ⟨rfl, hb⟩; obtain ⟨⟨g0_1, g1_1, g2_1⟩, ⟨o0_1, o1_1, o2_1, o3_1⟩, zr1⟩ := HCL.out _ hb; have y0 := blk_cell (j := 0) zr1; have y1 := blk_cell (j := 1) zr1; have y2 := blk_cell (j := 2) zr1; have f0 := blk_frozen (j := 0) zr1; have f1 := blk_frozen (j := 1) zr1; have f2 := blk_frozen (j := 2) zr1; have BT1 := Aside0.mk hb; have BW1 := Aside0.mk (below_step HBD.out hb); have ZR1 := Aside0.mk zr1; clear hb zr1))
      obtain ⟨c0, c1, c2, hV5, hb5⟩ := set3_ch ZR1.out (ChV.zero _) BW1.out hler
      generalize ((W1.setCell ⟨r, 0, none⟩ (Value.int .i64 0)).setCell ⟨r, 1, none⟩ (Value.slice none 0 0)).setCell ⟨r, 2, none⟩ (Value.slice none 0 0) = W5 at c0 c1 c2 hV5 hb5 ⊢
      refine bodyPost_ret (v := .tuple #[.agg #[.int .i64 0, .slice none 0 0, .slice none 0 0], .int .i64 220]) (by simp [results, Tryd.results17, go_sem, c0, c1, c2]) rfl ?_
      exact ⟨0, none, 0, 0, none, 0, 0, rfl, hV5, hb5⟩
  rw [if_neg h3]
  have d3 : (k == 3) = false := by simpa using h3
  by_cases h4 : k = 4
  · subst h4
    rw [if_pos rfl]
    by_cases h5 : 0 < n2
    · rw [if_pos h5]
      have hx := HS.out.r.at_ (n2 - 1) (show n2 - 1 < n2 by omega)
      have hsz := HS.out.s2 (n2 - 1) (show n2 - 1 < n2 by omega)
      dsimp only at hx hsz
      obtain ⟨ad, rfl, hat⟩ := hx
      obtain ⟨i, hi⟩ : ∃ i, n2 - 1 = i := ⟨_, rfl⟩
      rw [hi] at hat hsz ⊢
      have hni : (n2 : Int) - 1 = (i : Int) := by omega
      have hil : (i : Int) < (n2 : Int) := by omega
      have hn1b : (n2 : Int) ≤ 1000 := by omega
      have hn1p : 1 ≤ (n2 : Int) := by omega
      have hn0 : (0 : Int) < (n2 : Int) := by omega
      have AT := Aside0.mk hat
      generalize v2 i = cv at hat hsz AT
      obtain ⟨p, A4, n4, c4, B4, m4, d4⟩ := cv
      dsimp only at hsz
      have CI := Aside0.mk (fun W (hW : Below w.heap.size w W) => Inverse_calls (AT.out.below hW).h (by dsimp only; omega) (by dsimp only; omega))
      dsimp only at CI
      have hg1 := AT.out.h.g.hn
      have hk1 := AT.out.h.k.hn
      dsimp only at hg1 hk1
      have HGK := Aside0.mk (And.intro hg1 hk1)
      have HCI := Aside0.mk (fun W1 (hb : Below w.heap.size w W1) => (show W1.cell? (ad.add (i * 3)) = some (.int .i64 p) ∧ W1.cell? ⟨(ad.add (i * 3)).block, (ad.add (i * 3)).off + 1, none⟩ = some (.slice A4 n4 c4) ∧ W1.cell? ⟨(ad.add (i * 3)).block, (ad.add (i * 3)).off + 2, none⟩ = some (.slice B4 m4 d4) from ⟨(AT.out.below hb).c0, (AT.out.below hb).c1, (AT.out.below hb).c2⟩))
      have HI := Aside0.mk hi
      clear hat h5 hi hg1 hk1
      go_wp2_with (first
        | (go_at_call 22; (with_reducible refine HRD.out.mono ?_); rintro e W1 ⟨rfl, hb⟩; obtain ⟨⟨g0_1, g1_1, g2_1⟩, ⟨o0_1, o1_1, o2_1, o3_1⟩, zr1⟩ := HCL.out _ hb; have y0 := blk_cell (j := 0) zr1; have y1 := blk_cell (j := 1) zr1; have y2 := blk_cell (j := 2) zr1; have f0 := blk_frozen (j := 0) zr1; have f1 := blk_frozen (j := 1) zr1; have f2 := blk_frozen (j := 2) zr1; have BT1 := Aside0.mk hb; have BW1 := Aside0.mk (below_step HBD.out hb); have ZR1 := Aside0.mk zr1; obtain ⟨k0, k1, k2⟩ := HCI.out _ BW1.out; clear hb zr1)
        | (go_at_call 20; (with_reducible refine (CI.out _ BW1.out).mono ?_); rintro e W2 ⟨p2, A3, n3, c3, B3, m3, d3, rfl, hV, hb⟩; obtain ⟨⟨g0_2, g1_2, g2_2⟩, ⟨o0_2, o1_2, o2_2, o3_2⟩, zr2⟩ := HCL.out _ (below_step BT1.out hb); have y0_2 := blk_cell (j := 0) zr2; have y1_2 := blk_cell (j := 1) zr2; have y2_2 := blk_cell (j := 2) zr2; have f0_2 := blk_frozen (j := 0) zr2; have f1_2 := blk_frozen (j := 1) zr2; have f2_2 := blk_frozen (j := 2) zr2; have BW2 := Aside0.mk (below_step BW1.out hb); have BT2 := Aside0.mk (below_step BT1.out hb); have ZR2 := Aside0.mk zr2; have V2 := Aside0.mk hV; clear hb zr2 hV)
        | (go_at_call 20; (with_reducible refine (Inverse_calls V2.out (by have h1 := V2.out.g.hn; have h2 := HGK.out; simp only [Ch.inv] at h1; omega) (by have h1 := V2.out.k.hn; have h2 := HGK.out; simp only [Ch.inv] at h1; omega)).mono ?_); rintro e W3 ⟨p3, A5, n5, c5, B5, m5, d5, rfl, hV, hb⟩; obtain ⟨-, -, zr3⟩ := HCL.out _ (below_step BT2.out hb); have y0_3 := blk_cell (j := 0) zr3; have y1_3 := blk_cell (j := 1) zr3; have y2_3 := blk_cell (j := 2) zr3; have f0_3 := blk_frozen (j := 0) zr3; have f1_3 := blk_frozen (j := 1) zr3; have f2_3 := blk_frozen (j := 2) zr3; have BW3 := Aside0.mk (below_step BW2.out hb); have ZR3 := Aside0.mk zr3; have V3 := Aside0.mk hV; clear hb zr3 hV))
      obtain ⟨c0, c1, c2, hV5, hb5⟩ := set3_ch ZR3.out V3.out BW3.out hler
      generalize ((W3.setCell ⟨r, 0, none⟩ (Value.int .i64 p3)).setCell ⟨r, 1, none⟩ (Value.slice A5 n5 c5)).setCell ⟨r, 2, none⟩ (Value.slice B5 m5 d5) = W5 at c0 c1 c2 hV5 hb5 ⊢
      refine bodyPost_ret (v := .tuple #[.agg #[.int .i64 p3, .slice A5 n5 c5, .slice B5 m5 d5], .int .i64 0]) (by simp [results, Tryd.results17, go_sem, c0, c1, c2]) rfl ?_
      rw [HI.out]
      exact ⟨p3, A5, n5, c5, B5, m5, d5, rfl, hV5, hb5⟩
    · rw [if_neg h5]
      obtain rfl : n2 = 0 := by omega
      go_wp2_with (first
        | (go_at_call 22; (with_reducible refine HRD.out.mono ?_); rintro e W1 ⟨rfl, hb⟩; obtain ⟨⟨g0_1, g1_1, g2_1⟩, ⟨o0_1, o1_1, o2_1, o3_1⟩, zr1⟩ := HCL.out _ hb; have y0 := blk_cell (j := 0) zr1; have y1 := blk_cell (j := 1) zr1; have y2 := blk_cell (j := 2) zr1; have f0 := blk_frozen (j := 0) zr1; have f1 := blk_frozen (j := 1) zr1; have f2 := blk_frozen (j := 2) zr1; have BT1 := Aside0.mk hb; have BW1 := Aside0.mk (below_step HBD.out hb); have ZR1 := Aside0.mk zr1; clear hb zr1))
      obtain ⟨c0, c1, c2, hV5, hb5⟩ := set3_ch ZR1.out (ChV.zero _) BW1.out hler
      generalize ((W1.setCell ⟨r, 0, none⟩ (Value.int .i64 0)).setCell ⟨r, 1, none⟩ (Value.slice none 0 0)).setCell ⟨r, 2, none⟩ (Value.slice none 0 0) = W5 at c0 c1 c2 hV5 hb5 ⊢
      refine bodyPost_ret (v := .tuple #[.agg #[.int .i64 0, .slice none 0 0, .slice none 0 0], .int .i64 220]) (by simp [results, Tryd.results17, go_sem, c0, c1, c2]) rfl ?_
      exact ⟨0, none, 0, 0, none, 0, 0, rfl, hV5, hb5⟩
  rw [if_neg h4]
  have d4 : (k == 4) = false := by simpa using h4
  go_wp2_with (first
    | (go_at_call 22; (with_reducible refine HRD.out.mono ?_); rintro e W1 ⟨rfl, hb⟩; obtain ⟨⟨g0_1, g1_1, g2_1⟩, ⟨o0_1, o1_1, o2_1, o3_1⟩, zr1⟩ := HCL.out _ hb; have y0 := blk_cell (j := 0) zr1; have y1 := blk_cell (j := 1) zr1; have y2 := blk_cell (j := 2) zr1; have f0 := blk_frozen (j := 0) zr1; have f1 := blk_frozen (j := 1) zr1; have f2 := blk_frozen (j := 2) zr1; have BT1 := Aside0.mk hb; have BW1 := Aside0.mk (below_step HBD.out hb); have ZR1 := Aside0.mk zr1; clear hb zr1))
  obtain ⟨c0, c1, c2, hV5, hb5⟩ := set3_ch ZR1.out (ChV.zero _) BW1.out hler
  generalize ((W1.setCell ⟨r, 0, none⟩ (Value.int .i64 0)).setCell ⟨r, 1, none⟩ (Value.slice none 0 0)).setCell ⟨r, 2, none⟩ (Value.slice none 0 0) = W5 at c0 c1 c2 hV5 hb5 ⊢
  refine bodyPost_ret (v := .tuple #[.agg #[.int .i64 0, .slice none 0 0, .slice none 0 0], .int .i64 2]) (by simp [results, Tryd.results17, go_sem, c0, c1, c2]) rfl ?_
  exact ⟨0, none, 0, 0, none, 0, 0, rfl, hV5, hb5⟩
end
end Go.Proofs.YtenjldfflkinkaaDoor.Rop
