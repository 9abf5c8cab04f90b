/- Floats and complex numbers that stand for whole numbers within +-2^52: how they are kept in rows, and what the walk sees of sums, differences and comparisons. -/
import Derived.Test.YtccleelhheilnaaFloT
import Derived.Test.YtccleelhheilnaaWWords
import Derived.Test.YtccleelhheilnaaWFoot
import Derived.Test.YtccleelhheilnaaWMore
import Derived.Laws.ComplexArith
namespace Go.Proofs.YtccleelhheilnaaW.PrintWords
open Go.RowKit Go.Proofs.Ytccleelhheilnaa.Flo
/-- A complex number with whole parts. -/
structure Cx where
  re : Int
  im : Int
  deriving DecidableEq
def zc : Cx := ⟨0, 0⟩
namespace Kd
def f64 : Kd Int := scalar (fun n => Value.float .f64 (floatOfInt .f64 n)) (fun _ => rfl)
def c128 : Kd Cx := scalar (fun z => Value.complex .f64 (floatOfInt .f64 z.re) (floatOfInt .f64 z.im)) (fun _ => rfl)
theorem heap_f64 : Heap Kd.f64 := heap_scalar
theorem heap_c128 : Heap Kd.c128 := heap_scalar
section
variable {w : World} {A : Option Addr} {n : Nat}
theorem at_f64 {xs : List Int} (h : Kd.f64.C w A n xs) (i : Int) (h0 : 0 ≤ i) (h1 : i < n) : ∃ ad, A = some ad ∧ w.cell? (ad.add i.toNat) = some (.float .f64 (floatOfInt .f64 (rd xs i))) :=
  ReadsOf.at_ (reads_of_C (enc := fun n => Value.float .f64 (floatOfInt .f64 n)) (d := (0 : Int)) (h1 := fun _ => rfl) h) i h0 h1
theorem at_c128 {xs : List Cx} (h : Kd.c128.C w A n xs) (i : Int) (h0 : 0 ≤ i) (h1 : i < n) : ∃ ad, A = some ad ∧ w.cell? (ad.add i.toNat) = some (.complex .f64 (floatOfInt .f64 (rdOf zc xs i).re) (floatOfInt .f64 (rdOf zc xs i).im)) :=
  ReadsOf.at_ (reads_of_C (enc := fun z : Cx => Value.complex .f64 (floatOfInt .f64 z.re) (floatOfInt .f64 z.im)) (d := zc) (h1 := fun _ => rfl) h) i h0 h1
theorem foot_f64 {ad : Addr} {l : List Int} (h : Kd.f64.C w (some ad) n l) (i : Int) (h0 : 0 ≤ i) (h1 : i < n) : w.cell? (ad.add i.toNat) = some (.float .f64 (floatOfInt .f64 (rd l i))) := by
  obtain ⟨ad', he, hc⟩ := at_f64 h i h0 h1
  injection he with he
  subst he
  exact hc
theorem foot_c128 {ad : Addr} {l : List Cx} (h : Kd.c128.C w (some ad) n l) (i : Int) (h0 : 0 ≤ i) (h1 : i < n) : w.cell? (ad.add i.toNat) = some (.complex .f64 (floatOfInt .f64 (rdOf zc l i).re) (floatOfInt .f64 (rdOf zc l i).im)) := by
  obtain ⟨ad', he, hc⟩ := at_c128 h i h0 h1
  injection he with he
  subst he
  exact hc
end
end Kd
/-! #### what the walk sees -/
theorem lit_f0 : Value.float .f64 0 = .float .f64 (floatOfInt .f64 0) := rfl
theorem lit_f1 : Value.float .f64 4607182418800017408 = .float .f64 (floatOfInt .f64 1) := by rw [show floatOfInt .f64 1 = 4607182418800017408 from by decide +kernel]
theorem lit_fm1 : Value.float .f64 13830554455654793216 = .float .f64 (floatOfInt .f64 (-1)) := by rw [show floatOfInt .f64 (-1) = 13830554455654793216 from by decide +kernel]
theorem lit_c01 : Value.complex .f64 0 4607182418800017408 = .complex .f64 (floatOfInt .f64 0) (floatOfInt .f64 1) := by
  rw [show floatOfInt .f64 1 = 4607182418800017408 from by decide +kernel, show floatOfInt .f64 0 = 0 from by decide +kernel]
theorem lit_c2m : Value.complex .f64 4611686018427387904 13830554455654793216 = .complex .f64 (floatOfInt .f64 2) (floatOfInt .f64 (-1)) := by
  rw [show floatOfInt .f64 2 = 4611686018427387904 from by decide +kernel, show floatOfInt .f64 (-1) = 13830554455654793216 from by decide +kernel]
theorem lit_c1m : Value.complex .f64 4607182418800017408 13830554455654793216 = .complex .f64 (floatOfInt .f64 1) (floatOfInt .f64 (-1)) := by
  rw [show floatOfInt .f64 1 = 4607182418800017408 from by decide +kernel, show floatOfInt .f64 (-1) = 13830554455654793216 from by decide +kernel]
theorem lit_c31 : Value.complex .f64 4613937818241073152 4607182418800017408 = .complex .f64 (floatOfInt .f64 3) (floatOfInt .f64 1) := by
  rw [show floatOfInt .f64 3 = 4613937818241073152 from by decide +kernel, show floatOfInt .f64 1 = 4607182418800017408 from by decide +kernel]
theorem lit_c3m : Value.complex .f64 4613937818241073152 13830554455654793216 = .complex .f64 (floatOfInt .f64 3) (floatOfInt .f64 (-1)) := by
  rw [show floatOfInt .f64 3 = 4613937818241073152 from by decide +kernel, show floatOfInt .f64 (-1) = 13830554455654793216 from by decide +kernel]
theorem lit_c11 : Value.complex .f64 4607182418800017408 4607182418800017408 = .complex .f64 (floatOfInt .f64 1) (floatOfInt .f64 1) := by
  rw [show floatOfInt .f64 1 = 4607182418800017408 from by decide +kernel]
section
variable {P : Program} (w : World)
theorem flo_add (t : TypeId) (x y : Int) (h : smA x y = true) : (binOp .add t (.float .f64 (floatOfInt .f64 x)) (.float .f64 (floatOfInt .f64 y))).run P w = .ok (.float .f64 (floatOfInt .f64 (x + y))) w :=
  run_float_arith w .add t .f64 _ _ _ (add_exact h)
theorem flo_sub (t : TypeId) (x y : Int) (h : smA x y = true) : (binOp .sub t (.float .f64 (floatOfInt .f64 x)) (.float .f64 (floatOfInt .f64 y))).run P w = .ok (.float .f64 (floatOfInt .f64 (x - y))) w :=
  run_float_arith w .sub t .f64 _ _ _ (sub_exact h)
theorem cx_add (t : TypeId) (a b c d : Int) (h1 : smA a c = true) (h2 : smA b d = true) :
    (binOp .add t (.complex .f64 (floatOfInt .f64 a) (floatOfInt .f64 b)) (.complex .f64 (floatOfInt .f64 c) (floatOfInt .f64 d))).run P w = .ok (.complex .f64 (floatOfInt .f64 (a + c)) (floatOfInt .f64 (b + d))) w :=
  run_complex_sum w .add (.inl rfl) t .f64 _ _ _ _ _ _ (by
    have e1 : floatBits .add .f64 (floatOfInt .f64 a) (floatOfInt .f64 c) = some (floatOfInt .f64 (a + c)) := add_exact h1
    have e2 : floatBits .add .f64 (floatOfInt .f64 b) (floatOfInt .f64 d) = some (floatOfInt .f64 (b + d)) := add_exact h2
    simp only [cSumBits, e1, e2, Option.bind_some])
theorem cx_sub (t : TypeId) (a b c d : Int) (h1 : smA a c = true) (h2 : smA b d = true) :
    (binOp .sub t (.complex .f64 (floatOfInt .f64 a) (floatOfInt .f64 b)) (.complex .f64 (floatOfInt .f64 c) (floatOfInt .f64 d))).run P w = .ok (.complex .f64 (floatOfInt .f64 (a - c)) (floatOfInt .f64 (b - d))) w :=
  run_complex_sum w .sub (.inr rfl) t .f64 _ _ _ _ _ _ (by
    have e1 : floatBits .sub .f64 (floatOfInt .f64 a) (floatOfInt .f64 c) = some (floatOfInt .f64 (a - c)) := sub_exact h1
    have e2 : floatBits .sub .f64 (floatOfInt .f64 b) (floatOfInt .f64 d) = some (floatOfInt .f64 (b - d)) := sub_exact h2
    simp only [cSumBits, e1, e2, Option.bind_some])
end
theorem ord_eq (x y : Int) (h : smA x y = true) : (FloatKind.f64.format.order (floatOfInt .f64 x) (floatOfInt .f64 y) == some .eq) = (x == y) := order_exact h
theorem ord_ne (x y : Int) (h : smA x y = true) : (FloatKind.f64.format.order (floatOfInt .f64 x) (floatOfInt .f64 y) != some .eq) = (x != y) := by rw [bne, ord_eq x y h]; rfl
theorem ord_negn (x y : Int) (h : smA x y = true) : (FloatKind.f64.format.order (floatOfInt .f64 x) (Op.negFloat .f64 (floatOfInt .f64 y)) != some .eq) = (x != -y) := by rw [bne, order_neg h]; rfl
theorem flo_neg (x : Int) : Op.unary .neg (.float .f64 (floatOfInt .f64 x)) = pure (.float .f64 (Op.negFloat .f64 (floatOfInt .f64 x))) := rfl
section
variable (P : Program) (w : World) (a : Addr) (m : Mode)
theorem sto_c (k : FloatKind) (x y : Nat) : (store a (.complex k x y) m).run P w = stored P w a (.complex k x y) m := run_store P w a _ m rfl
theorem sto_f (k : FloatKind) (x : Nat) : (store a (.float k x) m).run P w = stored P w a (.float k x) m := run_store P w a _ m rfl
end
end Go.Proofs.YtccleelhheilnaaW.PrintWords
namespace Go.Proofs.Ytccleelhheilnaa.F
end Go.Proofs.Ytccleelhheilnaa.F
