/- What the bound of the second form gives: a slice's length is below its bulk. -/
import Derived.Test.YtccleelhheilnaaRows
import Derived.ChangeSlices
namespace Go.Proofs.Ytccleelhheilnaa.bulks
open Go.ChangeShapes
theorem one_le {H : Type} (d : DataW H) : 1 ≤ Rows.uptoBulk d := by
  cases d with
  | lit l => cases l <;> simp [Rows.uptoBulk]
  | nil => simp [Rows.uptoBulk]
  | ptr d => simp [Rows.uptoBulk]
  | slice elems spare => simp [Rows.uptoBulk]
  | agg parts => simp [Rows.uptoBulk]
  | iface t d => simp [Rows.uptoBulk]
  | map entries => simp [Rows.uptoBulk]
  | held h => simp [Rows.uptoBulk]
theorem length_le {H : Type} (l : List (DataW H)) : l.length ≤ Rows.uptoBulkAll l := by
  induction l with
  | nil => simp [Rows.uptoBulkAll]
  | cons x r ih => have := one_le x; simp only [Rows.uptoBulkAll, List.length_cons]; omega
theorem of_slice {H : Type} {d : DataW H} {p q : List MemPlace} {k : IntKind} {zs : List Int} {n : Nat} (h : (d, p) = (DataW.slice (lits k (zs.take n)) (lits k (zs.drop n)), q)) (hn : n ≤ zs.length) : n ≤ Rows.uptoBulk d := by
  obtain ⟨rfl, -⟩ := Prod.mk.inj h
  have h1 := length_le (H := H) (lits k (zs.take n))
  simp only [lits, List.length_map, List.length_take] at h1
  simp only [Rows.uptoBulk, lits]
  omega
theorem bound {H : Type} {l : List (DataW H)} (hk : Rows.uptoSmall H l = true) : Rows.uptoBulkAll l ≤ 1048576 := of_decide_eq_true hk
end Go.Proofs.Ytccleelhheilnaa.bulks
