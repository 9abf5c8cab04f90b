/- UcdClasses, over numbers and lists alone: the class by the search is the class by the reference's straight look through the same rows. -/
import Derived.Test.YtddhhncjfcolcaaFx11
import Derived.OpenShut
namespace Go.Proofs.Ytddhhncjfcolcaa.Pure
open Go.RowKit Go.Proofs.Ytddhhncjfcolcaa.F Go.Proofs.YtddhhncjfcolcaaW.PrintWords Go.Proofs.YtddhhncjfcolcaaW.PrintLast

def hasT (a0 : Int) (x : Int × Int × Int) : Bool := decide (x.1 ≤ a0) && decide (a0 ≤ x.2.1)
def asS (x : Int × Int × Int) : S68 := ⟨x.1, x.2.1, x.2.2⟩
def outT : Option (Int × Int × Int) → Int
  | some x => x.2.2
  | none => 1
theorem tabCls_eq (a0 : Int) : tabCls a0 = outT (tabRows.find? (hasT a0)) := by
  unfold tabCls rows_ucd_table
  rw [List.find?_map]
  have : (tabHas a0 ∘ fun x : Int × Int × Int => (⟨x.1, x.2.1, x.2.2⟩ : S65)) = hasT a0 := by
    funext x; rfl
  rw [this]
  cases tabRows.find? (hasT a0) <;> rfl
theorem cls_loop (a0 : Int) (hw : wrap64 a0 = a0) (l : List (Int × Int × Int)) (hl : l.length ≤ 1000) : ∀ (d k i : Nat), l.length - i = d → i ≤ l.length → d < k →
    colophonref03_Class.l0 k a0 (l.map asS) (i : Int) = some (outT ((l.drop i).find? (hasT a0))) := by
  intro d
  induction d with
  | zero =>
    intro k i hd hi hk
    obtain ⟨k, rfl⟩ : ∃ m, k = m + 1 := ⟨k - 1, by omega⟩
    simp only [colophonref03_Class.l0, List.length_map]
    rw [if_neg (by omega), List.drop_eq_nil_of_le (by omega)]
    rfl
  | succ d ih =>
    intro k i hd hi hk
    obtain ⟨k, rfl⟩ : ∃ m, k = m + 1 := ⟨k - 1, by omega⟩
    have hlt : i < l.length := by omega
    have hr : rd_T68 (l.map asS) (i : Int) = asS l[i] := by
      simp only [rd_T68, Int.toNat_natCast, List.getD_eq_getElem?_getD, List.getElem?_map, List.getElem?_eq_getElem hlt, Option.map_some, Option.getD_some]
    simp only [colophonref03_Class.l0, List.length_map, hr, hw, asS]
    rw [if_pos (by omega), if_pos (by omega), List.drop_eq_getElem_cons hlt, List.find?_cons, show wrap64 ((i : Int) + 1) = ((i + 1 : Nat) : Int) from by unfold wrap64; omega]
    by_cases h1 : l[i].1 ≤ a0
    · by_cases h2 : a0 ≤ l[i].2.1
      · rw [if_pos h1, if_pos h2, show hasT a0 l[i] = true from by simp [hasT, h1, h2]]
        rfl
      · rw [if_pos h1, if_neg h2, show hasT a0 l[i] = false from by simp [hasT, h2]]
        exact ih k (i + 1) (by omega) (by omega) (by omega)
    · rw [if_neg h1, show hasT a0 l[i] = false from by simp [hasT, h1]]
      exact ih k (i + 1) (by omega) (by omega) (by omega)
theorem size_no {a0 : Int} (k : Nat) (hw : wrap64 a0 = a0) (h : scl a0 = false) : colophonref01_Size.f (k + 1) a0 = some 0 := by
  simp only [scl, decide_eq_false_iff_not, not_or, not_and] at h
  unfold colophonref01_Size.f
  rw [hw]
  simp only [colophonref01_Size.j0]
  by_cases h1 : a0 < 0
  · rw [if_pos h1, if_pos trivial]
  · rw [if_neg h1]
    by_cases h2 : a0 > 1114111
    · rw [if_pos h2, if_pos trivial]
    · rw [if_neg h2, if_pos (by omega), if_pos (by simp; omega)]
theorem size_yes {a0 : Int} (k : Nat) (hw : wrap64 a0 = a0) (h : scl a0 = true) : ∃ n, n ≠ 0 ∧ colophonref01_Size.f (k + 1) a0 = some n := by
  simp only [scl, decide_eq_true_eq] at h
  unfold colophonref01_Size.f
  rw [hw]
  simp only [colophonref01_Size.j0]
  rw [if_neg (by omega), if_neg (by omega)]
  have e : ∀ b : Bool, b = false → ∃ n, n ≠ 0 ∧ (if b = true then some 0 else (if a0 < 128 then (some 1) else (if a0 < 2048 then (some 2) else (if a0 < 65536 then (some 3) else (some 4))))) = some (n : Int) := by
    intro b hb
    subst hb
    rw [if_neg (by decide)]
    split
    · exact ⟨1, by decide, rfl⟩
    · split
      · exact ⟨2, by decide, rfl⟩
      · split
        · exact ⟨3, by decide, rfl⟩
        · exact ⟨4, by decide, rfl⟩
  split
  · exact e _ (by simp; omega)
  · exact e _ rfl
theorem rows_len : tabRows.length = 147 := by kernel_rfl
theorem rows_asS : rows_colophonref03_ranges = tabRows.map asS := by unfold rows_colophonref03_ranges asS; rfl
theorem ref_class {a0 : Int} {k : Nat} (hk : 147 < k) (hw : wrap64 a0 = a0) : colophonref03_Class.f k a0 = some (clsOf a0) := by
  unfold colophonref03_Class.f clsOf
  obtain ⟨k, rfl⟩ : ∃ m, k = m + 1 := ⟨k - 1, by omega⟩
  by_cases h : scl a0 = true
  · obtain ⟨n, h1, h2⟩ := size_yes k hw h
    rw [h2, if_pos h, tabCls_eq]
    simp only [Option.bind_some]
    rw [if_neg h1]
    have := cls_loop a0 hw tabRows (by rw [rows_len]; decide) 147 (k + 1) 0 (by rw [rows_len]) (by omega) (by omega)
    rw [List.drop_zero] at this
    simp only [colophonref03_ranges.f, Option.bind_some, rows_asS]
    exact this
  · rw [size_no k hw (by simpa using h), if_neg h]
    rfl
theorem wrap64_i32 {a0 : Int} (w0 : (Lit.int .i32 a0).wf = true) : wrap64 a0 = a0 := by
  have := bounds_i32 w0
  unfold wrap64
  omega
theorem cls97 : clsOf 97 = 1 := by decide +kernel
theorem UcdClasses : colophonlaw03_UcdClasses.Pure := by
  intro a0 w0
  refine ⟨200, ?_⟩
  unfold colophonlaw03_UcdClasses.f colophonlaw03_names.f
  rw [ref_class (by decide) (wrap64_i32 w0)]
  simp [ucd_Class.f, cls97]
end Go.Proofs.Ytddhhncjfcolcaa.Pure
