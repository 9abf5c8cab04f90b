/- The reference's list answers, told: Class, Break, Breaks. -/
import Derived.Test.YtenjldfflkinkaaFGRopY
namespace Go.Proofs.Ytenjldfflkinkaa.Rop
set_option linter.unusedVariables false
set_option linter.unusedSimpArgs false
open Go.RowKit Go.Proofs.Ytenjldfflkinkaa.F Go.Proofs.YtenjldfflkinkaaW.PrintWords Go.Proofs.YtenjldfflkinkaaW.PrintLast Go.Proofs.YtenjldfflkinkaaW.PrintMore
def hasT (a0 : Int) (x : Int × Int × Int) : Bool := decide (x.1 ≤ a0) && decide (a0 ≤ x.2.1)
def asS (x : Int × Int × Int) : S133 := ⟨x.1, x.2.1, x.2.2⟩
def outT : Option (Int × Int × Int) → Int
  | some x => x.2.2
  | none => 1
theorem tabCls_eq (a0 : Int) : tabCls a0 = outT (tabRows.find? (hasT a0)) := by
  unfold tabCls rows_ucd_table
  rw [List.find?_map]
  have : (tabHas a0 ∘ fun x : Int × Int × Int => (⟨x.1, x.2.1, x.2.2⟩ : S128)) = hasT a0 := by
    funext x; rfl
  rw [this]
  cases tabRows.find? (hasT a0) <;> rfl
theorem cls_loop (a0 : Int) (hw : wrap64 a0 = a0) (l : List (Int × Int × Int)) (hl : l.length ≤ 1000) : ∀ (d k i : Nat), l.length - i = d → i ≤ l.length → d < k →
    colophonref03_Class.l0 k a0 (l.map asS) (i : Int) = some (outT ((l.drop i).find? (hasT a0))) := by
  intro d
  induction d with
  | zero =>
    intro k i hd hi hk
    obtain ⟨k, rfl⟩ : ∃ m, k = m + 1 := ⟨k - 1, by omega⟩
    simp only [colophonref03_Class.l0, List.length_map]
    rw [if_neg (by omega), List.drop_eq_nil_of_le (by omega)]
    rfl
  | succ d ih =>
    intro k i hd hi hk
    obtain ⟨k, rfl⟩ : ∃ m, k = m + 1 := ⟨k - 1, by omega⟩
    have hlt : i < l.length := by omega
    have hr : rd_T133 (l.map asS) (i : Int) = asS l[i] := by
      simp only [rd_T133, Int.toNat_natCast, List.getD_eq_getElem?_getD, List.getElem?_map, List.getElem?_eq_getElem hlt, Option.map_some, Option.getD_some]
    simp only [colophonref03_Class.l0, List.length_map, hr, hw, asS]
    rw [if_pos (by omega), if_pos (by omega), List.drop_eq_getElem_cons hlt, List.find?_cons, show wrap64 ((i : Int) + 1) = ((i + 1 : Nat) : Int) from by unfold wrap64; omega]
    by_cases h1 : l[i].1 ≤ a0
    · by_cases h2 : a0 ≤ l[i].2.1
      · rw [if_pos h1, if_pos h2, show hasT a0 l[i] = true from by simp [hasT, h1, h2]]
        rfl
      · rw [if_pos h1, if_neg h2, show hasT a0 l[i] = false from by simp [hasT, h2]]
        exact ih k (i + 1) (by omega) (by omega) (by omega)
    · rw [if_neg h1, show hasT a0 l[i] = false from by simp [hasT, h1]]
      exact ih k (i + 1) (by omega) (by omega) (by omega)
theorem size_no {a0 : Int} (k : Nat) (hw : wrap64 a0 = a0) (h : scl a0 = false) : colophonref01_Size.f (k + 1) a0 = some 0 := by
  simp only [scl, decide_eq_false_iff_not, not_or, not_and] at h
  unfold colophonref01_Size.f
  rw [hw]
  simp only [colophonref01_Size.j0]
  by_cases h1 : a0 < 0
  · rw [if_pos h1, if_pos trivial]
  · rw [if_neg h1]
    by_cases h2 : a0 > 1114111
    · rw [if_pos h2, if_pos trivial]
    · rw [if_neg h2, if_pos (by omega), if_pos (by simp; omega)]
theorem size_yes {a0 : Int} (k : Nat) (hw : wrap64 a0 = a0) (h : scl a0 = true) : ∃ n, n ≠ 0 ∧ colophonref01_Size.f (k + 1) a0 = some n := by
  simp only [scl, decide_eq_true_eq] at h
  unfold colophonref01_Size.f
  rw [hw]
  simp only [colophonref01_Size.j0]
  rw [if_neg (by omega), if_neg (by omega)]
  have e : ∀ b : Bool, b = false → ∃ n, n ≠ 0 ∧ (if b = true then some 0 else (if a0 < 128 then (some 1) else (if a0 < 2048 then (some 2) else (if a0 < 65536 then (some 3) else (some 4))))) = some (n : Int) := by
    intro b hb
    subst hb
    rw [if_neg (by decide)]
    split
    · exact ⟨1, by decide, rfl⟩
    · split
      · exact ⟨2, by decide, rfl⟩
      · split
        · exact ⟨3, by decide, rfl⟩
        · exact ⟨4, by decide, rfl⟩
  split
  · exact e _ (by simp; omega)
  · exact e _ rfl
theorem rows_len : tabRows.length = 147 := by kernel_rfl
theorem rows_asS : rows_colophonref03_ranges = tabRows.map asS := by unfold rows_colophonref03_ranges asS; rfl
theorem ref_class {a0 : Int} {k : Nat} (hk : 147 < k) (hw : wrap64 a0 = a0) : colophonref03_Class.f k a0 = some (clsOf a0) := by
  unfold colophonref03_Class.f clsOf
  obtain ⟨k, rfl⟩ : ∃ m, k = m + 1 := ⟨k - 1, by omega⟩
  by_cases h : scl a0 = true
  · obtain ⟨n, h1, h2⟩ := size_yes k hw h
    rw [h2, if_pos h, tabCls_eq]
    simp only [Option.bind_some]
    rw [if_neg h1]
    have := cls_loop a0 hw tabRows (by rw [rows_len]; decide) 147 (k + 1) 0 (by rw [rows_len]) (by omega) (by omega)
    rw [List.drop_zero] at this
    simp only [colophonref03_ranges.f, Option.bind_some, rows_asS]
    exact this
  · rw [size_no k hw (by simpa using h), if_neg h]
    rfl
theorem ref_break {a : Int} {k : Nat} (hk : 147 < k) (hw : wrap64 a = a) : colophonref04_Break.f k a = some (sep a) := by
  unfold colophonref04_Break.f
  rw [ref_class hk hw]
  simp only [Option.bind_some, sep]
  congr 1
/-- runes are numbers of 32 bits -/
def Runes (l : List Int) : Prop := ∀ n ∈ l, wrap64 n = n
theorem breaks_lp (l : List Int) (hl : l.length ≤ 1000000000000) (hr : Runes l) : ∀ (d k i : Nat) (m : Nat), l.length - i = d → i ≤ l.length → d + 148 < k → m ≤ i →
    colophonref04_Breaks.l0 k l (m : Int) (i : Int) = some ((m + (l.drop i).countP sep : Nat) : Int) := by
  intro d
  induction d with
  | zero =>
    intro k i m hd hi hk hm
    obtain ⟨k, rfl⟩ : ∃ m, k = m + 1 := ⟨k - 1, by omega⟩
    simp only [colophonref04_Breaks.l0]
    rw [if_neg (by omega), List.drop_eq_nil_of_le (by omega)]
    simp
  | succ d ih =>
    intro k i m hd hi hk hm
    obtain ⟨k, rfl⟩ : ∃ m, k = m + 1 := ⟨k - 1, by omega⟩
    have hlt : i < l.length := by omega
    have hrd : rd l (i : Int) = l[i] := by simp [rd, hlt]
    simp only [colophonref04_Breaks.l0, hrd]
    rw [if_pos (by omega), if_pos (by omega), ref_break (by omega) (hr _ (List.getElem_mem hlt)), List.drop_eq_getElem_cons hlt, List.countP_cons, show wrap64 ((i : Int) + 1) = ((i + 1 : Nat) : Int) from by unfold wrap64; omega]
    simp only [Option.bind_some]
    by_cases h : sep l[i] = true
    · rw [if_pos h, if_pos h, show wrap64 ((m : Int) + 1) = ((m + 1 : Nat) : Int) from by unfold wrap64; omega, ih k (i + 1) (m + 1) (by omega) (by omega) (by omega) (by omega)]
      congr 2
      omega
    · rw [if_neg h, if_neg h, ih k (i + 1) m (by omega) (by omega) (by omega) (by omega)]
      congr 2
theorem ref_breaks (l : List Int) (hl : l.length ≤ 1000000000000) (hr : Runes l) : colophonref04_Breaks.f (l.length + 149) l = some ((l.countP sep : Nat) : Int) := by
  unfold colophonref04_Breaks.f
  have := breaks_lp l hl hr l.length (l.length + 149) 0 0 (by omega) (by omega) (by omega) (by omega)
  rw [List.drop_zero, Nat.zero_add] at this
  exact this
theorem RefBreaks_L {w : World} {A : Option Addr} {c : Nat} {l : List Int} (hC : Kd.C (Kd.int .i32) w A l.length l) (hc : l.length ≤ c) (hl : l.length ≤ 1000000000000) (hr : Runes l) :
    Calls Try.prog 54 #[.slice A l.length c] w fun e w' => e = .returned (.int .i64 ((l.countP sep : Nat) : Int)) ∧ Below w.heap.size w w' :=
  colophonref04_Breaks.calls _ A c l _ w hC hc (ref_breaks l hl hr)
end Go.Proofs.Ytenjldfflkinkaa.Rop
