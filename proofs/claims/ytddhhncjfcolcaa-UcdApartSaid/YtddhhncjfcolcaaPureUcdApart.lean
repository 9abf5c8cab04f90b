/- UcdApart, over numbers and lists alone: the ranges lie apart, in order; the class is the one range's that holds the number. -/
import Derived.Test.YtddhhncjfcolcaaFx18
import Derived.Test.YtddhhncjfcolcaaPureUcdPairs
import Derived.Test.YtddhhncjfcolcaaPureUcdRanges
namespace Go.Proofs.Ytddhhncjfcolcaa.Pure
open Go.RowKit Go.Proofs.Ytddhhncjfcolcaa.F Go.Proofs.YtddhhncjfcolcaaW.PrintWords Go.Proofs.YtddhhncjfcolcaaW.PrintLast

/-- The rows from i on, over the class found so far. -/
def upon (a0 : Int) (c : Int) (l : List S65) : Int := l.foldl (fun c r => if r.f0 ≤ a0 ∧ a0 ≤ r.f1 then r.f2 else c) c
theorem upon_miss (a0 : Int) : ∀ (l : List S65) (c : Int), (∀ y ∈ l, ¬ (y.f0 ≤ a0 ∧ a0 ≤ y.f1)) → upon a0 c l = c
  | [], c, _ => rfl
  | x :: l, c, h => by
    unfold upon
    rw [List.foldl_cons, if_neg (h x (by simp))]
    exact upon_miss a0 l c (fun y hy => h y (by simp [hy]))
theorem upon_find (a0 : Int) : ∀ (l : List S65) (c : Int), rises l = true → upon a0 c l = (match l.find? (tabHas a0) with | some x => x.f2 | none => c)
  | [], c, _ => rfl
  | x :: l, c, h => by
    unfold upon
    rw [List.foldl_cons, List.find?_cons]
    by_cases hx : x.f0 ≤ a0 ∧ a0 ≤ x.f1
    · rw [if_pos hx, show tabHas a0 x = true from by simp [tabHas, hx.1, hx.2]]
      exact upon_miss a0 l _ (fun y hy hh => by have := rises_behind h y hy; omega)
    · rw [if_neg hx, show tabHas a0 x = false from by simp only [tabHas]; by_cases h1 : x.f0 ≤ a0 <;> by_cases h2 : a0 ≤ x.f1 <;> simp_all]
      exact upon_find a0 l c (rises_tail h)
theorem upon_cons (a0 c : Int) (r : S65) (l : List S65) : upon a0 c (r :: l) = upon a0 (if r.f0 ≤ a0 ∧ a0 ≤ r.f1 then r.f2 else c) l := rfl
theorem upon_nil (a0 c : Int) : upon a0 c [] = c := rfl
theorem rows_fine : ∀ i, i < 147 → (rd_T43 rows43 (i : Nat)).f0 ≤ (rd_T43 rows43 (i : Nat)).f1 ∧ 1 ≤ (rd_T43 rows43 (i : Nat)).f2 ∧ (rd_T43 rows43 (i : Nat)).f2 ≤ 23 := by decide +kernel
theorem rows_apart : ∀ i, i < 146 → (rd_T43 rows43 (i : Nat)).f1 < (rd_T43 rows43 ((i + 1 : Nat) : Int)).f0 := by decide +kernel
theorem rows_len : rows_ucd_table.length = 147 := by decide +kernel
theorem rows_same : ∀ i, i < 147 → ((rd_T43 rows43 (i : Nat)).f0, (rd_T43 rows43 (i : Nat)).f1, (rd_T43 rows43 (i : Nat)).f2) = ((rows_ucd_table.getD i z65).f0, (rows_ucd_table.getD i z65).f1, (rows_ucd_table.getD i z65).f2) := by decide +kernel
section
attribute [local irreducible] upon clsOf
theorem apart_loop (a0 : Int) (R : List S43) (T : List S65) (hR : R.length = 147) (hT : T.length = 147)
    (fine : ∀ i, i < 147 → (rd_T43 R (i : Nat)).f0 ≤ (rd_T43 R (i : Nat)).f1 ∧ 1 ≤ (rd_T43 R (i : Nat)).f2 ∧ (rd_T43 R (i : Nat)).f2 ≤ 23) (apart : ∀ i, i < 146 → (rd_T43 R (i : Nat)).f1 < (rd_T43 R ((i + 1 : Nat) : Int)).f0)
    (same : ∀ i, i < 147 → ((rd_T43 R (i : Nat)).f0, (rd_T43 R (i : Nat)).f1, (rd_T43 R (i : Nat)).f2) = ((T.getD i z65).f0, (T.getD i z65).f1, (T.getD i z65).f2)) : ∀ (d k i : Nat) (c : Int), 147 - i = d → i ≤ 147 → 2 * d < k →
    colophonlaw03_UcdApart.l0 k a0 R c (i : Int) = some (clsOf a0 == (if c = 0 then 0 else upon a0 c (T.drop i))) := by
  intro d
  induction d with
  | zero =>
    intro k i c hd hi hk
    obtain ⟨k, rfl⟩ : ∃ m, k = m + 1 := ⟨k - 1, by omega⟩
    simp only [colophonlaw03_UcdApart.l0, hR]
    rw [if_neg (by omega), List.drop_eq_nil_of_le (by rw [hT]; omega)]
    simp only [ucd_Class.f, Option.bind_some, upon_nil]
    by_cases hc : c = 0
    · rw [if_pos hc, hc]
    · rw [if_neg hc]
  | succ d ih =>
    intro k i c hd hi hk
    obtain ⟨k, rfl⟩ : ∃ m, k = m + 2 := ⟨k - 2, by omega⟩
    have q1 : 147 - (i + 1) = d := by omega
    have q2 : i + 1 ≤ 147 := by omega
    have q3 : 2 * d < k := by omega
    have q4 : i < 147 := by omega
    have q5 : (0 : Int) ≤ (i : Int) := by omega
    have q6 : (i : Int) < ((147 : Nat) : Int) := by omega
    have hw : wrap64 ((i : Int) + 1) = ((i + 1 : Nat) : Int) := by unfold wrap64; omega
    have hlt : i < T.length := by rw [hT]; exact q4
    have hget : T.getD i z65 = T[i] := by rw [List.getD_eq_getElem?_getD, List.getElem?_eq_getElem hlt, Option.getD_some]
    have hf := fine i q4
    have hs := same i q4
    rw [hget] at hs
    obtain ⟨f0, f1, f2⟩ := hf
    have e0 := congrArg (·.1) hs
    have e1 := congrArg (·.2.1) hs
    have e2 := congrArg (·.2.2) hs
    dsimp only at e0 e1 e2
    have ih' := fun c => ih k (i + 1) c q1 q2 q3
    clear hs ih q1 q2 q3 hd hi hk hget
    have hj : colophonlaw03_UcdApart.j4 (k + 1) a0 R c (i : Int) false = some (clsOf a0 == (if c = 0 then 0 else upon a0 c (T.drop i))) := by
      simp only [colophonlaw03_UcdApart.j4, hR]
      rw [if_neg (by decide), hw, List.drop_eq_getElem_cons hlt, upon_cons, ← e0, ← e1, ← e2]
      by_cases hc : c = 0
      · rw [if_pos hc, if_pos hc, ih' c, if_pos hc]
      · rw [if_neg hc, if_neg hc, if_pos q5, if_pos q6]
        by_cases h1 : a0 ≥ (rd_T43 R (i : Nat)).f0
        · by_cases h2 : a0 ≤ (rd_T43 R (i : Nat)).f1
          · have hne : ¬ (rd_T43 R (i : Nat)).f2 = 0 := fun h => by rw [h] at f1; exact absurd f1 (by decide)
            rw [if_pos h1, if_pos h2, if_pos ⟨h1, h2⟩, ih', if_neg hne]
          · rw [if_pos h1, if_neg h2, if_neg (fun h => h2 h.2), ih', if_neg hc]
        · rw [if_neg h1, if_neg (fun h => h1 h.1), ih', if_neg hc]
    clear ih' e0 e1 e2
    rw [show k + 2 = (k + 1) + 1 from rfl]
    rw [colophonlaw03_UcdApart.l0]
    simp only [hR]
    rw [if_pos q6, if_pos q5, if_neg (Int.not_lt.2 f0)]
    by_cases h0 : i = 0
    · subst h0
      rw [if_neg (by decide), if_neg (Int.not_lt.2 f1), decide_eq_false (Int.not_lt.2 f2)]
      exact hj
    · obtain ⟨j, rfl⟩ : ∃ j, i = j + 1 := ⟨i - 1, by omega⟩
      have ha := apart j (by omega)
      have r1 : (0 : Int) < ((j + 1 : Nat) : Int) := by omega
      have r2 : (0 : Int) ≤ (j : Int) := by omega
      have r3 : (j : Int) < ((147 : Nat) : Int) := by omega
      rw [if_pos r1, show wrap64 (((j + 1 : Nat) : Int) - 1) = (j : Int) from by unfold wrap64; omega, if_pos r2, if_pos r3, if_neg (Int.not_le.2 ha), if_neg (Int.not_lt.2 f1), decide_eq_false (Int.not_lt.2 f2)]
      exact hj
end
theorem UcdApart : colophonlaw03_UcdApart.Pure := by
  intro a0 _
  refine ⟨1000, ?_⟩
  unfold colophonlaw03_UcdApart.f
  rw [own_big (by decide), works3]
  simp only [Option.bind_some, rows43_len]
  rw [if_pos trivial]
  have hno : scl a0 = false → clsOf a0 = 0 := fun h => by unfold clsOf; rw [if_neg (by rw [h]; decide)]
  have hyes : scl a0 = true → clsOf a0 = upon a0 1 rows_ucd_table := fun h => by
    unfold clsOf tabCls
    rw [if_pos h, upon_find a0 _ 1 rises_rows]
    cases List.find? (tabHas a0) rows_ucd_table <;> rfl
  have e0 : ∀ k, 300 < k → colophonlaw03_UcdApart.l0 k a0 rows43 0 0 = some (clsOf a0 == 0) := fun k hk => by
    have := apart_loop a0 rows43 rows_ucd_table rows43_len rows_len rows_fine rows_apart rows_same 147 k 0 0 rfl (by decide) (by omega)
    simpa using this
  have e1 : ∀ k, 300 < k → colophonlaw03_UcdApart.l0 k a0 rows43 1 0 = some (clsOf a0 == upon a0 1 rows_ucd_table) := fun k hk => by
    have := apart_loop a0 rows43 rows_ucd_table rows43_len rows_len rows_fine rows_apart rows_same 147 k 0 1 rfl (by decide) (by omega)
    simpa using this
  have f0 : scl a0 = false → some (clsOf a0 == 0) = some true := fun h => by rw [hno h]; rfl
  have f1 : scl a0 = true → some (clsOf a0 == upon a0 1 rows_ucd_table) = some true := fun h => by rw [hyes h]; simp
  simp only [colophonlaw03_UcdApart.j0, colophonlaw03_UcdApart.j1, colophonlaw03_UcdApart.j2]
  rw [if_neg (by decide)]
  by_cases h1 : a0 < 0
  · rw [if_pos h1, if_pos trivial, e0 _ (by decide)]
    exact f0 (by simp only [scl, decide_eq_false_iff_not]; omega)
  · rw [if_neg h1]
    by_cases h2 : a0 > 1114111
    · rw [if_pos h2, if_pos trivial, e0 _ (by decide)]
      exact f0 (by simp only [scl, decide_eq_false_iff_not]; omega)
    · rw [if_neg h2]
      by_cases h3 : a0 ≥ 55296
      · rw [if_pos h3]
        by_cases h4 : a0 ≤ 57343
        · rw [if_pos (by simpa using h4), e0 _ (by decide)]
          exact f0 (by simp only [scl, decide_eq_false_iff_not]; omega)
        · rw [if_neg (by simpa using h4), e1 _ (by decide)]
          exact f1 (by simp only [scl, decide_eq_true_eq]; omega)
      · rw [if_neg h3, if_neg (by decide), e1 _ (by decide)]
        exact f1 (by simp only [scl, decide_eq_true_eq]; omega)
end Go.Proofs.Ytddhhncjfcolcaa.Pure
