/- The document's spots are the program's, as pairs of whole numbers. -/
import Derived.Test.YtccleelhheilnaaSx6
import Derived.Test.YtccleelhheilnaaW15T
import Derived.Test.YtccleelhheilnaaColT
namespace Go.Proofs.Ytccleelhheilnaa.Pure
set_option linter.unusedVariables false
set_option linter.unusedSimpArgs false
set_option linter.unusedSectionVars false
open Go.RowKit Go.Proofs.Ytccleelhheilnaa.F Go.Proofs.Ytccleelhheilnaa.Flo Go.Proofs.YtccleelhheilnaaW.PrintWords Go.Proofs.YtccleelhheilnaaW.PrintLast

abbrev Pr := S.S45
def prOf (z : Cx) : Pr := ⟨z.re, z.im⟩
def prL (l : List Cx) : List Pr := l.map prOf
theorem prL_at {l : List Cx} {i : Nat} (h : i < l.length) : S.rd_T45 (prL l) (i : Int) = prOf l[i] := by
  have h2 : i < (prL l).length := by simpa [prL] using h
  simp only [S.rd_T45, Int.toNat_natCast, List.getD_eq_getElem?_getD, List.getElem?_eq_getElem h2, Option.getD_some]
  simp [prL]
theorem ref_columns {l : List Int} {n : Nat} (hl : l.length ≤ 200) (hn : n ≤ 200) (hf : fitB l (n : Int) = true) {k : Nat} (hk : 120000 ≤ k) : colophonref13_Columns.f k l (n : Int) = some (colsOf l n, 0) := by
  obtain ⟨k, rfl⟩ : ∃ m, k = m + 1 := ⟨k - 1, by omega⟩
  unfold colophonref13_Columns.f
  rw [if_neg (by omega)]
  simp only [colophonref13_Columns.j0]
  have h := rc_loop l n (by omega) (by omega) l.length k 0 (by omega) (by omega) (by omega) ⟨by simp, by simp⟩
  rw [if_pos hf, Int.natCast_zero] at h
  rw [if_neg (by simp; omega)]
  exact h
theorem posn_idx : ∀ {l : List Int} {x : Int} (k : Int), x ∈ l → posnF l x k = k + (l.idxOf x : Nat)
  | [], _, _, h => by simp at h
  | y :: l, x, k, h => by
    by_cases e : y = x
    · rw [posnF, if_pos e, List.idxOf_cons]
      simp [e]
    · have h2 : x ∈ l := (List.mem_cons.1 h).resolve_left (fun e2 => e e2.symm)
      rw [posnF, if_neg e, posn_idx (k + 1) h2, List.idxOf_cons]
      have : (y == x) = false := by simpa using e
      simp only [this, cond_false]
      omega
section
variable {A : List Int} (H : LineOf A)
include H
theorem cols_col {i : Nat} (hi : i < A.length) (h : 0 ≤ lev A i) : rd (colsOf (ordered A) A.length) (i : Int) = col (ordered A) i := by
  rw [cols_at _ _ (by omega) (by omega), posn_idx 0 ((ordered_mem A _).2 ((seen_lev hi).2 h))]
  unfold col
  omega
theorem line_fit : fitB (ordered A) (A.length : Int) = true := by
  unfold fitB
  exact decide_eq_true ⟨ordered_nodup H.fine, fun x hx => by
    have := (ordered_mem A x).1 hx
    exact ⟨this.1, this.2.1⟩⟩
theorem line_fine {i : Nat} (hi : i < A.length) : -1 ≤ lev A i ∧ lev A i ≤ 127 := by
  have h := List.all_eq_true.1 H.fine A[i] (List.getElem_mem hi)
  have e : lev A i = A[i] := by simp [lev, List.getD_eq_getElem?_getD, List.getElem?_eq_getElem hi]
  rw [e]
  simpa [fineB] using h
theorem lean_ref {i : Nat} (hi : i < A.length) (h : 0 ≤ lev A i) : wrap64 (1 - wrap64 (2 * (Int.tmod (rd A (i : Int)) 2))) = leanOf A i := by
  have hf := line_fine H hi
  rw [rd_lev]
  unfold leanOf
  rw [Int.tmod_eq_emod_of_nonneg h]
  split <;> unfold wrap64 <;> omega
/-- the inner loop: on to the next place that is seen -/
theorem ref_next (hA : A.length ≤ 100) (out : List Pr) (ho : out.length ≤ 100) (i : Nat) (hi : i < A.length) : ∀ (d k j : Nat), A.length - j = d → i ≤ j → j < A.length → (∀ q, i ≤ q → q < j → ¬ 0 ≤ lev A q) → d < k →
    ∃ k', k ≤ k' + d + 1 ∧ S.colophonref15_Spots.l1 k A (colsOf (ordered A) A.length) out (i : Int) (j : Int) = S.colophonref15_Spots.l0 k' A (colsOf (ordered A) A.length) (out ++ [prOf (spAt A (ordered A) i)]) ((i + 1 : Nat) : Int) := by
  have hcl := cols_len (ordered A) A.length
  intro d
  induction d with
  | zero =>
    intro k j hd hij hj
    omega
  | succ d ih =>
    intro k j hd hij hj hb hk
    obtain ⟨k, rfl⟩ : ∃ m, k = m + 1 := ⟨k - 1, by omega⟩
    simp only [S.colophonref15_Spots.l1]
    rw [if_pos (by omega), if_pos (by omega), rd_lev]
    by_cases h : lev A j < 0
    · have hj2 : j + 1 < A.length := by
        by_cases e : j = A.length - 1
        · rw [e] at h
          have := H.last
          omega
        · omega
      obtain ⟨k', h1, h2⟩ := ih k (j + 1) (by omega) (by omega) hj2 (fun q h1 h2 => by
        by_cases e : q = j
        · rw [e]; omega
        · exact hb q h1 (by omega)) (by omega)
      rw [if_pos h, wr1 (by omega)]
      exact ⟨k', by omega, h2⟩
    · rw [if_neg h]
      have hc := cols_col H hj (by omega)
      -- the spot of place i
      have hre : ∀ e n, n - i = e → i ≤ n → n ≤ j → (spAt A (ordered A) i).re = (spAt A (ordered A) n).re := by
        intro e
        induction e with
        | zero =>
          intro n h1 h2 h3
          have : n = i := by omega
          rw [this]
        | succ e ihe =>
          intro n h1 h2 h3
          have h4 := ihe (n - 1) (by omega) (by omega) (by omega)
          have h5 := hb (n - 1) (by omega) (by omega)
          have h6 := spAt_miss (M := ordered A) h5 (by omega)
          rw [h4, h6]
          have : n - 1 + 1 = n := by omega
          rw [this]
      have hj0 := hre (j - i) j rfl hij (Nat.le_refl _)
      by_cases hij2 : (j : Int) = (i : Int)
      · have e : j = i := by omega
        subst e
        rw [if_pos rfl, if_pos (by omega), if_pos (by omega), if_pos (by omega), if_pos (by omega), wr1 (by omega), lean_ref H hj (by omega), hc]
        refine ⟨k, by omega, ?_⟩
        rw [spAt_seen (by omega)]
        rfl
      · rw [if_neg hij2, if_pos (by omega), if_pos (by omega), wr1 (by omega), hc]
        refine ⟨k, by omega, ?_⟩
        have hs : ¬ 0 ≤ lev A i := hb i (Nat.le_refl _) (by omega)
        have e1 : spAt A (ordered A) i = ⟨col (ordered A) j, 0⟩ := by
          have e2 := sp_im_miss H hi hs
          have e3 : (spAt A (ordered A) i).re = col (ordered A) j := by rw [hj0, spAt_seen (by omega)]
          cases hz : spAt A (ordered A) i with
          | mk x y =>
            rw [hz] at e2 e3
            simp only at e2 e3
            rw [e2, e3]
        rw [e1]
        rfl
theorem ref_fill15 (hA : A.length ≤ 100) : ∀ (d k i : Nat), A.length - i = d → i ≤ A.length → 110 * d + 2 < k →
    S.colophonref15_Spots.l0 k A (colsOf (ordered A) A.length) (prL ((spL A (ordered A)).take i)) (i : Int) = some (prL (spL A (ordered A)), 0) := by
  have hl := spL_len A (ordered A)
  intro d
  induction d with
  | zero =>
    intro k i hd hi hk
    obtain ⟨k, rfl⟩ : ∃ m, k = m + 1 := ⟨k - 1, by omega⟩
    obtain rfl : i = A.length := by omega
    simp only [S.colophonref15_Spots.l0]
    rw [if_neg (by omega), List.take_of_length_le (by omega)]
  | succ d ih =>
    intro k i hd hi hk
    obtain ⟨k, rfl⟩ : ∃ m, k = m + 1 := ⟨k - 1, by omega⟩
    have hlt : i < A.length := by omega
    simp only [S.colophonref15_Spots.l0]
    rw [if_pos (by omega)]
    obtain ⟨k', h1, h2⟩ := ref_next H hA (prL ((spL A (ordered A)).take i)) (by simp [prL]; omega) i hlt (A.length - i) k i rfl (Nat.le_refl _) hlt (fun q h1 h2 => by omega) (by omega)
    have e : prL ((spL A (ordered A)).take i) ++ [prOf (spAt A (ordered A) i)] = prL ((spL A (ordered A)).take (i + 1)) := by
      rw [List.take_succ_eq_append_getElem (by omega), spL_get]
      simp [prL]
    rw [h2, e]
    exact ih k' (i + 1) (by omega) (by omega) (by omega)
end
def refPair (L : List Int) (b : Int) : List Pr × Int := (prL (spPair L b).1, (spPair L b).2)
theorem ref_spots {L : List Int} (b : Int) (hL : L.length ≤ 60) {k : Nat} (hk : 200000 ≤ k) : S.colophonref15_Spots.f k L b = some (refPair L b) := by
  obtain ⟨k, rfl⟩ : ∃ m, k = m + 1 := ⟨k - 1, by omega⟩
  have e : S.colophonref15_Spots.f (k + 1) L b = S.colophonref15_Spots.j0 (k + 1) L b (decide (b < 0 ∨ b > 1)) := by
    unfold S.colophonref15_Spots.f
    by_cases h : b < 0
    · have e2 : decide (b < 0 ∨ b > 1) = true := by simp [h]
      rw [if_pos h, e2]
    · rw [if_neg h]
      by_cases h1 : b > 1
      · have e1 : decide (b > 1) = true := decide_eq_true h1
        have e2 : decide (b < 0 ∨ b > 1) = true := decide_eq_true (.inr h1)
        rw [e1, e2]
      · have e1 : decide (b > 1) = false := decide_eq_false h1
        have e2 : decide (b < 0 ∨ b > 1) = false := decide_eq_false (by omega)
        rw [e1, e2]
  rw [e]
  simp only [S.colophonref15_Spots.j0]
  unfold refPair spPair
  by_cases hb : b = 0 ∨ b = 1
  · have h1 : ¬ (decide (b < 0 ∨ b > 1) = true) := by simp; omega
    have e3 : (L ++ [b]).length = L.length + 1 := by simp
    rw [if_neg h1]
    simp only [Option.bind_some, List.length_nil, List.nil_append, Nat.zero_add]
    rw [if_pos (by omega), if_pos (by omega), ref_order (by omega) (by omega)]
    simp only [Option.bind_some]
    have ea : (L ++ [b]).all fineB = L.all fineB := by
      rw [List.all_append]
      have : [b].all fineB = true := by
        simp [fineB]
        omega
      rw [this, Bool.and_true]
    unfold orderPair
    by_cases hf : L.all fineB = true
    · have H := line_of hb hf
      have hf2 : (L ++ [b]).all fineB = true := by rw [ea]; exact hf
      have hlen := line_len H
      simp only [if_pos hf2]
      rw [if_pos (And.intro hb hf), if_pos trivial, ref_columns (by omega) (by omega) (line_fit H) (by omega), Option.bind_some]
      have := ref_fill15 H (by omega) (L ++ [b]).length k 0 (by omega) (by omega) (by omega)
      simpa [prL] using this
    · have hf2 : ¬ (L ++ [b]).all fineB = true := by rw [ea]; exact hf
      have hf3 : ¬ ((b = 0 ∨ b = 1) ∧ L.all fineB = true) := fun h => hf h.2
      simp only [if_neg hf2]
      rw [if_neg hf3, if_neg (by omega)]
      rfl
  · have h1 : decide (b < 0 ∨ b > 1) = true := by simp; omega
    rw [if_pos h1, if_neg (fun h => hb h.1)]
    rfl
end Go.Proofs.Ytccleelhheilnaa.Pure
