/- PickRuns, over lists alone: the document's runs are the program's. -/
import Derived.Test.YtccleelhheilnaaFx29
import Derived.Test.YtccleelhheilnaaW16T
namespace Go.Proofs.Ytccleelhheilnaa.Pure
set_option linter.unusedVariables false
set_option linter.unusedSimpArgs false
open Go.RowKit Go.Proofs.Ytccleelhheilnaa.F Go.Proofs.YtccleelhheilnaaW.PrintWords Go.Proofs.YtccleelhheilnaaW.PrintLast

theorem ref_marked (P : List Int) (fr te : Int) (n : Nat) : colophonref16_marked.f P (n : Int) fr te = some (decide (mk P fr te n)) := by
  unfold colophonref16_marked.f
  rw [if_pos (by omega)]
  by_cases h : n < P.length
  · rw [if_pos (by omega), if_pos (by omega), rd_lev]
    by_cases h1 : lev P n ≥ fr
    · rw [if_pos h1]
      congr 1
      by_cases h2 : lev P n < te
      · rw [decide_eq_true h2, decide_eq_true]
        exact ⟨h, by unfold inB; exact decide_eq_true ⟨h1, h2⟩⟩
      · rw [decide_eq_false h2, decide_eq_false]
        rintro ⟨-, h3⟩
        unfold inB at h3
        exact h2 (of_decide_eq_true h3).2
    · rw [if_neg h1, decide_eq_false]
      rintro ⟨-, h3⟩
      unfold inB at h3
      exact h1 (of_decide_eq_true h3).1
  · rw [if_neg (by omega), decide_eq_false (fun h3 => h h3.1)]
theorem ref_marked_neg (P : List Int) (fr te x : Int) (hx : x < 0) : colophonref16_marked.f P x fr te = some false := by
  unfold colophonref16_marked.f
  rw [if_neg (by omega)]
/-- the first column from a on that isn't marked, d columns ahead of the end -/
def firstNo (P : List Int) (fr te : Int) : Nat → Nat → Nat
  | 0, a => a
  | d + 1, a => if mk P fr te a then firstNo P fr te d (a + 1) else a
theorem firstNo_in (P : List Int) (fr te : Int) {a : Nat} (h : mk P fr te a) : firstNo P fr te (P.length - a) a = firstNo P fr te (P.length - (a + 1)) (a + 1) := by
  have := h.1
  obtain ⟨d, hd⟩ : ∃ d, P.length - a = d + 1 := ⟨P.length - a - 1, by omega⟩
  have e : P.length - (a + 1) = d := by omega
  rw [hd, firstNo, if_pos h, e]
theorem firstNo_out (P : List Int) (fr te : Int) {a : Nat} (h : ¬ mk P fr te a) : firstNo P fr te (P.length - a) a = a := by
  cases hd : P.length - a with
  | zero => rfl
  | succ d => rw [firstNo, if_neg h]
/-- what the document has at column a -/
def soFar (P : List Int) (fr te : Int) (a : Nat) : List S45 := (strF P fr te a).1 ++ (if (strF P fr te a).2 < a then [⟨((strF P fr te a).2 : Int), (firstNo P fr te (P.length - a) a : Int)⟩] else [])
theorem soFar_len (P : List Int) (fr te : Int) (a : Nat) : (soFar P fr te a).length ≤ a + 1 := by
  unfold soFar
  rw [List.length_append]
  have := str_len P fr te a
  split <;> simp <;> omega
theorem soFar_out (P : List Int) (fr te : Int) {a : Nat} (h : ¬ mk P fr te a) : soFar P fr te (a + 1) = soFar P fr te a := by
  unfold soFar
  by_cases hb : (strF P fr te a).2 < a
  · rw [str_out h hb, if_neg (Nat.lt_irrefl _), if_pos hb, firstNo_out P fr te h, List.append_nil]
  · rw [str_skip h hb, if_neg (Nat.lt_irrefl _), if_neg hb]
theorem soFar_on (P : List Int) (fr te : Int) {a : Nat} (h : mk P fr te a) (hb : (strF P fr te a).2 < a) : soFar P fr te (a + 1) = soFar P fr te a := by
  unfold soFar
  rw [str_in h.1 h.2, if_pos hb, if_pos (by omega), firstNo_in P fr te h]
theorem soFar_new (P : List Int) (fr te : Int) {a : Nat} (h : mk P fr te a) (hb : ¬ (strF P fr te a).2 < a) : soFar P fr te (a + 1) = soFar P fr te a ++ [⟨(a : Int), (firstNo P fr te (P.length - a) a : Int)⟩] := by
  have hbg := str_begin P fr te a
  have e : (strF P fr te a).2 = a := by omega
  unfold soFar
  rw [str_in h.1 h.2, e, if_neg (Nat.lt_irrefl _), if_pos (by omega), firstNo_in P fr te h, List.append_nil]
theorem soFar_all (P : List Int) (fr te : Int) : soFar P fr te P.length = strs P fr te := by
  have hm : ¬ mk P fr te P.length := fun h => absurd h.1 (Nat.lt_irrefl _)
  rw [← soFar_out P fr te hm]
  unfold soFar strs
  rw [if_neg, List.append_nil]
  rw [begin_lt]
  exact hm
theorem rr_in (P : List Int) (fr te : Int) (hP : P.length ≤ 1000) (out : List S45) (ho : out.length ≤ 2000) (a : Nat) (K : Nat) (r : Option (List S45 × Int)) (hr : ∀ k', K ≤ k' → colophonref16_Runs.l0 k' fr te P (out ++ [⟨(a : Int), (firstNo P fr te (P.length - a) a : Int)⟩]) (wrap64 ((a : Int) + 1)) = r) :
    ∀ (d k b : Nat), P.length - b = d → b ≤ P.length → K + d + 1 ≤ k → firstNo P fr te (P.length - b) b = firstNo P fr te (P.length - a) a →
    colophonref16_Runs.l1 k fr te P out (a : Int) (b : Int) = r := by
  intro d
  induction d with
  | zero =>
    intro k b hd hb hk he
    obtain ⟨k, rfl⟩ : ∃ m, k = m + 1 := ⟨k - 1, by omega⟩
    have hm : ¬ mk P fr te b := fun h => by have := h.1; omega
    rw [firstNo_out P fr te hm] at he
    simp only [colophonref16_Runs.l1, ref_marked, Option.bind_some, decide_eq_false hm]
    rw [if_neg (by decide), if_pos (by omega), he]
    exact hr k (by omega)
  | succ d ih =>
    intro k b hd hb hk he
    obtain ⟨k, rfl⟩ : ∃ m, k = m + 1 := ⟨k - 1, by omega⟩
    by_cases hm : mk P fr te b
    · rw [firstNo_in P fr te hm] at he
      simp only [colophonref16_Runs.l1, ref_marked, Option.bind_some, decide_eq_true hm]
      rw [if_pos trivial, wr1 (by omega)]
      exact ih k (b + 1) (by omega) (by omega) (by omega) he
    · rw [firstNo_out P fr te hm] at he
      simp only [colophonref16_Runs.l1, ref_marked, Option.bind_some, decide_eq_false hm]
      rw [if_neg (by decide), if_pos (by omega), he]
      exact hr k (by omega)
theorem rr_loop (P : List Int) (fr te : Int) (hP : P.length ≤ 1000) : ∀ (d k a : Nat), P.length - a = d → a ≤ P.length → 1010 * d + 5 ≤ k →
    colophonref16_Runs.l0 k fr te P (soFar P fr te a) (a : Int) = some (strs P fr te, 0) := by
  intro d
  induction d with
  | zero =>
    intro k a hd ha hk
    obtain ⟨k, rfl⟩ : ∃ m, k = m + 1 := ⟨k - 1, by omega⟩
    obtain rfl : a = P.length := by omega
    simp only [colophonref16_Runs.l0]
    rw [if_neg (by omega), soFar_all]
  | succ d ih =>
    intro k a hd ha hk
    obtain ⟨k, rfl⟩ : ∃ m, k = m + 2 := ⟨k - 2, by omega⟩
    have hnext : ∀ k', 1010 * d + 5 ≤ k' → colophonref16_Runs.l0 k' fr te P (soFar P fr te (a + 1)) ((a + 1 : Nat) : Int) = some (strs P fr te, 0) := fun k' hk' => ih k' (a + 1) (by omega) (by omega) hk'
    have hsl := soFar_len P fr te a
    have on : soFar P fr te (a + 1) = soFar P fr te a → colophonref16_Runs.j2 (k + 1) fr te P (soFar P fr te a) (a : Int) true = some (strs P fr te, 0) := fun e => by
      simp only [colophonref16_Runs.j2]
      rw [if_pos trivial, wr1 (by omega), ← e]
      exact hnext k (by omega)
    simp only [colophonref16_Runs.l0, ref_marked, Option.bind_some]
    rw [if_pos (by omega)]
    by_cases hm : mk P fr te a
    · rw [decide_eq_true hm, if_pos rfl]
      have prev : colophonref16_marked.f P (wrap64 ((a : Int) - 1)) fr te = some (decide ((strF P fr te a).2 < a)) := by
        cases a with
        | zero =>
          have e : wrap64 (((0 : Nat) : Int) - 1) = -1 := by decide +kernel
          rw [e, ref_marked_neg P fr te (-1) (by decide)]
          rfl
        | succ a =>
          rw [wm1 (by omega), ref_marked]
          congr 1
          by_cases h : mk P fr te a
          · rw [decide_eq_true h, decide_eq_true ((begin_lt P fr te a).2 h)]
          · rw [decide_eq_false h, decide_eq_false (fun h2 => h ((begin_lt P fr te a).1 h2))]
      rw [prev, Option.bind_some]
      by_cases hb : (strF P fr te a).2 < a
      · rw [decide_eq_true hb]
        exact on (soFar_on P fr te hm hb)
      · rw [decide_eq_false hb]
        simp only [colophonref16_Runs.j2]
        rw [if_neg (by decide)]
        refine rr_in P fr te hP _ (by omega) a (1010 * d + 5) _ (fun k' hk' => ?_) (P.length - a) k a rfl ha (by omega) rfl
        rw [wr1 (by omega), ← soFar_new P fr te hm hb]
        exact hnext k' hk'
    · rw [decide_eq_false hm, if_neg (by decide)]
      exact on (soFar_out P fr te hm)
theorem ref_pruns {L : List Int} (hl : L.length ≤ 100) (fr te : Int) {k : Nat} (hk : 200000 ≤ k) : colophonref16_Runs.f k L fr te = some (runsPair L fr te) := by
  have hol := ord_len L
  obtain ⟨k, rfl⟩ : ∃ m, k = m + 1 := ⟨k - 1, by omega⟩
  unfold colophonref16_Runs.f runsPair
  rw [ref_order hl (by omega), Option.bind_some]
  unfold orderPair
  by_cases hf : L.all fineB = true
  · rw [if_pos hf, if_pos hf, if_pos rfl]
    have hj : ∀ b : Bool, b = decide (fr < 0 ∨ (L.length : Int) < te ∨ te < fr) → colophonref16_Runs.j0 (k + 1) fr te (ordered L) b = some (if fr < 0 ∨ (L.length : Int) < te ∨ te < fr then ([], 4) else (strs (ordered L) fr te, 0)) := by
      intro b hb
      subst hb
      simp only [colophonref16_Runs.j0]
      by_cases h : fr < 0 ∨ (L.length : Int) < te ∨ te < fr
      · rw [if_pos (decide_eq_true h), if_pos h]
      · rw [if_neg (by simpa using h), if_neg h]
        have e : ([] : List S45) = soFar (ordered L) fr te 0 := by simp [soFar, strF]
        rw [e]
        exact rr_loop (ordered L) fr te (by omega) (ordered L).length k 0 rfl (Nat.zero_le _) (by omega)
    by_cases g1 : fr < 0
    · rw [if_pos g1]
      exact hj true (decide_eq_true (.inl g1)).symm
    · rw [if_neg g1]
      by_cases g2 : te > (L.length : Int)
      · rw [if_pos g2]
        exact hj true (decide_eq_true (.inr (.inl g2))).symm
      · rw [if_neg g2]
        refine hj _ ?_
        by_cases g3 : fr > te
        · rw [decide_eq_true g3, decide_eq_true (.inr (.inr g3))]
        · rw [decide_eq_false g3, decide_eq_false (by omega)]
  · rw [if_neg hf, if_neg hf, if_neg (by decide)]
theorem runs_len (L : List Int) (fr te : Int) : (runsPair L fr te).1.length ≤ L.length + 1 := by
  unfold runsPair
  split
  · split
    · exact Nat.zero_le _
    · have h1 := strs_len (ordered L) fr te
      have h2 := ord_len L
      show (strs (ordered L) fr te).length ≤ _
      omega
  · exact Nat.zero_le _
theorem PickRuns : colophonlaw16_PickRuns.Pure := by
  intro L fr te _ _ _ _ _
  refine ⟨300000, ?_⟩
  unfold colophonlaw16_PickRuns.f
  have hw : ((colophonlaw16_works.f 300000).bind fun t => some t) = some true := by rw [works16 (by decide)]; rfl
  by_cases h1 : (L.length : Int) > 60
  · rw [if_pos h1]
    exact hw
  · rw [if_neg h1]
    have hp := runs_len L fr te
    simp only [Option.bind_some, List.nil_append]
    rw [if_pos (by simp only [List.length_nil]; omega), own_pruns (by omega), Option.bind_some, ref_pruns (by omega) fr te (by decide), Option.bind_some, same_refl _ (by omega) (by omega), Option.bind_some, if_pos rfl, if_pos rfl, ints_refl _ (by omega) (by omega), Option.bind_some, if_pos rfl]
    exact hw
end Go.Proofs.Ytccleelhheilnaa.Pure
