/- What pick.Runs and pick.Places tell, over lists alone. -/
import Derived.Test.YtccleelhheilnaaFGPRuns
import Derived.Test.YtccleelhheilnaaOrdT
namespace Go.Proofs.Ytccleelhheilnaa.Pure
set_option linter.unusedVariables false
set_option linter.unusedSimpArgs false
open Go.RowKit Go.Proofs.Ytccleelhheilnaa.F Go.Proofs.YtccleelhheilnaaW.PrintWords Go.Proofs.YtccleelhheilnaaW.PrintLast

/-- column n is marked -/
def mk (l : List Int) (fr te : Int) (n : Nat) : Prop := n < l.length ∧ inB fr te (l.getD n 0) = true
instance (l : List Int) (fr te : Int) (n : Nat) : Decidable (mk l fr te n) := inferInstanceAs (Decidable (_ ∧ _))
theorem begin_lt (l : List Int) (fr te : Int) : ∀ n, (strF l fr te (n + 1)).2 < n + 1 ↔ mk l fr te n := by
  intro n
  by_cases h : mk l fr te n
  · rw [str_in h.1 h.2]
    have := str_begin l fr te n
    exact ⟨fun _ => h, fun _ => by omega⟩
  · rw [strF, if_neg (show ¬ (n < l.length ∧ inB fr te (l.getD n 0) = true) from h)]
    exact ⟨fun h2 => absurd h2 (Nat.lt_irrefl _), fun h2 => absurd h2 h⟩
/-- from where the next stretch begins on, all is marked -/
theorem begin_marked (l : List Int) (fr te : Int) : ∀ n j, (strF l fr te n).2 ≤ j → j < n → mk l fr te j
  | 0, j, _, h => absurd h (Nat.not_lt_zero _)
  | n + 1, j, h1, h2 => by
    by_cases h : mk l fr te n
    · rw [str_in h.1 h.2] at h1
      by_cases e : j = n
      · rw [e]; exact h
      · exact begin_marked l fr te n j h1 (by omega)
    · rw [strF, if_neg (show ¬ (n < l.length ∧ inB fr te (l.getD n 0) = true) from h)] at h1
      have h1' : n + 1 ≤ j := h1
      omega
/-- ahead of where the next stretch begins there is one that isn't marked -/
theorem begin_ahead (l : List Int) (fr te : Int) : ∀ n j, j + 1 = (strF l fr te n).2 → ¬ mk l fr te j
  | 0, j, h => by have : (strF l fr te 0).2 = 0 := rfl
                  omega
  | n + 1, j, h => by
    by_cases hm : mk l fr te n
    · rw [str_in hm.1 hm.2] at h
      exact begin_ahead l fr te n j h
    · rw [strF, if_neg (show ¬ (n < l.length ∧ inB fr te (l.getD n 0) = true) from hm)] at h
      have h' : j + 1 = n + 1 := h
      obtain rfl : j = n := by omega
      exact hm
/-- runs, from a column on: they rise, none is empty, all that is in them is marked, and none of them meets another one -/
def Chain (l : List Int) (fr te : Int) : Nat → List S45 → Prop
  | _, [] => True
  | e, x :: r => ∃ b n : Nat, x = ⟨(b : Int), (n : Int)⟩ ∧ e ≤ b ∧ b < n ∧ n ≤ l.length ∧ (∀ j, b ≤ j → j < n → mk l fr te j) ∧ Chain l fr te (n + 1) r
/-- where the runs end -/
def lastEnd : Nat → List S45 → Nat
  | e, [] => e
  | _, x :: r => lastEnd (x.f1.toNat + 1) r
theorem chain_snoc (l : List Int) (fr te : Int) : ∀ (r : List S45) (e b n : Nat), Chain l fr te e r → lastEnd e r ≤ b → b < n → n ≤ l.length → (∀ j, b ≤ j → j < n → mk l fr te j) → Chain l fr te e (r ++ [⟨(b : Int), (n : Int)⟩])
  | [], e, b, n, _, h1, h2, h3, h4 => ⟨b, n, rfl, h1, h2, h3, h4, trivial⟩
  | x :: r, e, b, n, hc, h1, h2, h3, h4 => by
    obtain ⟨b1, n1, rfl, c1, c2, c3, c4, c5⟩ := hc
    refine ⟨b1, n1, rfl, c1, c2, c3, c4, chain_snoc l fr te r (n1 + 1) b n c5 ?_ h2 h3 h4⟩
    have h1' : lastEnd (((n1 : Int)).toNat + 1) r ≤ b := h1
    rwa [Int.toNat_natCast] at h1'
theorem lastEnd_snoc : ∀ (r : List S45) (e : Nat) (x : S45), lastEnd e (r ++ [x]) = x.f1.toNat + 1
  | [], e, x => rfl
  | y :: r, e, x => lastEnd_snoc r _ x
theorem strF_chain (l : List Int) (fr te : Int) : ∀ n, n ≤ l.length + 1 → Chain l fr te 0 (strF l fr te n).1 ∧ lastEnd 0 (strF l fr te n).1 ≤ (strF l fr te n).2
  | 0, _ => ⟨trivial, Nat.le_refl _⟩
  | n + 1, hn => by
    obtain ⟨h1, h2⟩ := strF_chain l fr te n (by omega)
    by_cases hm : mk l fr te n
    · rw [str_in hm.1 hm.2]
      exact ⟨h1, h2⟩
    · by_cases hb : (strF l fr te n).2 < n
      · rw [str_out hm hb]
        refine ⟨chain_snoc l fr te _ 0 _ n h1 h2 hb (by omega) (begin_marked l fr te n), ?_⟩
        rw [lastEnd_snoc]
        show ((n : Int)).toNat + 1 ≤ n + 1
        omega
      · rw [str_skip hm hb]
        have := str_begin l fr te n
        refine ⟨h1, ?_⟩
        show lastEnd 0 (strF l fr te n).1 ≤ n + 1
        omega
theorem strs_chain (l : List Int) (fr te : Int) : Chain l fr te 0 (strs l fr te) := (strF_chain l fr te _ (Nat.le_refl _)).1
/-- the places of runs, one behind the other -/
def cuts (l : List Int) (r : List S45) : List Int := r.flatMap fun x => (l.drop x.f0.toNat).take (x.f1.toNat - x.f0.toNat)
theorem cuts_snoc (l : List Int) (r : List S45) (x : S45) : cuts l (r ++ [x]) = cuts l r ++ (l.drop x.f0.toNat).take (x.f1.toNat - x.f0.toNat) := by simp [cuts]
theorem take_snoc' (l : List Int) {n : Nat} (h : n < l.length) : l.take (n + 1) = l.take n ++ [l.getD n 0] := by
  rw [List.take_succ_eq_append_getElem h, List.getD_eq_getElem?_getD, List.getElem?_eq_getElem h, Option.getD_some]
theorem strF_cuts (l : List Int) (fr te : Int) : ∀ n, n ≤ l.length → cuts l (strF l fr te n).1 ++ (l.drop (strF l fr te n).2).take (n - (strF l fr te n).2) = (l.take n).filter (inB fr te)
  | 0, _ => by simp [strF, cuts]
  | n + 1, hn => by
    have ih := strF_cuts l fr te n (by omega)
    have hlt : n < l.length := by omega
    have hbg := str_begin l fr te n
    rw [take_snoc' l hlt, List.filter_append, ← ih]
    by_cases hm : mk l fr te n
    · rw [str_in hm.1 hm.2]
      have e : n + 1 - (strF l fr te n).2 = (n - (strF l fr te n).2) + 1 := by omega
      have hl : n - (strF l fr te n).2 < (l.drop (strF l fr te n).2).length := by simp only [List.length_drop]; omega
      rw [e, take_snoc' _ hl, List.filter_cons, if_pos hm.2, List.filter_nil, List.append_assoc]
      congr 3
      simp only [List.getD_eq_getElem?_getD, List.getElem?_drop]
      congr 2
      omega
    · have hf : ¬ inB fr te (l.getD n 0) = true := fun h => hm ⟨hlt, h⟩
      rw [List.filter_cons, if_neg hf, List.filter_nil, List.append_nil]
      by_cases hb : (strF l fr te n).2 < n
      · rw [str_out hm hb]
        show cuts l ((strF l fr te n).1 ++ [_]) ++ (l.drop (n + 1)).take (n + 1 - (n + 1)) = _
        rw [cuts_snoc, Nat.sub_self, List.take_zero, List.append_nil]
        show _ ++ (l.drop ((((strF l fr te n).2 : Nat) : Int)).toNat).take (((n : Int)).toNat - ((((strF l fr te n).2 : Nat) : Int)).toNat) = _
        rw [Int.toNat_natCast, Int.toNat_natCast]
      · rw [str_skip hm hb]
        show cuts l (strF l fr te n).1 ++ (l.drop (n + 1)).take (n + 1 - (n + 1)) = _
        have : n - (strF l fr te n).2 = 0 := by omega
        rw [this, Nat.sub_self, List.take_zero, List.take_zero]
theorem strs_cuts (l : List Int) (fr te : Int) : cuts l (strs l fr te) = l.filter (inB fr te) := by
  have h := strF_cuts l fr te l.length (Nat.le_refl _)
  rw [List.take_length] at h
  rw [← h]
  unfold strs
  have hm : ¬ (l.length < l.length ∧ inB fr te (l.getD l.length 0) = true) := fun h => absurd h.1 (Nat.lt_irrefl _)
  by_cases hb : (strF l fr te l.length).2 < l.length
  · rw [str_out hm hb]
    show cuts l ((strF l fr te l.length).1 ++ [_]) = _
    rw [cuts_snoc]
    show _ ++ (l.drop ((((strF l fr te l.length).2 : Nat) : Int)).toNat).take (((l.length : Int)).toNat - ((((strF l fr te l.length).2 : Nat) : Int)).toNat) = _
    rw [Int.toNat_natCast, Int.toNat_natCast]
  · rw [str_skip hm hb]
    have : l.length - (strF l fr te l.length).2 = 0 := by omega
    rw [this, List.take_zero, List.append_nil]
/-- none is marked -/
theorem strs_none (l : List Int) (fr te : Int) (h : ∀ n, ¬ mk l fr te n) : strs l fr te = [] := by
  have key : ∀ n, (strF l fr te n).1 = [] ∧ (strF l fr te n).2 = n := by
    intro n
    induction n with
    | zero => exact ⟨rfl, rfl⟩
    | succ n ih =>
      rw [str_skip (h n) (by omega)]
      exact ⟨ih.1, rfl⟩
  exact (key _).1
/-- the first p are marked, and no others -/
theorem strF_prefix (l : List Int) (fr te : Int) (p : Nat) (hp : p ≤ l.length) (h : ∀ n, n < l.length → (mk l fr te n ↔ n < p)) : ∀ n, n ≤ l.length + 1 → strF l fr te n = if n ≤ p then ([], 0) else (if 0 < p then [⟨0, (p : Int)⟩] else [], n)
  | 0, _ => by rw [if_pos (Nat.zero_le _)]; rfl
  | n + 1, hn => by
    have ih := strF_prefix l fr te p hp h n (by omega)
    by_cases hm : mk l fr te n
    · rw [str_in hm.1 hm.2, ih]
      have := (h n hm.1).1 hm
      rw [if_pos (by omega), if_pos (by omega)]
    · have hnp : p ≤ n := by
        by_cases hlt : n < l.length
        · have := mt (h n hlt).2 hm
          omega
        · omega
      rw [if_neg (show ¬ n + 1 ≤ p by omega)]
      by_cases e : n = p
      · subst e
        rw [if_pos (Nat.le_refl _)] at ih
        by_cases h0 : 0 < n
        · rw [str_out hm (by rw [ih]; exact h0), ih, if_pos h0]
          rfl
        · rw [str_skip hm (by rw [ih]; exact h0), ih, if_neg h0]
      · rw [if_neg (by omega)] at ih
        rw [str_skip hm (by rw [ih]; exact Nat.lt_irrefl _), ih]
theorem strs_prefix (l : List Int) (fr te : Int) (p : Nat) (hp : p ≤ l.length) (h : ∀ n, n < l.length → (mk l fr te n ↔ n < p)) : strs l fr te = if 0 < p then [⟨0, (p : Int)⟩] else [] := by
  unfold strs
  rw [strF_prefix l fr te p hp h _ (Nat.le_refl _), if_neg (by omega)]
/-- the ones from p on are marked, and no others -/
theorem strs_suffix (l : List Int) (fr te : Int) (p : Nat) (hp : p ≤ l.length) (h : ∀ n, n < l.length → (mk l fr te n ↔ p ≤ n)) : strs l fr te = if p < l.length then [⟨(p : Int), (l.length : Int)⟩] else [] := by
  have key : ∀ n, n ≤ l.length → strF l fr te n = ([], min n p) := by
    intro n
    induction n with
    | zero => intro _; simp [strF]
    | succ n ih =>
      intro hn
      have e := ih (by omega)
      by_cases hm : mk l fr te n
      · have := (h n hm.1).1 hm
        rw [str_in hm.1 hm.2, e]
        congr 1
        omega
      · have := mt (h n (by omega)).2 hm
        rw [str_skip hm (by rw [e]; show ¬ min n p < n; omega), e]
        congr 1
        omega
  have e := key l.length (Nat.le_refl _)
  have hm : ¬ (l.length < l.length ∧ inB fr te (l.getD l.length 0) = true) := fun h => absurd h.1 (Nat.lt_irrefl _)
  have hmin : min l.length p = p := by omega
  rw [hmin] at e
  unfold strs
  by_cases hb : p < l.length
  · rw [str_out hm (by rw [e]; exact hb), e, if_pos hb]
    rfl
  · rw [str_skip hm (by rw [e]; exact hb), e, if_neg hb]
end Go.Proofs.Ytccleelhheilnaa.Pure
