/- OrderRuns, over lists alone: the document's runs are the program's. -/
import Derived.Test.YtccleelhheilnaaFx14
import Derived.Test.YtccleelhheilnaaW13T
import Derived.Test.YtccleelhheilnaaRunT
namespace Go.Proofs.Ytccleelhheilnaa.Pure
set_option linter.unusedVariables false
set_option linter.unusedSimpArgs false
open Go.RowKit Go.Proofs.Ytccleelhheilnaa.F Go.Proofs.YtccleelhheilnaaW.PrintWords Go.Proofs.YtccleelhheilnaaW.PrintLast

theorem grp_new (L l : List Int) {m : Nat} (h : m = 0 ∨ rd L (rd l (m : Int)) ≠ rd L (rd l ((m - 1 : Nat) : Int))) : grp L l (m + 1) = grp L l m ++ [[rd l (m : Int)]] := by
  simp only [grp]
  rw [if_pos h]
  have e : (grp L l m ++ [[]]).length - 1 = (grp L l m).length := by simp
  rw [e, List.set_append_right _ _ (Nat.le_refl _), Nat.sub_self]
  have e2 : (grp L l m ++ [[]]).getD (grp L l m).length [] = [] := by simp [List.getD_eq_getElem?_getD]
  rw [e2]
  rfl
theorem grp_same (L l : List Int) {m : Nat} (h : ¬ (m = 0 ∨ rd L (rd l (m : Int)) ≠ rd L (rd l ((m - 1 : Nat) : Int)))) {g : List (List Int)} {t : List Int} (hg : grp L l m = g ++ [t]) : grp L l (m + 1) = g ++ [t ++ [rd l (m : Int)]] := by
  simp only [grp]
  rw [if_neg h, hg]
  have e : (g ++ [t]).length - 1 = g.length := by simp
  rw [e, List.set_append_right _ _ (Nat.le_refl _), Nat.sub_self]
  have e2 : (g ++ [t]).getD g.length [] = t := by simp [List.getD_eq_getElem?_getD]
  rw [e2]
  rfl
theorem rruns_loop (L l : List Int) (hl : l.length ≤ 1000) (hin : ∀ x ∈ l, 0 ≤ x ∧ x < (L.length : Int)) : ∀ (d k m a : Nat) (out : List (List Int)), l.length - m = d → 1 ≤ m → m ≤ l.length → a < m → out.length ≤ m → d + 3 < k → grp L l m = out ++ [(l.take m).drop a] →
    colophonref13_Runs.l0 k L l out (a : Int) (m : Int) = some (grp L l l.length, 0) := by
  intro d
  induction d with
  | zero =>
    intro k m a out hd h1 hm ha ho hk hg
    obtain ⟨k, rfl⟩ : ∃ q, k = q + 2 := ⟨k - 2, by omega⟩
    obtain rfl : m = l.length := by omega
    simp only [colophonref13_Runs.l0]
    rw [if_pos (by omega), if_pos trivial, if_pos (by omega), if_pos (by omega), if_pos (by omega), wr1 (by omega), if_neg (by omega), Int.toNat_natCast, Int.toNat_natCast, hg]
  | succ d ih =>
    intro k m a out hd h1 hm ha ho hk hg
    obtain ⟨k, rfl⟩ : ∃ q, k = q + 1 := ⟨k - 1, by omega⟩
    have hlt : m < l.length := by omega
    obtain ⟨p, rfl⟩ : ∃ p, m = p + 1 := ⟨m - 1, by omega⟩
    have g1 : ((p + 1 : Nat) : Int) ≤ (l.length : Int) := by omega
    have g2 : ¬ ((p + 1 : Nat) : Int) = (l.length : Int) := by omega
    have g3 : 0 ≤ ((p + 1 : Nat) : Int) := by omega
    have g4 : ((p + 1 : Nat) : Int) < (l.length : Int) := by omega
    have g5 : 0 ≤ (p : Int) := by omega
    have g6 : (p : Int) < (l.length : Int) := by omega
    have g7 : 0 ≤ (a : Int) := by omega
    have g8 : (a : Int) ≤ ((p + 1 : Nat) : Int) := by omega
    have g9 : out.length < 5864062014805 := by omega
    have n1 : l.length - (p + 1 + 1) = d := by omega
    have n2 : 1 ≤ p + 1 + 1 := by omega
    have n3 : p + 1 + 1 ≤ l.length := by omega
    have n4 : a < p + 1 + 1 := by omega
    have n5 : out.length ≤ p + 1 + 1 := by omega
    have n6 : d + 3 < k := by omega
    have n7 : p + 1 < p + 1 + 1 := by omega
    have ew : wrap64 (((p + 1 : Nat) : Int) - 1) = (p : Int) := wm1 (by omega)
    have ew2 : wrap64 (((p + 1 : Nat) : Int) + 1) = ((p + 1 + 1 : Nat) : Int) := wr1 (by omega)
    have n8 : (l.take (p + 1)).length = p + 1 := by rw [List.length_take]; omega
    have n9 : a ≤ (l.take (p + 1)).length := by rw [n8]; omega
    have hr : rd l ((p + 1 : Nat) : Int) = l[p + 1] := rd_at hlt
    have hr2 : rd l (p : Int) = l[p] := rd_at (by omega)
    have i1 := hin l[p + 1] (List.getElem_mem hlt)
    have i2 := hin l[p] (List.getElem_mem (by omega))
    have etk : l.take (p + 1 + 1) = l.take (p + 1) ++ [l[p + 1]] := List.take_succ_eq_append_getElem hlt
    simp only [colophonref13_Runs.l0, ew, ew2, hr, hr2]
    rw [if_pos g1, if_neg g2, if_pos g3, if_pos g4, if_pos i1.1, if_pos i1.2, if_pos g5, if_pos g6, if_pos i2.1, if_pos i2.2]
    by_cases hv : rd L l[p + 1] = rd L l[p]
    · have hq : ¬ (p + 1 = 0 ∨ rd L (rd l ((p + 1 : Nat) : Int)) ≠ rd L (rd l ((p + 1 - 1 : Nat) : Int))) := by
        intro h
        rcases h with h | h
        · exact absurd h (Nat.succ_ne_zero p)
        · exact h (by rw [hr, show p + 1 - 1 = p from rfl, hr2]; exact hv)
      have hgs := grp_same L l (m := p + 1) hq hg
      rw [hr] at hgs
      rw [if_pos hv]
      refine ih k (p + 1 + 1) a out n1 n2 n3 n4 n5 n6 ?_
      rw [hgs, etk, List.drop_append_of_le_length n9]
    · have hgn := grp_new L l (m := p + 1) (.inr (by rw [hr, show p + 1 - 1 = p from rfl, hr2]; exact hv))
      rw [hr] at hgn
      have hgl := grp_len L l (p + 1)
      rw [if_neg hv, if_pos g7, if_pos g8, if_pos g9, Int.toNat_natCast, Int.toNat_natCast, ← hg]
      refine ih k (p + 1 + 1) (p + 1) (grp L l (p + 1)) n1 n2 n3 n7 (Nat.le_succ_of_le hgl.1) n6 ?_
      rw [hgn, etk, List.drop_left' n8]
theorem ref_runs {L : List Int} (hl : L.length ≤ 100) {k : Nat} (hk : 30000 ≤ k) : colophonref13_Runs.f k L = some (if L.all fineB = true then (grp L (ordered L) (ordered L).length, 0) else ([], 2)) := by
  have hol : (ordered L).length ≤ L.length := by rw [ordered_len]; exact seen_len _ _
  unfold colophonref13_Runs.f
  rw [ref_order hl (by omega), Option.bind_some]
  unfold orderPair
  by_cases hf : L.all fineB = true
  · rw [if_pos hf, if_pos hf, if_pos rfl]
    have hin : ∀ x ∈ ordered L, 0 ≤ x ∧ x < (L.length : Int) := fun x hx => by
      have := (ordered_mem L x).1 hx
      exact ⟨this.1, this.2.1⟩
    by_cases h0 : (ordered L).length = 0
    · obtain ⟨k, rfl⟩ : ∃ q, k = q + 1 := ⟨k - 1, by omega⟩
      simp only [colophonref13_Runs.l0]
      rw [if_neg (by omega), h0]
      rfl
    · have hr : rd (ordered L) ((0 : Nat) : Int) = (ordered L)[0] := rd_at (by omega)
      refine rruns_loop L (ordered L) (by omega) hin _ k 1 0 [] rfl (Nat.le_refl _) (by omega) (by omega) (by simp) (by omega) ?_
      have := grp_new L (ordered L) (m := 0) (.inl rfl)
      rw [hr] at this
      rw [this]
      have e : (ordered L).take 1 = [(ordered L)[0]] := by
        have := List.take_succ_eq_append_getElem (l := ordered L) (i := 0) (by omega)
        simpa using this
      rw [e]
      rfl
  · rw [if_neg hf, if_neg hf, if_neg (by decide)]
theorem runs_cmp (g : List (List Int)) (hg : g.length ≤ 1000) (hf : g.flatten.length ≤ 1000) : ∀ (d k i : Nat), g.length - i = d → i ≤ g.length → d + 1100 < k →
    colophonlaw13_OrderRuns.l0 k g g (g.length : Int) (i : Int) = some true := by
  intro d
  induction d with
  | zero =>
    intro k i hd hi hk
    obtain ⟨k, rfl⟩ : ∃ q, k = q + 1 := ⟨k - 1, by omega⟩
    simp only [colophonlaw13_OrderRuns.l0]
    rw [if_neg (by omega), works13 (by omega)]
    rfl
  | succ d ih =>
    intro k i hd hi hk
    obtain ⟨k, rfl⟩ : ∃ q, k = q + 1 := ⟨k - 1, by omega⟩
    have hnext := ih k (i + 1) (by omega) (by omega) (by omega)
    have hlt : i < g.length := by omega
    have hr : rd_L1 g (i : Int) = g[i] := by simp only [rd_L1, Int.toNat_natCast, List.getD_eq_getElem?_getD, List.getElem?_eq_getElem hlt, Option.getD_some]
    have hrl := row_len (List.getElem_mem hlt)
    simp only [colophonlaw13_OrderRuns.l0, hr]
    rw [if_pos (by omega), if_pos (by omega), if_pos (by omega), if_pos (by omega), ints_refl _ (by omega) (by omega), Option.bind_some, if_pos rfl, wr1 (by omega)]
    exact hnext
theorem OrderRuns : colophonlaw13_OrderRuns.Pure := by
  intro L _ _ _
  refine ⟨40000, ?_⟩
  unfold colophonlaw13_OrderRuns.f
  have hw : ((colophonlaw13_works.f 40000).bind fun t => some t) = some true := by rw [works13 (by decide)]; rfl
  by_cases h1 : (L.length : Int) > 70
  · rw [if_pos h1]
    exact hw
  · rw [if_neg h1]
    have hol : (ordered L).length ≤ L.length := by rw [ordered_len]; exact seen_len _ _
    simp only [Option.bind_some, List.nil_append]
    rw [if_pos (by simp only [List.length_nil]; omega), own_runs (by omega) (by omega), Option.bind_some, ref_runs (by omega) (by decide), Option.bind_some, if_pos rfl, show (40000 : Nat) = 39999 + 1 from rfl]
    simp only [colophonlaw13_OrderRuns.j0]
    rw [if_neg (by simp)]
    by_cases hf : L.all fineB = true
    · rw [if_pos hf]
      have hgl := (grp_len L (ordered L) (ordered L).length).1
      have hgf := grp_flatten L (ordered L) _ (Nat.le_refl _)
      rw [List.take_length] at hgf
      exact runs_cmp (grp L (ordered L) (ordered L).length) (by omega) (by rw [hgf]; omega) _ 39999 0 rfl (Nat.zero_le _) (by omega)
    · rw [if_neg hf]
      exact runs_cmp [] (by decide) (by decide) _ 39999 0 rfl (Nat.zero_le _) (by simp)
end Go.Proofs.Ytccleelhheilnaa.Pure
