/- order.Runs, over lists alone: the order, cut where the level changes. -/
import Derived.Test.YtccleelhheilnaaRefT
import Derived.Test.YtccleelhheilnaaFx13
namespace Go.Proofs.Ytccleelhheilnaa.Pure
set_option linter.unusedVariables false
set_option linter.unusedSimpArgs false
open Go.RowKit Go.Proofs.Ytccleelhheilnaa.F Go.Proofs.YtccleelhheilnaaW.PrintWords Go.Proofs.YtccleelhheilnaaW.PrintLast

/-- the rows when m places have been put -/
def grp (L l : List Int) : Nat → List (List Int)
  | 0 => []
  | m + 1 =>
    let g := if m = 0 ∨ rd L (rd l (m : Int)) ≠ rd L (rd l ((m - 1 : Nat) : Int)) then grp L l m ++ [[]] else grp L l m
    g.set (g.length - 1) (g.getD (g.length - 1) [] ++ [rd l (m : Int)])
theorem grp_len (L l : List Int) : ∀ m, (grp L l m).length ≤ m ∧ (0 < m → 0 < (grp L l m).length)
  | 0 => ⟨Nat.le_refl _, fun h => absurd h (by decide)⟩
  | m + 1 => by
    have ih := grp_len L l m
    simp only [grp, List.length_set]
    split
    · simp only [List.length_append, List.length_singleton]; omega
    · rename_i h
      have : m ≠ 0 := fun e => h (.inl e)
      omega
theorem flatten_last (g : List (List Int)) (hg : 0 < g.length) (x : Int) : (g.set (g.length - 1) (g.getD (g.length - 1) [] ++ [x])).flatten = g.flatten ++ [x] := by
  obtain ⟨h, t, rfl⟩ : ∃ h t, g = h ++ [t] := ⟨g.dropLast, g.getLast (List.length_pos_iff.1 hg), (List.dropLast_concat_getLast _).symm⟩
  have e : (h ++ [t]).length - 1 = h.length := by simp
  rw [e, List.set_append_right _ _ (Nat.le_refl _), Nat.sub_self]
  have e2 : (h ++ [t]).getD h.length [] = t := by simp [List.getD_eq_getElem?_getD]
  rw [e2]
  simp
theorem grp_flatten (L l : List Int) : ∀ m, m ≤ l.length → (grp L l m).flatten = l.take m
  | 0, _ => by simp [grp]
  | m + 1, h => by
    have ih := grp_flatten L l m (by omega)
    have hlt : m < l.length := by omega
    have hr : rd l (m : Int) = l[m] := rd_at hlt
    simp only [grp]
    split
    · rw [flatten_last _ (by simp), List.flatten_append, ih, hr, List.take_succ_eq_append_getElem hlt]
      simp
    · rename_i hn
      rw [flatten_last _ ((grp_len L l m).2 (Nat.pos_of_ne_zero fun e => hn (.inl e))), ih, hr, List.take_succ_eq_append_getElem hlt]
theorem row_len : ∀ {g : List (List Int)} {r : List Int}, r ∈ g → r.length ≤ g.flatten.length
  | [], r, h => by simp at h
  | x :: g, r, h => by
    rw [List.flatten_cons, List.length_append]
    rcases List.mem_cons.1 h with rfl | h
    · omega
    · have := row_len h
      omega
theorem getD_row (g : List (List Int)) (i : Nat) : (g.getD i []).length ≤ g.flatten.length := by
  by_cases h : i < g.length
  · rw [List.getD_eq_getElem?_getD, List.getElem?_eq_getElem h, Option.getD_some]
    exact row_len (List.getElem_mem h)
  · rw [List.getD_eq_getElem?_getD, List.getElem?_eq_none (by omega), Option.getD_none]
    simp

theorem runs_loop (L l : List Int) (hl : l.length ≤ 1000000000000) (hin : ∀ x ∈ l, 0 ≤ x ∧ x < (L.length : Int)) : ∀ (d k m : Nat), l.length - m = d → m ≤ l.length → d < k →
    order_Runs.l0 k L l (grp L l m) l (l.length : Int) (m : Int) = some (grp L l l.length, 0) := by
  intro d
  induction d with
  | zero =>
    intro k m hd hm hk
    obtain ⟨k, rfl⟩ : ∃ j, k = j + 1 := ⟨k - 1, by omega⟩
    obtain rfl : m = l.length := by omega
    simp only [order_Runs.l0]
    rw [if_neg (by omega)]
  | succ d ih =>
    intro k m hd hm hk
    obtain ⟨k, rfl⟩ : ∃ j, k = j + 1 := ⟨k - 1, by omega⟩
    have hlt : m < l.length := by omega
    have hg := grp_len L l m
    have hfl := grp_flatten L l m (by omega)
    have hnext := ih k (m + 1) (by omega) (by omega) (by omega)
    have hx := hin l[m] (List.getElem_mem hlt)
    have hr : rd l (m : Int) = l[m] := rd_at hlt
    -- the put, at a list of rows g that is not empty
    have put : ∀ g : List (List Int), 0 < g.length → g.length ≤ m + 1 → g.flatten.length ≤ m → wrap64 ((g.length : Int) - 1) = ((g.length - 1 : Nat) : Int) ∧ (rd_L1 g ((g.length - 1 : Nat) : Int)).length < 17592186044416 ∧ rd_L1 g ((g.length - 1 : Nat) : Int) = g.getD (g.length - 1) [] := by
      intro g h1 h2 h3
      have e : rd_L1 g ((g.length - 1 : Nat) : Int) = g.getD (g.length - 1) [] := by simp [rd_L1]
      have := getD_row g (g.length - 1)
      refine ⟨by unfold wrap64; omega, by rw [e]; omega, e⟩
    have hfm : (grp L l m).flatten.length ≤ m := by rw [hfl, List.length_take]; omega
    have fresh : (m = 0 ∨ rd L (rd l (m : Int)) ≠ rd L (rd l ((m - 1 : Nat) : Int))) →
        (if (grp L l m).length < 5864062014805 then ((some (grp L l m ++ [[]] : List (List Int))).bind fun y => (if 0 ≤ (wrap64 ((y.length : Int) - 1)) then (if (wrap64 ((y.length : Int) - 1)) < (y.length : Int) then (if (rd_L1 y (wrap64 ((y.length : Int) - 1))).length < 17592186044416 then (order_Runs.l0 k L l (y.set ((wrap64 ((y.length : Int) - 1)) : Int).toNat ((rd_L1 y (wrap64 ((y.length : Int) - 1))) ++ [rd l (m : Int)])) l (l.length : Int) (wrap64 ((m : Int) + 1))) else (none)) else (none)) else (none))) else (none)) = some (grp L l l.length, 0) := by
      intro hc
      obtain ⟨p1, p2, p3⟩ := put (grp L l m ++ [[]]) (by simp) (by simp; omega) (by rw [List.flatten_append]; simpa using hfm)
      rw [if_pos (by omega)]
      simp only [Option.bind_some]
      rw [p1, if_pos (by omega), if_pos (by simp only [List.length_append, List.length_singleton]; omega), if_pos p2, p3, wr1 (by omega), Int.toNat_natCast]
      simp only [grp] at hnext
      rw [if_pos hc] at hnext
      exact hnext
    simp only [order_Runs.l0]
    rw [if_pos (by omega), if_pos (by omega), if_pos (by omega)]
    by_cases h0 : m = 0
    · rw [if_pos (by omega)]
      exact fresh (.inl h0)
    · obtain ⟨q, rfl⟩ : ∃ q, m = q + 1 := ⟨m - 1, by omega⟩
      have hy := hin l[q] (List.getElem_mem (by omega))
      have hrq : rd l (q : Int) = l[q] := rd_at (by omega)
      rw [if_neg (by omega), if_pos (by rw [hr]; exact hx.1), if_pos (by rw [hr]; exact hx.2), wm1 (by omega), if_pos (by omega), if_pos (by omega), if_pos (by rw [hrq]; exact hy.1), if_pos (by rw [hrq]; exact hy.2)]
      by_cases he : rd L (rd l ((q + 1 : Nat) : Int)) = rd L (rd l (q : Int))
      · obtain ⟨p1, p2, p3⟩ := put (grp L l (q + 1)) (hg.2 (by omega)) (by omega) hfm
        have hgp := hg.2 (by omega)
        rw [if_pos he, p1, if_pos (by omega), if_pos (by omega), if_pos p2, p3, wr1 (by omega), Int.toNat_natCast]
        rw [grp, if_neg (by rintro (h | h); exact h0 h; exact h he)] at hnext
        exact hnext
      · rw [if_neg he]
        exact fresh (.inr he)
theorem own_runs {L : List Int} (hL : L.length ≤ 1000000000000) {k : Nat} (hk : L.length + 2 ≤ k) : order_Runs.f k L = some (if L.all fineB = true then (grp L (ordered L) (ordered L).length, 0) else ([], 2)) := by
  unfold order_Runs.f
  rw [own_order (by omega)]
  simp only [Option.bind_some, orderPair]
  have hlen : (ordered L).length ≤ L.length := by rw [ordered_len]; exact seen_len _ _
  by_cases hf : L.all fineB = true
  · rw [if_pos hf, if_pos hf, if_pos rfl]
    exact runs_loop L (ordered L) (by omega) (fun x hx => by obtain ⟨h1, h2, -⟩ := (ordered_mem L x).1 hx; exact ⟨h1, h2⟩) (ordered L).length k 0 (by omega) (by omega) (by omega)
  · rw [if_neg hf, if_neg hf, if_neg (by decide)]
end Go.Proofs.Ytccleelhheilnaa.Pure
