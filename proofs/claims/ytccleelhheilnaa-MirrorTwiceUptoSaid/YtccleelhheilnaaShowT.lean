/- mirror.Show, over lists alone: the glyphs of the places, in their order. -/
import Derived.Test.YtccleelhheilnaaRunT
import Derived.Test.YtccleelhheilnaaMirT
import Derived.Test.YtccleelhheilnaaFx17
namespace Go.Proofs.Ytccleelhheilnaa.Pure
set_option linter.unusedVariables false
set_option linter.unusedSimpArgs false
open Go.RowKit Go.Proofs.Ytccleelhheilnaa.F Go.Proofs.YtccleelhheilnaaW.PrintWords Go.Proofs.YtccleelhheilnaaW.PrintLast

/-- the glyph of a place -/
def shown (l L : List Int) (x : Int) : Int := glyph (rd l x) (rd L x)
theorem joined_loop (g : List (List Int)) (hg : g.length ≤ 1000000000000) (hf : g.flatten.length ≤ 1000000000000) : ∀ (d k i : Nat), g.length - i = d → i ≤ g.length → d < k →
    mirror_joined.l0 k (g.take i).flatten g (g.length : Int) (i : Int) = some g.flatten := by
  intro d
  induction d with
  | zero =>
    intro k i hd hi hk
    obtain ⟨k, rfl⟩ : ∃ m, k = m + 1 := ⟨k - 1, by omega⟩
    obtain rfl : i = g.length := by omega
    simp only [mirror_joined.l0]
    rw [if_neg (by omega), List.take_length]
  | succ d ih =>
    intro k i hd hi hk
    obtain ⟨k, rfl⟩ : ∃ m, k = m + 1 := ⟨k - 1, by omega⟩
    have hlt : i < g.length := by omega
    have hnext := ih k (i + 1) (by omega) (by omega) (by omega)
    have hr : rd_L4 g (i : Int) = g[i] := by simp only [rd_L4, Int.toNat_natCast, List.getD_eq_getElem?_getD, List.getElem?_eq_getElem hlt, Option.getD_some]
    have e : (g.take (i + 1)).flatten = (g.take i).flatten ++ g[i] := by rw [List.take_succ_eq_append_getElem hlt, List.flatten_append]; simp
    have hsum : (g.take i).flatten.length + g[i].length ≤ g.flatten.length := by
      have h1 : g = g.take i ++ (g[i] :: g.drop (i + 1)) := by rw [← List.drop_eq_getElem_cons hlt, List.take_append_drop]
      have h2 := congrArg (fun x => (List.flatten x).length) h1
      simp only [List.flatten_append, List.flatten_cons, List.length_append] at h2
      omega
    simp only [mirror_joined.l0, hr]
    rw [if_pos (by omega), if_pos (by omega), if_pos (by omega), if_pos (by omega), wr1 (by omega), ← e]
    exact hnext
theorem joined_is (g : List (List Int)) (hg : g.length ≤ 1000000000000) (hf : g.flatten.length ≤ 1000000000000) {k : Nat} (hk : g.length < k) : mirror_joined.f k g = some g.flatten := by
  unfold mirror_joined.f
  exact joined_loop g hg hf g.length k 0 (by omega) (by omega) (by omega)

/-- The glyphs of one run. -/
theorem show_in (l L : List Int) (R : List (List Int)) (i : Nat) (hi : i < R.length) (pieces : List (List Int)) (hlen : l.length ≤ 1000000000000) (hp : pieces.length ≤ 1000000000000) (hrl : R[i].length ≤ 1000000000000)
    (hin : ∀ x ∈ R[i], 0 ≤ x ∧ x < (l.length : Int) ∧ x < (L.length : Int)) (hR : R.length ≤ 1000000000000) (r : Option (List Int × Int)) : ∀ (d k j : Nat), R[i].length - j = d → j ≤ R[i].length → d + 1 < k →
    (∀ k', k ≤ k' + d + 1 → mirror_Show.l0 k' l L (pieces ++ [R[i].map (shown l L)]) R (R.length : Int) ((i + 1 : Nat) : Int) = r) →
    mirror_Show.l1 k l L pieces ((R[i].take j).map (shown l L)) R (R.length : Int) (i : Int) R[i] (R[i].length : Int) (j : Int) = r := by
  intro d
  induction d with
  | zero =>
    intro k j hd hj hk H
    obtain ⟨k, rfl⟩ : ∃ m, k = m + 1 := ⟨k - 1, by omega⟩
    obtain rfl : j = R[i].length := by omega
    simp only [mirror_Show.l1]
    rw [if_neg (by omega), if_pos (by omega), wr1 (by omega), List.take_length]
    exact H k (by omega)
  | succ d ih =>
    intro k j hd hj hk H
    obtain ⟨k, rfl⟩ : ∃ m, k = m + 1 := ⟨k - 1, by omega⟩
    have hlt : j < R[i].length := by omega
    have hnext := ih k (j + 1) (by omega) (by omega) (by omega) (fun k' hk' => H k' (by omega))
    obtain ⟨h1, h2, h3⟩ := hin R[i][j] (List.getElem_mem hlt)
    have hr : rd R[i] (j : Int) = R[i][j] := rd_at hlt
    simp only [mirror_Show.l1, hr]
    rw [if_pos (by omega), if_pos (by omega), if_pos (by omega), if_pos h1, if_pos h2, if_pos h3, own_glyph _ _ (by omega)]
    simp only [Option.bind_some]
    rw [if_pos (by simp only [List.length_map, List.length_take]; omega), wr1 (by omega)]
    rw [List.take_succ_eq_append_getElem hlt, List.map_append] at hnext
    exact hnext
theorem show_out (l L : List Int) (R : List (List Int)) (hlen : l.length ≤ 1000000000000) (hR : R.length ≤ 1000000000000) (hf : R.flatten.length ≤ 1000000000000)
    (hin : ∀ x ∈ R.flatten, 0 ≤ x ∧ x < (l.length : Int) ∧ x < (L.length : Int)) : ∀ (d k i : Nat), R.length - i = d → i ≤ R.length → (R.drop i).flatten.length + 2 * d + R.length + 1 < k →
    mirror_Show.l0 k l L ((R.take i).map fun p => p.map (shown l L)) R (R.length : Int) (i : Int) = some (R.flatten.map (shown l L), 0) := by
  intro d
  induction d with
  | zero =>
    intro k i hd hi hk
    obtain ⟨k, rfl⟩ : ∃ m, k = m + 1 := ⟨k - 1, by omega⟩
    obtain rfl : i = R.length := by omega
    simp only [mirror_Show.l0]
    have e : (R.map fun p => p.map (shown l L)).flatten = R.flatten.map (shown l L) := by rw [List.map_flatten]
    rw [if_neg (by omega), List.take_length, joined_is _ (by rw [List.length_map]; omega) (by rw [e, List.length_map]; omega) (by rw [List.length_map]; omega), e]
    rfl
  | succ d ih =>
    intro k i hd hi hk
    obtain ⟨k, rfl⟩ : ∃ m, k = m + 1 := ⟨k - 1, by omega⟩
    have hlt : i < R.length := by omega
    have hr : rd_L1 R (i : Int) = R[i] := by simp only [rd_L1, Int.toNat_natCast, List.getD_eq_getElem?_getD, List.getElem?_eq_getElem hlt, Option.getD_some]
    have hd1 : (R.drop i).flatten.length = R[i].length + (R.drop (i + 1)).flatten.length := by rw [List.drop_eq_getElem_cons hlt, List.flatten_cons, List.length_append]
    have hri : R[i].length ≤ 1000000000000 := Nat.le_trans (row_len (List.getElem_mem hlt)) hf
    simp only [mirror_Show.l0, hr]
    rw [if_pos (by omega), if_pos (by omega), if_pos (by omega)]
    refine show_in l L R i hlt _ hlen (by simp only [List.length_map, List.length_take]; omega) hri (fun x hx => hin x (List.mem_flatten.2 ⟨_, List.getElem_mem hlt, hx⟩)) hR _ R[i].length k 0 (by omega) (by omega) (by omega) (fun k' hk' => ?_)
    have := ih k' (i + 1) (by omega) (by omega) (by omega)
    rw [List.take_succ_eq_append_getElem hlt, List.map_append] at this
    exact this
/-- What is shown. -/
def showPair (l L : List Int) : List Int × Int := if l.length = L.length then (if L.all fineB = true then ((ordered L).map (shown l L), 0) else ([], 2)) else ([], 2)
theorem own_show {l L : List Int} (hL : L.length ≤ 100000000000) {k : Nat} (hk : 10 * L.length + 20 ≤ k) : mirror_Show.f k l L = some (showPair l L) := by
  unfold mirror_Show.f showPair
  by_cases h : l.length = L.length
  · rw [if_pos (by omega), if_pos h, own_runs (by omega) (by omega)]
    simp only [Option.bind_some]
    by_cases hf : L.all fineB = true
    · have hlen : (ordered L).length ≤ L.length := by rw [ordered_len]; exact seen_len _ _
      have hg := grp_len L (ordered L) (ordered L).length
      have hfl := grp_flatten L (ordered L) (ordered L).length (Nat.le_refl _)
      rw [List.take_length] at hfl
      rw [if_pos hf, if_pos hf, if_pos rfl]
      have := show_out l L (grp L (ordered L) (ordered L).length) (by omega) (by omega) (by rw [hfl]; omega) (fun x hx => by
        rw [hfl] at hx
        obtain ⟨h1, h2, -⟩ := (ordered_mem L x).1 hx
        exact ⟨h1, by omega, h2⟩) (grp L (ordered L) (ordered L).length).length k 0 (by omega) (by omega) (by rw [List.drop_zero, hfl]; omega)
      rw [hfl] at this
      exact this
    · rw [if_neg hf, if_neg hf, if_neg (by decide)]
  · rw [if_neg (by omega), if_neg h]
theorem same_loop (L : List Int) (hL : L.length ≤ 281474976710656) : ∀ (d k i : Nat), L.length - i = d → i ≤ L.length → d < k → colophonref01_Same.l0 k L L (i : Int) = some true := by
  intro d
  induction d with
  | zero =>
    intro k i hd hi hk
    obtain ⟨k, rfl⟩ : ∃ m, k = m + 1 := ⟨k - 1, by omega⟩
    simp only [colophonref01_Same.l0]
    rw [if_neg (by omega)]
  | succ d ih =>
    intro k i hd hi hk
    obtain ⟨k, rfl⟩ : ∃ m, k = m + 1 := ⟨k - 1, by omega⟩
    simp only [colophonref01_Same.l0]
    rw [if_pos (by omega), if_pos (by omega), if_pos (by omega), if_pos trivial, wr1 (by omega)]
    exact ih k (i + 1) (by omega) (by omega) (by omega)
theorem same_self (L : List Int) (hL : L.length ≤ 281474976710656) {k : Nat} (hk : L.length < k) : colophonref01_Same.f k L L = some true := by
  unfold colophonref01_Same.f
  rw [if_pos rfl]
  exact same_loop L hL L.length k 0 (by omega) (by omega) (by omega)
theorem ints_loop (L : List Int) (hL : L.length ≤ 281474976710656) : ∀ (d k i : Nat), L.length - i = d → i ≤ L.length → d < k → colophonref01_Ints.l0 k L L (i : Int) = some true := by
  intro d
  induction d with
  | zero =>
    intro k i hd hi hk
    obtain ⟨k, rfl⟩ : ∃ m, k = m + 1 := ⟨k - 1, by omega⟩
    simp only [colophonref01_Ints.l0]
    rw [if_neg (by omega)]
  | succ d ih =>
    intro k i hd hi hk
    obtain ⟨k, rfl⟩ : ∃ m, k = m + 1 := ⟨k - 1, by omega⟩
    simp only [colophonref01_Ints.l0]
    rw [if_pos (by omega), if_pos (by omega), if_pos (by omega), if_pos trivial, wr1 (by omega)]
    exact ih k (i + 1) (by omega) (by omega) (by omega)
theorem ints_self (L : List Int) (hL : L.length ≤ 281474976710656) {k : Nat} (hk : L.length < k) : colophonref01_Ints.f k L L = some true := by
  unfold colophonref01_Ints.f
  rw [if_pos rfl]
  exact ints_loop L hL L.length k 0 (by omega) (by omega) (by omega)
end Go.Proofs.Ytccleelhheilnaa.Pure
