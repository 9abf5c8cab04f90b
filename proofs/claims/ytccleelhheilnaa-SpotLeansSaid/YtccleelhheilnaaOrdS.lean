/- The order of levels that are all two more, all one more; of a flat line with a stretch inside it; columns of an order: over lists alone. -/
import Derived.Test.YtccleelhheilnaaOrdT
namespace Go.Proofs.Ytccleelhheilnaa.Pure
set_option linter.unusedVariables false
set_option linter.unusedSimpArgs false
open Go.RowKit Go.Proofs.Ytccleelhheilnaa.F Go.Proofs.YtccleelhheilnaaW.PrintWords Go.Proofs.YtccleelhheilnaaW.PrintLast

theorem mm_shift {L M : List Int} (c : Int) (hs : ∀ z, isSeen M z ↔ isSeen L z) (hv : ∀ z, isSeen L z → rd M z = rd L z + c) {x y : Int} (hx : isSeen L x) (hy : isSeen L y) : mm M x y = mm L x y + c := by
  apply Int.le_antisymm
  · obtain ⟨z, hz, hb, he⟩ := mm_mem hx hy
    rw [he, ← hv z hz]
    exact mm_le hx.1 hy.1 ((hs z).2 hz) hb
  · obtain ⟨z, hz, hb, he⟩ := mm_mem ((hs x).2 hx) ((hs y).2 hy)
    have hz' := (hs z).1 hz
    rw [he, hv z hz']
    have := mm_le hx.1 hy.1 hz' hb
    omega
/-- Places so ordered are the order. -/
theorem ordered_eq {L l : List Int} (h : L.all fineB = true) (hp : l.Pairwise (Lf L)) (hm : ∀ x, x ∈ l ↔ isSeen L x) : ordered L = l :=
  pairs_unique (R := Lf L) (fun x y => Lf_asymm) _ _ (ordered_pairs h) hp fun x => (ordered_mem L x).trans (hm x).symm
theorem ordered_even {L M : List Int} (c : Int) (hc : c % 2 = 0) (hL : L.all fineB = true) (hM : M.all fineB = true) (hs : ∀ z, isSeen M z ↔ isSeen L z) (hv : ∀ z, isSeen L z → rd M z = rd L z + c) : ordered M = ordered L := by
  refine ordered_eq hM ?_ fun x => (ordered_mem L x).trans (hs x).symm
  refine List.Pairwise.imp_of_mem ?_ (ordered_pairs hL)
  intro a b ha hb hab
  have e := mm_shift c hs hv ((ordered_mem L a).1 ha) ((ordered_mem L b).1 hb)
  unfold Lf at hab ⊢
  rw [e]
  split at hab <;> split <;> omega
theorem ordered_odd {L M : List Int} (c : Int) (hc : c % 2 = 1) (hL : L.all fineB = true) (hM : M.all fineB = true) (hs : ∀ z, isSeen M z ↔ isSeen L z) (hv : ∀ z, isSeen L z → rd M z = rd L z + c) : ordered M = (ordered L).reverse := by
  refine ordered_eq hM ?_ fun x => (List.mem_reverse.trans (ordered_mem L x)).trans (hs x).symm
  rw [List.pairwise_reverse]
  refine List.Pairwise.imp_of_mem ?_ (ordered_pairs hL)
  intro a b ha hb hab
  have e := mm_shift c hs hv ((ordered_mem L b).1 hb) ((ordered_mem L a).1 ha)
  rw [mm_comm L b a] at e
  unfold Lf at hab ⊢
  rw [e]
  split at hab <;> split <;> omega
def upBy (c : Int) (L : List Int) : List Int := L.map fun n => if 0 ≤ n then n + c else n
theorem rd_upBy (c : Int) (L : List Int) {z : Int} (h0 : 0 ≤ z) (h1 : z < (L.length : Int)) : rd (upBy c L) z = if 0 ≤ rd L z then rd L z + c else rd L z := by
  have hz : z.toNat < L.length := by omega
  have hz2 : z.toNat < (upBy c L).length := by unfold upBy; simpa using hz
  simp only [rd, List.getD_eq_getElem?_getD, List.getElem?_eq_getElem hz, List.getElem?_eq_getElem hz2, Option.getD_some]
  simp [upBy]
theorem upBy_len (c : Int) (L : List Int) : (upBy c L).length = L.length := by simp [upBy]
theorem upBy_seen {c : Int} (hc : 0 ≤ c) (L : List Int) (z : Int) : isSeen (upBy c L) z ↔ isSeen L z := by
  unfold isSeen
  rw [upBy_len]
  constructor
  · rintro ⟨h0, h1, h2⟩
    refine ⟨h0, h1, ?_⟩
    rw [rd_upBy c L h0 h1] at h2
    split at h2 <;> omega
  · rintro ⟨h0, h1, h2⟩
    refine ⟨h0, h1, ?_⟩
    rw [rd_upBy c L h0 h1, if_pos h2]
    omega
theorem upBy_val (c : Int) (L : List Int) (z : Int) (h : isSeen L z) : rd (upBy c L) z = rd L z + c := by
  rw [rd_upBy c L h.1 h.2.1, if_pos h.2.2]

/-! ### A flat line with a stretch inside -/
def flatL (lv a m n : Nat) : List Int := (List.range n).map fun i => if a ≤ i ∧ i < a + m then (lv : Int) + 1 else (lv : Int)
def flatW (lv a m n : Nat) (i : Nat) : Nat :=
  let w := if lv % 2 = 1 then n - 1 - i else i
  if a ≤ w ∧ w < a + m then 2 * a + m - 1 - w else w
theorem flat_rd (lv a m n : Nat) {z : Int} (h0 : 0 ≤ z) (h1 : z < (n : Int)) : rd (flatL lv a m n) z = if (a : Int) ≤ z ∧ z < (a : Int) + m then (lv : Int) + 1 else (lv : Int) := by
  have hz : z.toNat < (flatL lv a m n).length := by simp only [flatL, List.length_map, List.length_range]; omega
  simp only [rd, List.getD_eq_getElem?_getD, List.getElem?_eq_getElem hz, Option.getD_some]
  simp only [flatL, List.getElem_map, List.getElem_range]
  by_cases h : a ≤ z.toNat ∧ z.toNat < a + m
  · rw [if_pos h, if_pos (by omega)]
  · rw [if_neg h, if_neg (by omega)]
theorem flat_seen (lv a m n : Nat) (z : Int) : isSeen (flatL lv a m n) z ↔ 0 ≤ z ∧ z < (n : Int) := by
  unfold isSeen
  have e : ((flatL lv a m n).length : Int) = n := by simp [flatL]
  rw [e]
  constructor
  · rintro ⟨h0, h1, -⟩; exact ⟨h0, h1⟩
  · rintro ⟨h0, h1⟩
    refine ⟨h0, h1, ?_⟩
    rw [flat_rd lv a m n h0 h1]
    split <;> omega
theorem flat_mm (lv a m n : Nat) {x y : Int} (hx : 0 ≤ x) (hx1 : x < (n : Int)) (hy : 0 ≤ y) (hy1 : y < (n : Int)) :
    mm (flatL lv a m n) x y = if ((a : Int) ≤ x ∧ x < (a : Int) + m) ∧ ((a : Int) ≤ y ∧ y < (a : Int) + m) then (lv : Int) + 1 else (lv : Int) := by
  have sx := (flat_seen lv a m n x).2 ⟨hx, hx1⟩
  have sy := (flat_seen lv a m n y).2 ⟨hy, hy1⟩
  obtain ⟨z, hz, hb, he⟩ := mm_mem sx sy
  obtain ⟨z0, z1⟩ := (flat_seen lv a m n z).1 hz
  have vz := flat_rd lv a m n z0 z1
  have vx := flat_rd lv a m n hx hx1
  have vy := flat_rd lv a m n hy hy1
  have l1 := mm_le hx hy sx (by omega)
  have l2 := mm_le hx hy sy (by omega)
  rw [he] at l1 l2 ⊢
  rw [vz] at l1 l2 ⊢
  rw [vx] at l1
  rw [vy] at l2
  split at l1 <;> split at l2 <;> split <;> first | rfl | omega | (split at l1 <;> split at l2 <;> omega)
theorem flatW_cases (lv a m n i : Nat) : (lv % 2 = 1 ∧ (a ≤ n - 1 - i ∧ n - 1 - i < a + m) ∧ flatW lv a m n i = 2 * a + m - 1 - (n - 1 - i)) ∨ (lv % 2 = 1 ∧ (n - 1 - i < a ∨ a + m ≤ n - 1 - i) ∧ flatW lv a m n i = n - 1 - i) ∨
    (lv % 2 = 0 ∧ (a ≤ i ∧ i < a + m) ∧ flatW lv a m n i = 2 * a + m - 1 - i) ∨ (lv % 2 = 0 ∧ (i < a ∨ a + m ≤ i) ∧ flatW lv a m n i = i) := by
  unfold flatW
  simp only
  by_cases ho : lv % 2 = 1
  · simp only [if_pos ho]
    by_cases h1 : a ≤ n - 1 - i ∧ n - 1 - i < a + m
    · rw [if_pos h1]; exact .inl ⟨ho, h1, rfl⟩
    · rw [if_neg h1]; exact .inr (.inl ⟨ho, by omega, rfl⟩)
  · simp only [if_neg ho]
    by_cases h1 : a ≤ i ∧ i < a + m
    · rw [if_pos h1]; exact .inr (.inr (.inl ⟨by omega, h1, rfl⟩))
    · rw [if_neg h1]; exact .inr (.inr (.inr ⟨by omega, by omega, rfl⟩))
theorem flatW_lt (lv a m n i : Nat) (hn : a + m ≤ n) (hi : i < n) : flatW lv a m n i < n := by
  have := flatW_cases lv a m n i
  omega
theorem flatW_onto (lv a m n x : Nat) (hn : a + m ≤ n) (hx : x < n) : ∃ i, i < n ∧ flatW lv a m n i = x := by
  by_cases h : a ≤ x ∧ x < a + m <;> by_cases ho : lv % 2 = 1
  · refine ⟨n - 1 - (2 * a + m - 1 - x), by omega, ?_⟩
    have := flatW_cases lv a m n (n - 1 - (2 * a + m - 1 - x))
    omega
  · refine ⟨2 * a + m - 1 - x, by omega, ?_⟩
    have := flatW_cases lv a m n (2 * a + m - 1 - x)
    omega
  · refine ⟨n - 1 - x, by omega, ?_⟩
    have := flatW_cases lv a m n (n - 1 - x)
    omega
  · refine ⟨x, by omega, ?_⟩
    have := flatW_cases lv a m n x
    omega
theorem flat_pair (lv a m n i j : Nat) (hn : a + m ≤ n) (hij : i < j) (hj : j < n) : Lf (flatL lv a m n) (flatW lv a m n i : Int) (flatW lv a m n j : Int) := by
  have hi := flatW_lt lv a m n i hn (by omega)
  have hj' := flatW_lt lv a m n j hn hj
  have hmm := flat_mm lv a m n (x := (flatW lv a m n i : Int)) (y := (flatW lv a m n j : Int)) (by omega) (by omega) (by omega) (by omega)
  have ci := flatW_cases lv a m n i
  have cj := flatW_cases lv a m n j
  unfold Lf
  rw [hmm]
  clear hmm
  generalize flatW lv a m n i = x at *
  generalize flatW lv a m n j = y at *
  by_cases hb : ((a : Int) ≤ (x : Int) ∧ (x : Int) < (a : Int) + m) ∧ ((a : Int) ≤ (y : Int) ∧ (y : Int) < (a : Int) + m)
  · simp only [if_pos hb]
    split <;> omega
  · simp only [if_neg hb]
    split <;> omega
theorem flat_fine (lv a m n : Nat) (h : lv < 127 ∨ (m = 0 ∧ lv ≤ 127)) : (flatL lv a m n).all fineB = true := by
  rw [List.all_eq_true]
  intro x hx
  obtain ⟨i, -, rfl⟩ := List.mem_map.1 hx
  simp only [fineB, decide_eq_true_eq]
  split <;> omega
theorem ordered_flat (lv a m n : Nat) (hn : a + m ≤ n) (h : lv < 127 ∨ (m = 0 ∧ lv ≤ 127)) : ordered (flatL lv a m n) = (List.range n).map fun i => (flatW lv a m n i : Int) := by
  refine ordered_eq (flat_fine lv a m n h) ?_ fun x => ?_
  · rw [List.pairwise_map]
    refine List.Pairwise.imp_of_mem ?_ (List.pairwise_lt_range (n := n))
    intro i j hi hj hij
    exact flat_pair lv a m n i j hn hij (List.mem_range.1 hj)
  · rw [flat_seen]
    constructor
    · intro hx
      obtain ⟨i, hi, rfl⟩ := List.mem_map.1 hx
      have := flatW_lt lv a m n i hn (List.mem_range.1 hi)
      omega
    · rintro ⟨h0, h1⟩
      obtain ⟨i, hi, e⟩ := flatW_onto lv a m n x.toNat hn (by omega)
      exact List.mem_map.2 ⟨i, List.mem_range.2 hi, by omega⟩
theorem flat_rep (lv n : Nat) : flatL lv 0 0 n = List.replicate n (lv : Int) := by
  apply List.ext_getElem
  · simp [flatL]
  · intro i h1 h2
    simp only [flatL, List.getElem_map, List.getElem_range, List.getElem_replicate]
    rw [if_neg (by omega)]
theorem ordered_rep (lv n : Nat) (h : lv ≤ 127) : ordered (List.replicate n (lv : Int)) = (List.range n).map fun i => if lv % 2 = 1 then ((n - 1 - i : Nat) : Int) else (i : Int) := by
  rw [← flat_rep, ordered_flat lv 0 0 n (by omega) (.inr ⟨rfl, h⟩)]
  apply List.map_congr_left
  intro i hi
  unfold flatW
  simp only
  split
  · rw [if_neg (by omega)]
  · rw [if_neg (by omega)]
end Go.Proofs.Ytccleelhheilnaa.Pure
