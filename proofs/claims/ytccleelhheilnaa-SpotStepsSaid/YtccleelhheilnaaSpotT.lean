/- What spot.Spots tells, over lists alone: of each place its column and its leaning; of a place that isn't seen the column of the next one that is. -/
import Derived.Test.YtccleelhheilnaaSx2
import Derived.Test.YtccleelhheilnaaRefT
namespace Go.Proofs.Ytccleelhheilnaa.Pure
set_option linter.unusedVariables false
set_option linter.unusedSimpArgs false
open Go.RowKit Go.Proofs.Ytccleelhheilnaa.F Go.Proofs.Ytccleelhheilnaa.S Go.Proofs.YtccleelhheilnaaW.PrintWords Go.Proofs.YtccleelhheilnaaW.PrintLast

/-- the column of a place -/
def col (M : List Int) (i : Nat) : Int := (M.idxOf (i : Int) : Nat)
def leanOf (A : List Int) (i : Nat) : Int := if Int.tmod (lev A i) 2 = 1 then -1 else 1
def spB (A M : List Int) : Nat → Nat → Cx
  | 0, i => ⟨col M i, leanOf A i⟩
  | d + 1, i => if 0 ≤ lev A i then ⟨col M i, leanOf A i⟩ else ⟨(spB A M d (i + 1)).re, 0⟩
/-- the spot of a place -/
def spAt (A M : List Int) (i : Nat) : Cx := spB A M (A.length - 1 - i) i
theorem spAt_seen {A M : List Int} {i : Nat} (h : 0 ≤ lev A i) : spAt A M i = ⟨col M i, leanOf A i⟩ := by
  unfold spAt
  generalize A.length - 1 - i = d
  cases d with
  | zero => rfl
  | succ d => simp only [spB]; rw [if_pos h]
theorem spAt_miss {A M : List Int} {i : Nat} (h : ¬ 0 ≤ lev A i) (hi : i + 1 < A.length) : spAt A M i = ⟨(spAt A M (i + 1)).re, 0⟩ := by
  unfold spAt
  obtain ⟨d, hd⟩ : ∃ d, A.length - 1 - i = d + 1 := ⟨A.length - 1 - i - 1, by omega⟩
  have hd2 : A.length - 1 - (i + 1) = d := by omega
  rw [hd, hd2]
  simp only [spB]
  rw [if_neg h]
/-- the spots -/
def spL (A M : List Int) : List Cx := (List.range A.length).map (spAt A M)
theorem spL_len (A M : List Int) : (spL A M).length = A.length := by simp [spL]

/-! ### The first loop: the places of the columns below m have their spots -/
def stage (A M : List Int) (m : Nat) : List Cx := (List.range A.length).map fun (i : Nat) => if (i : Int) ∈ M.take m then ⟨col M i, leanOf A i⟩ else zc
theorem stage_len (A M : List Int) (m : Nat) : (stage A M m).length = A.length := by simp [stage]
theorem stage_zero (A M : List Int) : stage A M 0 = List.replicate A.length zc := by
  apply List.ext_getElem
  · simp [stage]
  · intro i h1 h2
    simp [stage]
theorem col_get {M : List Int} (hn : M.Nodup) {m : Nat} (h : m < M.length) {i : Nat} (hi : M[m] = (i : Int)) : col M i = (m : Int) := by
  unfold col
  rw [← hi, List.Nodup.idxOf_getElem hn]
theorem stage_set {A M : List Int} (hn : M.Nodup) {m : Nat} (h : m < M.length) {i : Nat} (hi : M[m] = (i : Int)) : (stage A M m).set i ⟨(m : Int), leanOf A i⟩ = stage A M (m + 1) := by
  apply List.ext_getElem
  · simp [stage]
  · intro j h1 h2
    rw [List.getElem_set]
    have e : M.take (m + 1) = M.take m ++ [(i : Int)] := by rw [List.take_succ_eq_append_getElem h, hi]
    by_cases hij : i = j
    · subst hij
      rw [if_pos rfl]
      simp only [stage, List.getElem_map, List.getElem_range, e]
      rw [if_pos (by simp), col_get hn h hi]
    · rw [if_neg hij]
      simp only [stage, List.getElem_map, List.getElem_range, e, List.mem_append, List.mem_singleton]
      by_cases hm : (j : Int) ∈ M.take m
      · rw [if_pos hm, if_pos (.inl hm)]
      · rw [if_neg hm, if_neg]
        rintro (h | h)
        · exact hm h
        · omega
/-! ### The second loop: the places from j on have their spots, too -/
def stage2 (A M : List Int) (j : Nat) : List Cx := (List.range A.length).map fun (i : Nat) => if j ≤ i ∨ 0 ≤ lev A i then spAt A M i else zc
theorem stage2_len (A M : List Int) (m : Nat) : (stage2 A M m).length = A.length := by simp [stage2]
theorem stage2_zero (A M : List Int) : stage2 A M 0 = spL A M := by simp [stage2, spL]
theorem seen_lev {A : List Int} {i : Nat} (hi : i < A.length) : isSeen A (i : Int) ↔ 0 ≤ lev A i := by
  unfold isSeen
  rw [rd_lev]
  constructor
  · intro h; exact h.2.2
  · intro h; exact ⟨by omega, by omega, h⟩
theorem stage_end {A : List Int} (hl : 0 < A.length) (hb : 0 ≤ lev A (A.length - 1)) : stage A (ordered A) (ordered A).length = stage2 A (ordered A) (A.length - 1) := by
  apply List.ext_getElem
  · simp [stage, stage2]
  · intro i h1 h2
    have hi : i < A.length := by simpa [stage] using h1
    simp only [stage, stage2, List.getElem_map, List.getElem_range, List.take_length, ordered_mem, seen_lev hi]
    by_cases h : 0 ≤ lev A i
    · rw [if_pos h, if_pos (.inr h), spAt_seen h]
    · rw [if_neg h, if_neg]
      rintro (h3 | h3)
      · have : i = A.length - 1 := by omega
        rw [this] at h
        exact h hb
      · exact h h3
theorem stage2_get {A M : List Int} {j i : Nat} (hi : i < A.length) (h : j ≤ i ∨ 0 ≤ lev A i) : rdOf zc (stage2 A M j) (i : Int) = spAt A M i := by
  have hl : i < (stage2 A M j).length := by rw [stage2_len]; exact hi
  simp only [rdOf, Int.toNat_natCast, List.getD_eq_getElem?_getD, List.getElem?_eq_getElem hl, Option.getD_some]
  simp only [stage2, List.getElem_map, List.getElem_range]
  rw [if_pos h]
theorem stage2_set {A M : List Int} {j : Nat} (hj : j + 1 < A.length) (h : ¬ 0 ≤ lev A j) : (stage2 A M (j + 1)).set j ⟨(spAt A M (j + 1)).re, 0⟩ = stage2 A M j := by
  apply List.ext_getElem
  · simp [stage2]
  · intro i h1 h2
    rw [List.getElem_set]
    by_cases hij : j = i
    · subst hij
      rw [if_pos rfl]
      simp only [stage2, List.getElem_map, List.getElem_range]
      rw [if_pos (.inl (Nat.le_refl _)), spAt_miss h hj]
    · rw [if_neg hij]
      simp only [stage2, List.getElem_map, List.getElem_range]
      by_cases h3 : j ≤ i ∨ 0 ≤ lev A i
      · rw [if_pos h3, if_pos (by omega)]
      · rw [if_neg h3, if_neg (by omega)]
theorem stage2_skip {A M : List Int} {j : Nat} (h : 0 ≤ lev A j) : stage2 A M (j + 1) = stage2 A M j := by
  apply List.ext_getElem
  · simp [stage2]
  · intro i h1 h2
    simp only [stage2, List.getElem_map, List.getElem_range]
    by_cases h3 : j ≤ i ∨ 0 ≤ lev A i
    · rw [if_pos h3, if_pos]
      by_cases e : i = j
      · subst e; exact .inr h
      · omega
    · rw [if_neg h3, if_neg (by omega)]

theorem lev_app {L : List Int} {b : Int} {i : Nat} (h : i < L.length) : lev (L ++ [b]) i = lev L i := by
  simp [lev, List.getD_eq_getElem?_getD, List.getElem?_append_left h]
theorem lev_last (L : List Int) (b : Int) : lev (L ++ [b]) L.length = b := by
  simp [lev, List.getD_eq_getElem?_getD]
theorem spots_back (L : List Int) (b : Int) (hL : L.length ≤ 17592186043904) : ∀ (j k : Nat), j ≤ L.length → j < k →
    spot_Spots.l1 k L (stage2 (L ++ [b]) (ordered (L ++ [b])) j) ((j : Int) - 1) = some (spL (L ++ [b]) (ordered (L ++ [b])), 0) := by
  intro j
  induction j with
  | zero =>
    intro k _ hk
    obtain ⟨k, rfl⟩ : ∃ m, k = m + 1 := ⟨k - 1, by omega⟩
    simp only [spot_Spots.l1]
    rw [if_neg (by omega), stage2_zero]
  | succ j ih =>
    intro k hj hk
    obtain ⟨k, rfl⟩ : ∃ m, k = m + 1 := ⟨k - 1, by omega⟩
    have hnext := ih k (by omega) (by omega)
    have e1 : ((j + 1 : Nat) : Int) - 1 = (j : Int) := by omega
    have e2 : wrap64 ((j : Int) - 1) = (j : Int) - 1 := by unfold wrap64; omega
    have e3 : (L ++ [b]).length = L.length + 1 := by simp
    have hs := stage2_len (L ++ [b]) (ordered (L ++ [b])) (j + 1)
    simp only [spot_Spots.l1, e1, e2]
    rw [if_pos (by omega), if_pos (by omega), if_pos (by omega), rd_lev, ← lev_app (b := b) (by omega)]
    by_cases h : lev (L ++ [b]) j < 0
    · rw [if_pos h, wr1 (by omega), if_pos (by omega), if_pos (by omega), if_pos (by omega), stage2_get (by omega) (.inl (Nat.le_refl _)), Int.toNat_natCast, stage2_set (by omega) (by omega)]
      exact hnext
    · rw [if_neg h, stage2_skip (by omega)]
      exact hnext
theorem spots_fill (L : List Int) (b : Int) (hL : L.length ≤ 17592186043904) (hb : 0 ≤ b) (hf : (L ++ [b]).all fineB = true) : ∀ (d k m : Nat), (ordered (L ++ [b])).length - m = d → m ≤ (ordered (L ++ [b])).length → d + L.length + 2 < k →
    spot_Spots.l0 k L (L ++ [b]) (stage (L ++ [b]) (ordered (L ++ [b])) m) (ordered (L ++ [b])) ((ordered (L ++ [b])).length : Int) (m : Int) = some (spL (L ++ [b]) (ordered (L ++ [b])), 0) := by
  have e3 : (L ++ [b]).length = L.length + 1 := by simp
  have hlen : (ordered (L ++ [b])).length ≤ (L ++ [b]).length := by rw [ordered_len]; exact seen_len _ _
  intro d
  induction d with
  | zero =>
    intro k m hd hm hk
    obtain ⟨k, rfl⟩ : ∃ m, k = m + 1 := ⟨k - 1, by omega⟩
    obtain rfl : m = (ordered (L ++ [b])).length := by omega
    have e4 : wrap64 ((L.length : Int) - 1) = (L.length : Int) - 1 := by unfold wrap64; omega
    simp only [spot_Spots.l0]
    rw [if_neg (by omega), e4, stage_end (by omega) (by rw [e3, Nat.add_sub_cancel, lev_last]; exact hb), e3, Nat.add_sub_cancel]
    exact spots_back L b hL L.length k (Nat.le_refl _) (by omega)
  | succ d ih =>
    intro k m hd hm hk
    obtain ⟨k, rfl⟩ : ∃ m, k = m + 1 := ⟨k - 1, by omega⟩
    have hnext := ih k (m + 1) (by omega) (by omega) (by omega)
    have hlt : m < (ordered (L ++ [b])).length := by omega
    have hs := stage_len (L ++ [b]) (ordered (L ++ [b])) m
    obtain ⟨s0, s1, s2⟩ := (ordered_mem (L ++ [b]) _).1 (List.getElem_mem hlt)
    obtain ⟨i, hi⟩ : ∃ i : Nat, (ordered (L ++ [b]))[m] = (i : Int) := ⟨((ordered (L ++ [b]))[m]).toNat, by omega⟩
    have hset := stage_set (A := L ++ [b]) (ordered_nodup hf) hlt hi
    rw [hi] at s0 s1 s2
    simp only [spot_Spots.l0]
    rw [if_pos (by omega), if_pos (by omega), if_pos (by omega), rd_at hlt, hi, if_pos s0, if_pos s1, rd_lev, wr1 (by omega), Int.toNat_natCast]
    unfold leanOf at hset
    by_cases h : Int.tmod (lev (L ++ [b]) i) 2 = 1
    · rw [if_pos h] at hset
      rw [if_pos h, if_pos (by omega), hset]
      exact hnext
    · rw [if_neg h] at hset
      rw [if_neg h, if_pos (by omega), hset]
      exact hnext
/-- the line's spots, and the fault -/
def spPair (L : List Int) (b : Int) : List Cx × Int := if (b = 0 ∨ b = 1) ∧ L.all fineB = true then (spL (L ++ [b]) (ordered (L ++ [b])), 0) else ([], 2)
theorem own_spots {L : List Int} (b : Int) (hL : L.length ≤ 17592186043904) {k : Nat} (hk : 2 * L.length + 10 < k) : spot_Spots.f k L b = some (spPair L b) := by
  obtain ⟨k, rfl⟩ : ∃ m, k = m + 1 := ⟨k - 1, by omega⟩
  have e : spot_Spots.f (k + 1) L b = spot_Spots.j0 (k + 1) L b (decide (b ≠ 0 ∧ b ≠ 1)) := by
    unfold spot_Spots.f
    by_cases h : b = 0
    · rw [if_pos h]; simp [h]
    · rw [if_neg h]
      by_cases h1 : b = 1
      · have e1 : (b != 1) = false := by simp [h1]
        have e2 : decide (b ≠ 0 ∧ b ≠ 1) = false := by simp [h1]
        rw [e1, e2]
      · have e1 : (b != 1) = true := by simp [h1]
        have e2 : decide (b ≠ 0 ∧ b ≠ 1) = true := by simp [h, h1]
        rw [e1, e2]
  rw [e]
  simp only [spot_Spots.j0]
  by_cases hb : b = 0 ∨ b = 1
  · have h1 : ¬ (decide (b ≠ 0 ∧ b ≠ 1) = true) := by simp; omega
    have e3 : (L ++ [b]).length = L.length + 1 := by simp
    rw [if_neg h1]
    simp only [Option.bind_some, List.length_nil, List.nil_append, Nat.zero_add]
    rw [if_pos (by omega), if_pos (by omega), own_order (by omega)]
    simp only [Option.bind_some]
    have ea : (L ++ [b]).all fineB = L.all fineB := by
      rw [List.all_append]
      have : [b].all fineB = true := by
        simp [fineB]
        omega
      rw [this, Bool.and_true]
    unfold orderPair spPair
    by_cases hf : L.all fineB = true
    · have hlen : (ordered (L ++ [b])).length ≤ (L ++ [b]).length := by rw [ordered_len]; exact seen_len _ _
      have hf2 : (L ++ [b]).all fineB = true := by rw [ea]; exact hf
      simp only [if_pos hf2]
      rw [if_pos (And.intro hb hf), if_pos trivial, if_pos (by omega), if_pos (by omega), Int.toNat_natCast, ← stage_zero (L ++ [b]) (ordered (L ++ [b]))]
      exact spots_fill L b hL (by omega) hf2 (ordered (L ++ [b])).length k 0 (by omega) (by omega) (by omega)
    · have hf2 : ¬ (L ++ [b]).all fineB = true := by rw [ea]; exact hf
      have hf3 : ¬ ((b = 0 ∨ b = 1) ∧ L.all fineB = true) := fun h => hf h.2
      simp only [if_neg hf2]
      rw [if_neg hf3, if_neg (by omega)]
  · have h1 : decide (b ≠ 0 ∧ b ≠ 1) = true := by simp; omega
    rw [if_pos h1]
    unfold spPair
    rw [if_neg (fun h => hb h.1)]
end Go.Proofs.Ytccleelhheilnaa.Pure
