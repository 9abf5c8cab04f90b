/- The reference's order is the order: a place stands behind as many as stand further left. -/
import Derived.Test.YtccleelhheilnaaOrdT
import Derived.Test.YtccleelhheilnaaFx8
namespace Go.Proofs.Ytccleelhheilnaa.Pure
set_option linter.unusedVariables false
set_option linter.unusedSimpArgs false
open Go.RowKit Go.Proofs.Ytccleelhheilnaa.F Go.Proofs.YtccleelhheilnaaW.PrintWords Go.Proofs.YtccleelhheilnaaW.PrintLast

theorem wr1 {i : Nat} (h : i ≤ 281474976710656) : wrap64 ((i : Int) + 1) = ((i + 1 : Nat) : Int) := by unfold wrap64; omega
theorem wm1 {i : Nat} (h : i ≤ 281474976710656) : wrap64 (((i + 1 : Nat) : Int) - 1) = (i : Int) := by unfold wrap64; omega
theorem rd_lev (L : List Int) (i : Nat) : rd L (i : Int) = lev L i := by simp only [rd, lev, Int.toNat_natCast]
theorem rd_at {l : List Int} {i : Nat} (h : i < l.length) : rd l (i : Int) = l[i] := by
  simp only [rd, Int.toNat_natCast, List.getD_eq_getElem?_getD, List.getElem?_eq_getElem h, Option.getD_some]

theorem ref_formed_loop (L : List Int) (hl : L.length ≤ 281474976710656) : ∀ (d k i : Nat), L.length - i = d → i ≤ L.length → d < k → colophonref13_Formed.l0 k L (i : Int) = some ((L.drop i).all fineB) := by
  intro d
  induction d with
  | zero =>
    intro k i hd hi hk
    obtain ⟨k, rfl⟩ : ∃ m, k = m + 1 := ⟨k - 1, by omega⟩
    simp only [colophonref13_Formed.l0]
    rw [if_neg (by omega), List.drop_eq_nil_of_le (by omega)]
    rfl
  | succ d ih =>
    intro k i hd hi hk
    obtain ⟨k, rfl⟩ : ∃ m, k = m + 1 := ⟨k - 1, by omega⟩
    have hlt : i < L.length := by omega
    simp only [colophonref13_Formed.l0, rd_at hlt]
    rw [if_pos (by omega), if_pos (by omega), List.drop_eq_getElem_cons hlt, List.all_cons, wr1 (by omega)]
    by_cases h1 : L[i] < -1
    · rw [if_pos h1, show fineB L[i] = false from by simp only [fineB, decide_eq_false_iff_not]; omega]
      rfl
    · rw [if_neg h1]
      by_cases h2 : L[i] > 127
      · rw [if_pos h2, show fineB L[i] = false from by simp only [fineB, decide_eq_false_iff_not]; omega]
        rfl
      · rw [if_neg h2, show fineB L[i] = true from by simp only [fineB, decide_eq_true_eq]; omega, Bool.true_and]
        exact ih k (i + 1) (by omega) (by omega) (by omega)

/-! ### Left -/
def lfB (L : List Int) (x y : Int) : Bool := if mm L x y % 2 = 1 then decide (y < x) else decide (x < y)
theorem lfB_iff (L : List Int) (x y : Int) : lfB L x y = true ↔ Lf L x y := by unfold lfB Lf; split <;> simp
theorem left_loop (L : List Int) (hl : L.length ≤ 281474976710656) (i j : Nat) (hj : j < L.length) : ∀ (e k d : Nat), i + d + e = j → e + 1 < k →
    colophonref13_Left.l0 k L (j : Int) (low L i d) ((i + d + 1 : Nat) : Int) = some (Int.tmod (low L i (j - i)) 2 == 0) := by
  intro e
  induction e with
  | zero =>
    intro k d hd hk
    obtain ⟨k, rfl⟩ : ∃ m, k = m + 1 := ⟨k - 1, by omega⟩
    simp only [colophonref13_Left.l0]
    rw [if_neg (by omega), show j - i = d by omega]
  | succ e ih =>
    intro k d hd hk
    obtain ⟨k, rfl⟩ : ∃ m, k = m + 1 := ⟨k - 1, by omega⟩
    have := ih k (d + 1) (by omega) (by omega)
    simp only [colophonref13_Left.l0, rd_lev]
    rw [if_pos (by omega), if_pos (by omega), if_pos (by omega), wr1 (by omega)]
    have e1 : i + (d + 1) + 1 = i + d + 1 + 1 := rfl
    rw [e1] at this
    simp only [low] at this
    by_cases h1 : lev L (i + d + 1) ≥ 0
    · rw [if_pos h1]
      by_cases h2 : lev L (i + d + 1) < low L i d
      · rw [if_pos h2]
        rw [if_pos ⟨h1, h2⟩] at this
        exact this
      · rw [if_neg h2]
        rw [if_neg (fun h => h2 h.2)] at this
        exact this
    · rw [if_neg h1]
      rw [if_neg (fun h => h1 h.1)] at this
      exact this
theorem low_nonneg (L : List Int) (i : Nat) (hi : 0 ≤ lev L i) (d : Nat) : 0 ≤ low L i d := by
  obtain ⟨k, -, h1, h2⟩ := low_mem L i hi d
  omega
theorem left_up (L : List Int) (hl : L.length ≤ 281474976710656) (i j : Nat) (hij : i < j) (hj : j < L.length) (hi : 0 ≤ lev L i) {k : Nat} (hk : j + 5 < k) :
    colophonref13_Left.f k L (i : Int) (j : Int) = some (decide (mm L i j % 2 = 0)) := by
  obtain ⟨k, rfl⟩ : ∃ m, k = m + 2 := ⟨k - 2, by omega⟩
  rw [show k + 2 = (k + 1) + 1 from rfl, colophonref13_Left.f, if_neg (by omega), if_pos (by omega), if_pos (by omega), colophonref13_Left.l0]
  simp only [rd_lev]
  rw [if_pos (by omega), if_pos (by omega), if_pos (by omega), if_pos hi, if_neg (by omega), wr1 (by omega)]
  have := left_loop L hl i j hj (j - i) k 0 (by omega) (by omega)
  simp only [low, Nat.add_zero] at this
  rw [this]
  have hm : mm L (i : Int) (j : Int) = low L i (j - i) := by
    unfold mm
    rw [Int.toNat_natCast, Int.toNat_natCast, Nat.min_eq_left (by omega), Nat.max_eq_right (by omega)]
  rw [hm, Int.tmod_eq_emod_of_nonneg (low_nonneg L i hi _)]
  by_cases h : low L i (j - i) % 2 = 0
  · rw [decide_eq_true h, h]; rfl
  · rw [decide_eq_false h]; exact congrArg some (by simpa using h)
theorem ref_left (L : List Int) (hl : L.length ≤ 281474976710656) (i j : Nat) (hij : i ≠ j) (hil : i < L.length) (hjl : j < L.length) (hi : 0 ≤ lev L i) (hj : 0 ≤ lev L j) {k : Nat} (hk : L.length + 6 < k) :
    colophonref13_Left.f k L (i : Int) (j : Int) = some (lfB L i j) := by
  have hmn : 0 ≤ mm L (i : Int) (j : Int) := by
    obtain ⟨z, hz, -, h⟩ := mm_mem (L := L) (x := (i : Int)) (y := (j : Int)) ⟨by omega, by omega, hi⟩ ⟨by omega, by omega, hj⟩
    rw [h]
    exact hz.2.2
  rcases Nat.lt_or_ge i j with h | h
  · rw [left_up L hl i j h hjl hi (by omega)]
    unfold lfB
    by_cases h2 : mm L (i : Int) (j : Int) % 2 = 1
    · rw [if_pos h2, decide_eq_false (by omega), decide_eq_false (by omega)]
    · rw [if_neg h2, decide_eq_true (by omega), decide_eq_true (by omega)]
  · obtain ⟨k, rfl⟩ : ∃ m, k = m + 1 := ⟨k - 1, by omega⟩
    rw [colophonref13_Left.f, if_pos (by omega), left_up L hl j i (by omega) hil hj (by omega)]
    simp only [Option.bind_some]
    unfold lfB
    rw [mm_comm L (j : Int) (i : Int)]
    by_cases h2 : mm L (i : Int) (j : Int) % 2 = 1
    · rw [if_pos h2, decide_eq_false (show ¬ mm L (i : Int) (j : Int) % 2 = 0 by omega), decide_eq_true (show (j : Int) < (i : Int) by omega)]
      rfl
    · rw [if_neg h2, decide_eq_true (show mm L (i : Int) (j : Int) % 2 = 0 by omega), decide_eq_false (show ¬ (i : Int) < (j : Int) by omega)]
      rfl

/-! ### How many stand further left -/
theorem turnF_perm (p : Int → Bool) : ∀ (l acc : List Int), (turnF p l acc).Perm (l ++ acc)
  | [], acc => List.Perm.refl _
  | x :: l, acc => by
    unfold turnF
    split
    · exact (turnF_perm p l (x :: acc)).trans List.perm_middle
    · exact ((List.Perm.append_left acc (List.Perm.cons x (by have := turnF_perm p l []; rwa [List.append_nil] at this)))).trans List.perm_append_comm
theorem turns_perm (L : List Int) (least : Nat) : ∀ (n : Nat) (out : List Int), (turnsFrom L least n out).Perm out
  | 0, out => List.Perm.refl _
  | n + 1, out => by
    unfold turnsFrom
    split
    · refine (turns_perm L least n _).trans ?_
      have := turnF_perm (atLeast L ((n + 1 : Nat) : Int)) out []
      rwa [List.append_nil] at this
    · exact List.Perm.refl _
theorem ordered_perm (L : List Int) : (ordered L).Perm (seenAt L L.length) := turns_perm L _ _ _

theorem count_at {R : Int → Int → Bool} (hi : ∀ x, R x x = false) (ha : ∀ x y, R x y = true → R y x = false) : ∀ (l : List Int) (b : Nat) (h : b < l.length), l.Pairwise (fun x y => R x y = true) → l.countP (fun x => R x l[b]) = b
  | [], b, h, _ => by simp at h
  | x :: l, 0, h, hp => by
    obtain ⟨h1, h2⟩ := List.pairwise_cons.1 hp
    simp only [List.getElem_cons_zero, List.countP_cons, hi]
    have : l.countP (fun y => R y x) = 0 := by
      rw [List.countP_eq_zero]
      intro y hy
      rw [ha x y (h1 y hy)]
      decide
    simp [this]
  | x :: l, b + 1, h, hp => by
    obtain ⟨h1, h2⟩ := List.pairwise_cons.1 hp
    have hb : b < l.length := by simpa using h
    simp only [List.getElem_cons_succ, List.countP_cons]
    rw [count_at hi ha l b hb h2, h1 l[b] (List.getElem_mem hb)]
    simp
def ahead (L : List Int) (i m : Nat) : Nat := (seenAt L m).countP fun x => lfB L x (i : Int)
theorem ahead_at {L : List Int} (hf : L.all fineB = true) (b : Nat) (h : b < (ordered L).length) (i : Nat) (hi : (ordered L)[b] = (i : Int)) : ahead L i L.length = b := by
  unfold ahead
  rw [← (ordered_perm L).countP_eq, ← hi]
  refine count_at (R := lfB L) ?_ ?_ _ b h ?_
  · intro x
    have := Lf_irrefl L x
    rw [← lfB_iff] at this
    simpa using this
  · intro x y hxy
    have := Lf_asymm ((lfB_iff L x y).1 hxy)
    rw [← lfB_iff] at this
    simpa using this
  · exact (ordered_pairs hf).imp fun {a b} hab => (lfB_iff L a b).2 hab

/-- The count of those further left: the inner loop. -/
theorem ref_count (L out : List Int) (hl : L.length ≤ 100) (i : Nat) (hil : i < L.length) (hi : 0 ≤ lev L i) (r : Option (List Int × Int)) : ∀ (d k j : Nat), L.length - j = d → j ≤ L.length → d + 200 ≤ k →
    (∀ k', k ≤ k' + d + 1 → ahead L i L.length < out.length → colophonref13_Order.l1 k' L (out.set (ahead L i L.length) (i : Int)) ((i + 1 : Nat) : Int) = r) → ahead L i L.length < out.length →
    colophonref13_Order.l2 k L out (i : Int) (ahead L i j : Int) (j : Int) = r := by
  intro d
  induction d with
  | zero =>
    intro k j hd hj hk H hb
    obtain ⟨k, rfl⟩ : ∃ m, k = m + 1 := ⟨k - 1, by omega⟩
    obtain rfl : j = L.length := by omega
    simp only [colophonref13_Order.l2, rd_lev]
    rw [if_neg (by omega), if_pos (by omega), if_pos (by omega), if_pos hi, if_pos (by omega), if_pos (by omega), Int.toNat_natCast, wr1 (by omega)]
    exact H k (by omega) hb
  | succ d ih =>
    intro k j hd hj hk H hb
    obtain ⟨k, rfl⟩ : ∃ m, k = m + 1 := ⟨k - 1, by omega⟩
    have hnext := ih k (j + 1) (by omega) (by omega) (by omega) (fun k' hk' => H k' (by omega)) hb
    have hab : ahead L i j ≤ 100 := Nat.le_trans List.countP_le_length (Nat.le_trans (seen_len L j) (by omega))
    simp only [colophonref13_Order.l2, rd_lev]
    rw [if_pos (by omega), wr1 (i := j) (by omega)]
    by_cases hji : j = i
    · rw [if_pos (by omega)]
      have e : ahead L i (j + 1) = ahead L i j := by
        unfold ahead
        rw [seen_hit (by rw [rd_lev, hji]; exact hi), List.countP_append, hji, List.countP_cons_of_neg (by rw [lfB_iff]; exact Lf_irrefl L _), List.countP_nil]
        rfl
      rw [e] at hnext
      exact hnext
    · rw [if_neg (by omega), if_pos (by omega)]
      by_cases hs : lev L j ≥ 0
      · rw [if_pos hs, if_pos (by omega), if_pos (by omega), if_pos hi, ref_left L (by omega) j i hji (by omega) hil hs hi (by omega)]
        simp only [Option.bind_some]
        cases hb2 : lfB L (j : Int) (i : Int) with
        | true =>
          have e : ahead L i (j + 1) = ahead L i j + 1 := by
            unfold ahead
            rw [seen_hit (by rw [rd_lev]; exact hs), List.countP_append, List.countP_cons_of_pos (p := fun x => lfB L x (i : Int)) hb2, List.countP_nil]
          rw [if_pos rfl, wr1 (i := ahead L i j) (by omega)]
          rw [e] at hnext
          exact hnext
        | false =>
          have e : ahead L i (j + 1) = ahead L i j := by
            unfold ahead
            rw [seen_hit (by rw [rd_lev]; exact hs), List.countP_append, List.countP_cons_of_neg (by rw [hb2]; decide), List.countP_nil]
            rfl
          rw [if_neg (by decide)]
          rw [e] at hnext
          exact hnext
      · rw [if_neg hs]
        have e : ahead L i (j + 1) = ahead L i j := by
          unfold ahead
          rw [seen_miss (by rw [rd_lev]; exact hs)]
        rw [e] at hnext
        exact hnext
/-- Of a place that is not seen nothing is counted. -/
theorem ref_skip (L out : List Int) (hl : L.length ≤ 100) (i : Nat) (hil : i < L.length) (hi : ¬ lev L i ≥ 0) (r : Option (List Int × Int)) (c : Int) : ∀ (d k j : Nat), L.length - j = d → j ≤ L.length → d + 200 ≤ k →
    (∀ k', k ≤ k' + d + 1 → colophonref13_Order.l1 k' L out ((i + 1 : Nat) : Int) = r) → colophonref13_Order.l2 k L out (i : Int) c (j : Int) = r := by
  intro d
  induction d with
  | zero =>
    intro k j hd hj hk H
    obtain ⟨k, rfl⟩ : ∃ m, k = m + 1 := ⟨k - 1, by omega⟩
    obtain rfl : j = L.length := by omega
    simp only [colophonref13_Order.l2, rd_lev]
    rw [if_neg (by omega), if_pos (by omega), if_pos (by omega), if_neg hi, wr1 (by omega)]
    exact H k (by omega)
  | succ d ih =>
    intro k j hd hj hk H
    obtain ⟨k, rfl⟩ : ∃ m, k = m + 1 := ⟨k - 1, by omega⟩
    have hnext := ih k (j + 1) (by omega) (by omega) (by omega) (fun k' hk' => H k' (by omega))
    simp only [colophonref13_Order.l2, rd_lev]
    rw [if_pos (by omega), wr1 (i := j) (by omega)]
    by_cases hji : (j : Int) = (i : Int)
    · rw [if_pos hji]; exact hnext
    · rw [if_neg hji, if_pos (by omega)]
      by_cases hs : lev L j ≥ 0
      · rw [if_pos hs, if_pos (by omega), if_pos (by omega), if_neg hi]; exact hnext
      · rw [if_neg hs]; exact hnext

/-- what is filled in when the places ahead of m have been looked at -/
def filled (l : List Int) (m : Nat) : List Int := l.map fun x => if x < (m : Int) then x else 0
theorem filled_set {l : List Int} (hn : l.Nodup) {m b : Nat} (hb : b < l.length) (h : l[b] = (m : Int)) : (filled l m).set b (m : Int) = filled l (m + 1) := by
  apply List.ext_getElem
  · simp [filled]
  · intro i h1 h2
    have hi : i < l.length := by simpa [filled] using h2
    rw [List.getElem_set]
    simp only [filled, List.getElem_map]
    by_cases hib : b = i
    · subst hib
      rw [if_pos rfl, h, if_pos (by omega)]
    · rw [if_neg hib]
      have hne : l[i] ≠ (m : Int) := by
        rw [← h]
        intro e
        exact hib ((List.getElem_inj hn).1 e.symm)
      by_cases hlt : l[i] < (m : Int)
      · rw [if_pos hlt, if_pos (by omega)]
      · rw [if_neg hlt, if_neg (by omega)]
theorem filled_skip {l : List Int} {m : Nat} (h : (m : Int) ∉ l) : filled l (m + 1) = filled l m := by
  unfold filled
  refine List.map_congr_left fun x hx => ?_
  have : x ≠ (m : Int) := fun e => h (e ▸ hx)
  by_cases hlt : x < (m : Int)
  · rw [if_pos hlt, if_pos (by omega)]
  · rw [if_neg hlt, if_neg (by omega)]

theorem ref_fill (L : List Int) (hl : L.length ≤ 100) (hf : L.all fineB = true) : ∀ (d k i : Nat), L.length - i = d → i ≤ L.length → 110 * d + 400 ≤ k →
    colophonref13_Order.l1 k L (filled (ordered L) i) (i : Int) = some (ordered L, 0) := by
  intro d
  induction d with
  | zero =>
    intro k i hd hi hk
    obtain ⟨k, rfl⟩ : ∃ m, k = m + 1 := ⟨k - 1, by omega⟩
    obtain rfl : i = L.length := by omega
    simp only [colophonref13_Order.l1]
    rw [if_neg (by omega)]
    have : filled (ordered L) L.length = ordered L := by
      unfold filled
      conv => rhs; rw [← List.map_id (ordered L)]
      refine List.map_congr_left fun x hx => ?_
      have := ((ordered_mem L x).1 hx).2.1
      rw [if_pos (by omega)]
      rfl
    rw [this]
  | succ d ih =>
    intro k i hd hi hk
    obtain ⟨k, rfl⟩ : ∃ m, k = m + 1 := ⟨k - 1, by omega⟩
    have hil : i < L.length := by omega
    simp only [colophonref13_Order.l1]
    rw [if_pos (by omega)]
    by_cases hs : lev L i ≥ 0
    · have hm : (i : Int) ∈ ordered L := (ordered_mem L _).2 ⟨by omega, by omega, hs⟩
      obtain ⟨b, hb, hbi⟩ := List.getElem_of_mem hm
      have ha := ahead_at hf b hb i hbi
      have hb' : b < (filled (ordered L) i).length := by simpa [filled] using hb
      have := ref_count L (filled (ordered L) i) hl i hil hs (some (ordered L, 0)) L.length k 0 (by omega) (by omega) (by omega) (fun k' hk' _ => by
        rw [ha, filled_set (ordered_nodup hf) hb hbi]
        exact ih k' (i + 1) (by omega) (by omega) (by omega)) (by rw [ha]; exact hb')
      have e0 : ahead L i 0 = 0 := rfl
      rw [e0] at this
      exact this
    · refine ref_skip L _ hl i hil hs _ 0 L.length k 0 (by omega) (by omega) (by omega) (fun k' hk' => ?_)
      have hnm : (i : Int) ∉ ordered L := fun h => hs ((ordered_mem L _).1 h).2.2
      rw [← filled_skip hnm]
      exact ih k' (i + 1) (by omega) (by omega) (by omega)

theorem ref_seen (L : List Int) (hl : L.length ≤ 100) (r : Option (List Int × Int)) : ∀ (d k i : Nat), L.length - i = d → i ≤ L.length → d + 1 < k →
    (∀ k', k ≤ k' + d + 1 → colophonref13_Order.l1 k' L (List.replicate (seenAt L L.length).length 0) 0 = r) → colophonref13_Order.l0 k L ((seenAt L i).length : Int) (i : Int) = r := by
  intro d
  induction d with
  | zero =>
    intro k i hd hi hk H
    obtain ⟨k, rfl⟩ : ∃ m, k = m + 1 := ⟨k - 1, by omega⟩
    obtain rfl : i = L.length := by omega
    have := seen_len L L.length
    simp only [colophonref13_Order.l0]
    rw [if_neg (by omega), if_pos (by omega), if_pos (by rw [Int.toNat_natCast]; omega), Int.toNat_natCast]
    exact H k (by omega)
  | succ d ih =>
    intro k i hd hi hk H
    obtain ⟨k, rfl⟩ : ∃ m, k = m + 1 := ⟨k - 1, by omega⟩
    have hsl := seen_len L i
    have hnext := ih k (i + 1) (by omega) (by omega) (by omega) (fun k' hk' => H k' (by omega))
    simp only [colophonref13_Order.l0]
    rw [if_pos (by omega), if_pos (by omega), wr1 (i := i) (by omega)]
    by_cases hs : rd L (i : Int) ≥ 0
    · rw [if_pos hs, wr1 (by omega)]
      rw [seen_hit hs, List.length_append, List.length_singleton] at hnext
      exact hnext
    · rw [if_neg hs]
      rw [seen_miss hs] at hnext
      exact hnext

def orderPair (L : List Int) : List Int × Int := if L.all fineB = true then (ordered L, 0) else ([], 2)
theorem own_order {L : List Int} (h : L.length < 17592186044416) : order_Order.f L = some (orderPair L) := by
  unfold order_Order.f orderPair
  rw [if_pos h]
  split <;> rfl
theorem ref_order {L : List Int} (hl : L.length ≤ 100) {k : Nat} (hk : 20000 ≤ k) : colophonref13_Order.f k L = some (orderPair L) := by
  unfold colophonref13_Order.f colophonref13_Formed.f orderPair
  have h1 := ref_formed_loop L (by omega) L.length k 0 (by omega) (by omega) (by omega)
  rw [List.drop_zero] at h1
  have h1' : colophonref13_Formed.l0 k L 0 = some (L.all fineB) := h1
  rw [h1']
  simp only [Option.bind_some]
  by_cases hf : L.all fineB = true
  · rw [if_pos hf, if_pos hf]
    refine ref_seen L hl _ L.length k 0 (by omega) (by omega) (by omega) (fun k' hk' => ?_)
    have e : List.replicate (seenAt L L.length).length (0 : Int) = filled (ordered L) 0 := by
      rw [← ordered_len]
      unfold filled
      apply List.ext_getElem
      · simp
      · intro i h1 h2
        have hi : i < (ordered L).length := by simpa using h1
        have := ((ordered_mem L _).1 (List.getElem_mem hi)).1
        simp only [List.getElem_replicate, List.getElem_map]
        rw [if_neg (by omega)]
    rw [e]
    exact ref_fill L hl hf L.length k' 0 (by omega) (by omega) (by omega)
  · rw [if_neg hf, if_neg hf]
end Go.Proofs.Ytccleelhheilnaa.Pure
