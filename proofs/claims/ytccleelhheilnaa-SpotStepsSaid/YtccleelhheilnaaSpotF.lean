/- spot.Flip, over lists alone: each spot is turned about; the search in a mirror. -/
import Derived.Test.YtccleelhheilnaaW15T
namespace Go.Proofs.Ytccleelhheilnaa.Pure
set_option linter.unusedVariables false
set_option linter.unusedSimpArgs false
set_option linter.unusedSectionVars false
open Go.RowKit Go.Proofs.Ytccleelhheilnaa.F Go.Proofs.Ytccleelhheilnaa.S Go.Proofs.Ytccleelhheilnaa.Flo Go.Proofs.YtccleelhheilnaaW.PrintWords Go.Proofs.YtccleelhheilnaaW.PrintLast

/-- a spot in a mirror -/
def flipZ (m : Int) (z : Cx) : Cx := ⟨m - 1 - z.re, -z.im⟩
def flipL (m : Int) (l : List Cx) : List Cx := l.map (flipZ m)
def imB (z : Cx) : Bool := z.im != 0
/-- how many are stops -/
def stops (l : List Cx) : Nat := l.countP imB
/-- spots of small parts -/
def Small (l : List Cx) : Prop := l.length ≤ 17592186044416 ∧ ∀ z ∈ l, (-40000000000000 ≤ z.re ∧ z.re ≤ 40000000000000) ∧ (-1 ≤ z.im ∧ z.im ≤ 1)
theorem small_at {l : List Cx} (h : Small l) {i : Nat} (hi : i < l.length) : (-40000000000000 ≤ (rdOf zc l (i : Int)).re ∧ (rdOf zc l (i : Int)).re ≤ 40000000000000) ∧ (-1 ≤ (rdOf zc l (i : Int)).im ∧ (rdOf zc l (i : Int)).im ≤ 1) := by
  rw [rdOf_at hi]
  exact h.2 _ (List.getElem_mem hi)
theorem stops_take {l : List Cx} {i : Nat} (hi : i < l.length) : stops (l.take (i + 1)) = stops (l.take i) + if (rdOf zc l (i : Int)).im = 0 then 0 else 1 := by
  unfold stops
  rw [List.take_succ_eq_append_getElem hi, List.countP_append, rdOf_at hi, List.countP_singleton]
  by_cases h : (l[i]).im = 0
  · have e : imB l[i] = false := by simp [imB, h]
    rw [if_pos h, e]
    rfl
  · have e : imB l[i] = true := by simp [imB, h]
    rw [if_neg h, if_pos e]
def flipS (m : Int) (l : List Cx) (i : Nat) : List Cx := (List.range l.length).map fun (j : Nat) => if j < i then flipZ m (rdOf zc l (j : Int)) else zc
theorem flipS_len (m : Int) (l : List Cx) (i : Nat) : (flipS m l i).length = l.length := by simp [flipS]
theorem flipS_end (m : Int) (l : List Cx) : flipS m l l.length = flipL m l := by
  apply List.ext_getElem
  · simp [flipS, flipL]
  · intro j h1 h2
    have hj : j < l.length := by simpa [flipS] using h1
    simp only [flipS, flipL, List.getElem_map, List.getElem_range]
    rw [if_pos hj, rdOf_at hj]
theorem flipS_zero (m : Int) (l : List Cx) : List.replicate l.length zc = flipS m l 0 := by
  apply List.ext_getElem
  · simp [flipS]
  · intro j h1 h2
    simp [flipS]
theorem flipS_set (m : Int) (l : List Cx) {i : Nat} (hi : i < l.length) : (flipS m l i).set i (flipZ m (rdOf zc l (i : Int))) = flipS m l (i + 1) := by
  apply List.ext_getElem
  · simp [flipS]
  · intro j h1 h2
    rw [List.getElem_set]
    simp only [flipS, List.getElem_map, List.getElem_range]
    by_cases e : i = j
    · rw [if_pos e, if_pos (by omega), e]
    · rw [if_neg e]
      by_cases h3 : j < i
      · rw [if_pos h3, if_pos (by omega)]
      · rw [if_neg h3, if_neg (by omega)]
theorem flip_turn {l : List Cx} (h : Small l) {m : Nat} (hm : m ≤ l.length) : ∀ (d k i : Nat), l.length - i = d → i ≤ l.length → d < k →
    spot_Flip.l1 k (m : Int) (flipS (m : Int) l i) l (l.length : Int) (i : Int) = some (flipL (m : Int) l) := by
  have hl := h.1
  intro d
  induction d with
  | zero =>
    intro k i hd hi hk
    obtain ⟨k, rfl⟩ : ∃ m, k = m + 1 := ⟨k - 1, by omega⟩
    obtain rfl : i = l.length := by omega
    simp only [spot_Flip.l1]
    rw [if_neg (by omega), flipS_end]
  | succ d ih =>
    intro k i hd hi hk
    obtain ⟨k, rfl⟩ : ∃ m, k = m + 1 := ⟨k - 1, by omega⟩
    have hlt : i < l.length := by omega
    have hnext := ih k (i + 1) (by omega) (by omega) (by omega)
    have hs := small_at h hlt
    have hfl := flipS_len (m : Int) l i
    have s1 : smA (m : Int) 1 = true := by rw [smA_iff]; omega
    have s2 : smA ((m : Int) - 1) (rdOf zc l (i : Int)).re = true := by rw [smA_iff]; omega
    have s3 : smA 0 (rdOf zc l (i : Int)).im = true := by rw [smA_iff]; omega
    have s4 : smA (rdOf zc l (i : Int)).im 0 = true := by rw [smA_iff]; omega
    have hset := flipS_set (m : Int) l hlt
    have hz : flipZ (m : Int) (rdOf zc l (i : Int)) = ⟨(m : Int) - 1 - (rdOf zc l (i : Int)).re, -(rdOf zc l (i : Int)).im⟩ := rfl
    simp only [spot_Flip.l1]
    rw [if_pos (by omega), if_pos (by omega), if_pos (by omega), if_pos s1, if_pos s2, if_pos s3, if_pos (by omega), Option.bind_some, if_pos s4, Int.toNat_natCast, ← hz, hset, wr1 (by omega)]
    by_cases h0 : (rdOf zc l (i : Int)).im = 0
    · have e : (flipS (m : Int) l (i + 1)).set i ⟨(rdOf zc (flipS (m : Int) l (i + 1)) (i : Int)).re, 0⟩ = flipS (m : Int) l (i + 1) := by
        have hi2 : i < (flipS (m : Int) l (i + 1)).length := by rw [flipS_len]; exact hlt
        have e1 : (flipS (m : Int) l (i + 1))[i] = flipZ (m : Int) (rdOf zc l (i : Int)) := by
          simp only [flipS, List.getElem_map, List.getElem_range]
          rw [if_pos (Nat.lt_succ_self i)]
        have e2 : (⟨(rdOf zc (flipS (m : Int) l (i + 1)) (i : Int)).re, 0⟩ : Cx) = (flipS (m : Int) l (i + 1))[i] := by
          rw [rdOf_at hi2, e1]
          unfold flipZ
          rw [h0]
          rfl
        rw [e2, List.set_getElem_self]
      rw [if_pos h0, e]
      exact hnext
    · rw [if_neg h0]
      exact hnext
theorem flip_count {l : List Cx} (h : Small l) : ∀ (d k i : Nat), l.length - i = d → i ≤ l.length → d + l.length + 2 < k →
    spot_Flip.l0 k l (stops (l.take i) : Int) l (l.length : Int) (i : Int) = some (flipL (stops l : Int) l) := by
  have hl := h.1
  intro d
  induction d with
  | zero =>
    intro k i hd hi hk
    obtain ⟨k, rfl⟩ : ∃ m, k = m + 1 := ⟨k - 1, by omega⟩
    obtain rfl : i = l.length := by omega
    have hm : stops l ≤ l.length := List.countP_le_length
    simp only [spot_Flip.l0]
    rw [if_neg (by omega), if_pos (by omega), if_pos (by omega), Int.toNat_natCast, List.take_length, flipS_zero (stops l : Int) l]
    exact flip_turn h hm l.length k 0 (by omega) (by omega) (by omega)
  | succ d ih =>
    intro k i hd hi hk
    obtain ⟨k, rfl⟩ : ∃ m, k = m + 1 := ⟨k - 1, by omega⟩
    have hlt : i < l.length := by omega
    have hnext := ih k (i + 1) (by omega) (by omega) (by omega)
    have hs := small_at h hlt
    have hst := stops_take hlt
    have hc : stops (l.take i) ≤ l.length := Nat.le_trans List.countP_le_length (by simp; omega)
    have s1 : smA (rdOf zc l (i : Int)).im 0 = true := by rw [smA_iff]; omega
    have s2 : smA (stops (l.take i) : Int) 1 = true := by rw [smA_iff]; omega
    simp only [spot_Flip.l0]
    rw [if_pos (by omega), if_pos (by omega), if_pos (by omega), if_pos s1, wr1 (by omega)]
    by_cases h0 : (rdOf zc l (i : Int)).im = 0
    · rw [if_pos h0] at hst
      rw [if_pos h0]
      rw [hst] at hnext
      exact hnext
    · rw [if_neg h0] at hst
      rw [if_neg h0, if_pos s2]
      rw [hst] at hnext
      exact hnext
theorem own_flip {l : List Cx} (h : Small l) {k : Nat} (hk : 2 * l.length + 2 < k) : spot_Flip.f k l = some (flipL (stops l : Int) l) := by
  unfold spot_Flip.f
  have := flip_count h l.length k 0 (by omega) (by omega) (by omega)
  simpa [stops] using this
theorem flip_len (m : Int) (l : List Cx) : (flipL m l).length = l.length := by simp [flipL]
theorem flip_stops (m : Int) (l : List Cx) : stops (flipL m l) = stops l := by
  unfold stops flipL
  rw [List.countP_map]
  congr 1
  funext z
  rw [Bool.eq_iff_iff]
  simp [imB, flipZ]
theorem flip_flip (m : Int) (l : List Cx) : flipL m (flipL m l) = l := by
  unfold flipL
  rw [List.map_map]
  have : (flipZ m ∘ flipZ m) = id := by
    funext z
    cases z with
    | mk a b =>
      simp only [flipZ, Function.comp, id]
      have e1 : m - 1 - (m - 1 - a) = a := by omega
      have e2 : - -b = b := by omega
      rw [e1, e2]
  rw [this, List.map_id]
theorem flip_at {m : Int} {l : List Cx} {i : Nat} (hi : i < l.length) : rdOf zc (flipL m l) (i : Int) = flipZ m (rdOf zc l (i : Int)) := by
  have h2 : i < (flipL m l).length := by rw [flip_len]; exact hi
  rw [rdOf_at h2, rdOf_at hi]
  simp [flipL]
theorem first_flip (m c : Int) : ∀ (l : List Cx) (i : Int), firstAt c (flipL m l) i = firstAt (m - 1 - c) l i
  | [], _ => rfl
  | z :: l, i => by
    have e : stopAt c (flipZ m z) = stopAt (m - 1 - c) z := by
      unfold stopAt flipZ
      simp only
      rw [Bool.eq_iff_iff]
      simp only [Bool.and_eq_true, bne_iff_ne, beq_iff_eq]
      omega
    have h := first_flip m c l (i + 1)
    unfold flipL at h ⊢
    rw [List.map_cons]
    unfold firstAt
    rw [e, h]
theorem small_flip {l : List Cx} {m : Int} (hl : l.length ≤ 17592186044416) (hm : 0 ≤ m ∧ m ≤ 17592186044416) (h : ∀ z ∈ l, (0 ≤ z.re ∧ z.re ≤ 17592186044416) ∧ (-1 ≤ z.im ∧ z.im ≤ 1)) : Small l ∧ Small (flipL m l) := by
  refine ⟨⟨hl, fun z hz => by have := h z hz; omega⟩, by rw [flip_len]; exact hl, fun z hz => ?_⟩
  obtain ⟨y, hy, rfl⟩ := List.mem_map.1 hz
  have := h y hy
  unfold flipZ
  simp only
  omega
theorem small_ok {l : List Cx} (h : Small l) {c : Int} (hc : -4503599627370496 < c ∧ c < 4503599627370496) : l.all (okAt c) = true := by
  rw [List.all_eq_true]
  intro z hz
  have := h.2 z hz
  unfold okAt
  rw [Bool.and_eq_true, smA_iff, smA_iff]
  omega
theorem small_find {l : List Cx} (h : Small l) {c : Int} (hc : -4503599627370496 < c ∧ c < 4503599627370496) : spot_at.f l c = some (firstAt c l 0) := by
  have := h.1
  unfold spot_at.f
  rw [if_pos (by omega), if_pos (small_ok h hc)]
theorem small_step {l : List Cx} (h : Small l) {i : Nat} (hi : i < l.length) {s : Int} (hs : s = 1 ∨ s = -1) : spot_Step.f l (i : Int) s = some (firstAt ((rdOf zc l (i : Int)).re + s) l 0) := by
  have hb := small_at h hi
  have h1 : smA (rdOf zc l (i : Int)).re s = true := by rw [smA_iff]; omega
  have h2 : smA (rdOf zc l (i : Int)).im 0 = true := by rw [smA_iff]; omega
  unfold spot_Step.f
  rw [if_neg (by omega), if_neg (by omega), small_find h (by omega)]
  rcases hs with e | e
  · rw [if_pos e, if_pos (by omega), if_pos (by omega), if_pos h1, if_pos h2]
    rfl
  · rw [if_neg (by omega), if_pos e, if_pos (by omega), if_pos (by omega), if_pos h1, if_pos h2]
    rfl
end Go.Proofs.Ytccleelhheilnaa.Pure
