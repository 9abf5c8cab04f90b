/- The document's columns, over lists alone. -/
import Derived.Test.YtccleelhheilnaaFx9c
import Derived.Test.YtccleelhheilnaaFGCols
import Derived.Test.YtccleelhheilnaaRefT
namespace Go.Proofs.Ytccleelhheilnaa.Pure
set_option linter.unusedVariables false
set_option linter.unusedSimpArgs false
open Go.RowKit Go.Proofs.Ytccleelhheilnaa.F Go.Proofs.YtccleelhheilnaaW.PrintWords Go.Proofs.YtccleelhheilnaaW.PrintLast

theorem fit_step {l : List Int} {n : Int} {i : Nat} (hi : i < l.length) (hp : (l.take i).Nodup ∧ ∀ x ∈ l.take i, 0 ≤ x ∧ x < n) (h0 : 0 ≤ l[i]) (h1 : l[i] < n) (hn : l[i] ∉ l.take i) :
    (l.take (i + 1)).Nodup ∧ ∀ x ∈ l.take (i + 1), 0 ≤ x ∧ x < n := by
  rw [List.take_succ_eq_append_getElem hi]
  refine ⟨?_, fun z hz => ?_⟩
  · rw [List.nodup_append]
    exact ⟨hp.1, by simp, fun a ha b hb e => hn (by simp at hb; subst hb; subst e; exact ha)⟩
  · rcases List.mem_append.1 hz with h | h
    · exact hp.2 z h
    · simp at h
      subst h
      exact ⟨h0, h1⟩
theorem fit_no {l : List Int} {n : Int} {i : Nat} (hi : i < l.length) (h : ¬ (0 ≤ l[i] ∧ l[i] < n) ∨ l[i] ∈ l.take i) : fitB l n = false := by
  have e : l = l.take i ++ l[i] :: l.drop (i + 1) := by rw [← List.drop_eq_getElem_cons hi, List.take_append_drop]
  have := fit_bad (pre := l.take i) (post := l.drop (i + 1)) (x := l[i]) (n := n) h
  rw [← e] at this
  exact this
theorem rc_put (l : List Int) (n : Nat) (hl : l.length ≤ 500) (hp : l.Nodup ∧ ∀ x ∈ l, 0 ≤ x ∧ x < (n : Int)) : ∀ (d k i : Nat), l.length - i = d → i ≤ l.length → d < k →
    colophonref13_Columns.l3 k l (colsOf (l.take i) n) (i : Int) = some (colsOf l n, 0) := by
  intro d
  induction d with
  | zero =>
    intro k i hd hi hk
    obtain ⟨k, rfl⟩ : ∃ m, k = m + 1 := ⟨k - 1, by omega⟩
    obtain rfl : i = l.length := by omega
    simp only [colophonref13_Columns.l3]
    rw [if_neg (by omega), List.take_length]
  | succ d ih =>
    intro k i hd hi hk
    obtain ⟨k, rfl⟩ : ∃ m, k = m + 1 := ⟨k - 1, by omega⟩
    have hlt : i < l.length := by omega
    have hnext := ih k (i + 1) (by omega) (by omega) (by omega)
    have hr : rd l (i : Int) = l[i] := rd_at hlt
    have hb := hp.2 l[i] (List.getElem_mem hlt)
    have hn : l[i] ∉ l.take i := by
      intro h
      have e : l = l.take i ++ l[i] :: l.drop (i + 1) := by rw [← List.drop_eq_getElem_cons hlt, List.take_append_drop]
      have h1 := hp.1
      rw [e] at h1
      exact (List.nodup_append.1 h1).2.2 l[i] h l[i] List.mem_cons_self rfl
    have hput := cols_put (l.take i) n hb.1 hb.2 hn
    have h3 : (l.take i).length = i := by rw [List.length_take]; omega
    rw [h3, ← List.take_succ_eq_append_getElem hlt] at hput
    simp only [colophonref13_Columns.l3, hr]
    rw [if_pos (by omega), if_pos (by omega), if_pos hb.1, if_pos (by rw [cols_len]; exact hb.2), hput, wr1 (by omega)]
    exact hnext
theorem rc_fill (l : List Int) (n : Nat) (hn : n ≤ 4096) (hl : l.length ≤ 500) (hp : l.Nodup ∧ ∀ x ∈ l, 0 ≤ x ∧ x < (n : Int)) : ∀ (d k i : Nat), n - i = d → i ≤ n → d + 600 < k →
    colophonref13_Columns.l2 k l (n : Int) (List.replicate i (-1) ++ List.replicate (n - i) 0) (i : Int) = some (colsOf l n, 0) := by
  intro d
  induction d with
  | zero =>
    intro k i hd hi hk
    obtain ⟨k, rfl⟩ : ∃ m, k = m + 1 := ⟨k - 1, by omega⟩
    obtain rfl : i = n := by omega
    simp only [colophonref13_Columns.l2]
    rw [if_neg (by omega), Nat.sub_self, List.replicate_zero, List.append_nil, ← cols_none]
    exact rc_put l i hl hp l.length k 0 (by omega) (by omega) (by omega)
  | succ d ih =>
    intro k i hd hi hk
    obtain ⟨k, rfl⟩ : ∃ m, k = m + 1 := ⟨k - 1, by omega⟩
    have hnext := ih k (i + 1) (by omega) (by omega) (by omega)
    have e : (List.replicate i (-1 : Int) ++ List.replicate (n - i) 0).set i (-1) = List.replicate (i + 1) (-1) ++ List.replicate (n - (i + 1)) 0 := by
      obtain ⟨m, hm⟩ : ∃ m, n - i = m + 1 := ⟨n - i - 1, by omega⟩
      have hm2 : n - (i + 1) = m := by omega
      rw [hm, hm2, List.set_append_right _ _ (by simp), List.length_replicate, Nat.sub_self, List.replicate_succ (n := m), List.set_cons_zero, List.replicate_succ' (n := i), List.append_assoc]
      rfl
    simp only [colophonref13_Columns.l2]
    rw [if_pos (by omega), if_pos (by omega), if_pos (by simp; omega), Int.toNat_natCast, e, wr1 (by omega)]
    exact hnext
theorem rc_in (l : List Int) (n : Nat) (hl : l.length ≤ 500) (i : Nat) (hi : i < l.length) (K : Nat) (r : Option (List Int × Int)) (hr : l[i] ∉ l.take i → ∀ k', K ≤ k' → colophonref13_Columns.l0 k' l (n : Int) ((i + 1 : Nat) : Int) = r)
    (he : l[i] ∈ l.take i → r = some ([], 50)) : ∀ (d k j : Nat), i - j = d → j ≤ i → K + d + 1 ≤ k → (∀ j' (h : j' < j) (h2 : j' < l.length), l[j'] ≠ l[i]) →
    colophonref13_Columns.l1 k l (n : Int) (i : Int) (j : Int) = r := by
  have hr2 : rd l (i : Int) = l[i] := rd_at hi
  intro d
  induction d with
  | zero =>
    intro k j hd hj hk hne
    obtain ⟨k, rfl⟩ : ∃ m, k = m + 1 := ⟨k - 1, by omega⟩
    obtain rfl : j = i := by omega
    have hn : l[j] ∉ l.take j := by
      intro h
      obtain ⟨j', h1, h2⟩ := List.getElem_of_mem h
      rw [List.getElem_take] at h2
      rw [List.length_take] at h1
      exact hne j' (by omega) (by omega) h2
    simp only [colophonref13_Columns.l1]
    rw [if_neg (by omega), wr1 (by omega)]
    exact hr hn k (by omega)
  | succ d ih =>
    intro k j hd hj hk hne
    obtain ⟨k, rfl⟩ : ∃ m, k = m + 1 := ⟨k - 1, by omega⟩
    have hjl : j < l.length := by omega
    have hr1 : rd l (j : Int) = l[j] := rd_at hjl
    simp only [colophonref13_Columns.l1, hr1, hr2]
    rw [if_pos (by omega), if_pos (by omega), if_pos (by omega), if_pos (by omega), if_pos (by omega)]
    by_cases h : l[j] = l[i]
    · rw [if_pos h]
      refine (he ?_).symm
      rw [← h]
      exact List.mem_take_iff_getElem.2 ⟨j, by omega, rfl⟩
    · rw [if_neg h, wr1 (by omega)]
      refine ih k (j + 1) (by omega) (by omega) (by omega) fun j' h1 h2 => ?_
      by_cases e : j' = j
      · subst e; exact h
      · exact hne j' (by omega) h2
theorem rc_loop (l : List Int) (n : Nat) (hn : n ≤ 4096) (hl : l.length ≤ 500) : ∀ (d k i : Nat), l.length - i = d → i ≤ l.length → 510 * d + 6000 < k → ((l.take i).Nodup ∧ ∀ x ∈ l.take i, 0 ≤ x ∧ x < (n : Int)) →
    colophonref13_Columns.l0 k l (n : Int) (i : Int) = some (if fitB l (n : Int) = true then (colsOf l n, 0) else ([], 50)) := by
  intro d
  induction d with
  | zero =>
    intro k i hd hi hk hp
    obtain ⟨k, rfl⟩ : ∃ m, k = m + 1 := ⟨k - 1, by omega⟩
    obtain rfl : i = l.length := by omega
    rw [List.take_length] at hp
    have hf : fitB l (n : Int) = true := by unfold fitB; exact decide_eq_true hp
    simp only [colophonref13_Columns.l0]
    rw [if_neg (by omega), if_pos (by omega), if_pos (by omega), if_pos hf, Int.toNat_natCast]
    have := rc_fill l n hn hl hp n k 0 (by omega) (by omega) (by omega)
    simpa using this
  | succ d ih =>
    intro k i hd hi hk hp
    obtain ⟨k, rfl⟩ : ∃ m, k = m + 2 := ⟨k - 2, by omega⟩
    have hlt : i < l.length := by omega
    have hr : rd l (i : Int) = l[i] := rd_at hlt
    have bad : (¬ (0 ≤ l[i] ∧ l[i] < (n : Int)) ∨ l[i] ∈ l.take i) → (some (if fitB l (n : Int) = true then (colsOf l n, 0) else ([], 50)) : Option (List Int × Int)) = some ([], 50) := fun h => by
      rw [fit_no hlt h]
      rfl
    simp only [colophonref13_Columns.l0, hr]
    rw [if_pos (by omega), if_pos (by omega)]
    by_cases h0 : l[i] < 0
    · rw [if_pos h0, bad (.inl (by omega))]
      simp only [colophonref13_Columns.j2]
      rw [if_pos trivial]
    · rw [if_neg h0]
      by_cases h1 : l[i] ≥ (n : Int)
      · simp only [colophonref13_Columns.j2]
        rw [if_pos (decide_eq_true h1), bad (.inl (by omega))]
      · simp only [colophonref13_Columns.j2]
        rw [if_neg (by simpa using h1)]
        refine rc_in l n hl i hlt (510 * d + 6001) _ (fun hni k' hk' => ?_) (fun hin => bad (.inr hin)) i k 0 (by omega) (by omega) (by omega) (fun j' h => absurd h (Nat.not_lt_zero _))
        exact ih k' (i + 1) (by omega) (by omega) (by omega) (fit_step hlt hp (by omega) (by omega) hni)
end Go.Proofs.Ytccleelhheilnaa.Pure
