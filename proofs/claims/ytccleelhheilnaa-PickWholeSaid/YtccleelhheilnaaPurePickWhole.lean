/- PickWhole, over lists alone. -/
import Derived.Test.YtccleelhheilnaaFx32
import Derived.Test.YtccleelhheilnaaW16T
namespace Go.Proofs.Ytccleelhheilnaa.Pure
set_option linter.unusedVariables false
set_option linter.unusedSimpArgs false
open Go.RowKit Go.Proofs.Ytccleelhheilnaa.F Go.Proofs.YtccleelhheilnaaW.PrintWords Go.Proofs.YtccleelhheilnaaW.PrintLast

theorem mono_up (k : Int) : ∀ {P : List Int}, P.Pairwise (· < ·) → ∃ p, p ≤ P.length ∧ ∀ n (h : n < P.length), P[n] < k ↔ n < p
  | [], _ => ⟨0, Nat.le_refl _, fun n h => absurd h (Nat.not_lt_zero _)⟩
  | x :: P, hp => by
    obtain ⟨h1, h2⟩ := List.pairwise_cons.1 hp
    obtain ⟨p, hp1, hp2⟩ := mono_up k h2
    by_cases hx : x < k
    · refine ⟨p + 1, by simpa using hp1, fun n h => ?_⟩
      cases n with
      | zero => simp [hx]
      | succ n =>
        have := hp2 n (by simpa using h)
        simpa using this
    · refine ⟨0, Nat.zero_le _, fun n h => ?_⟩
      cases n with
      | zero => simpa using hx
      | succ n =>
        have h3 : n < P.length := by simpa using h
        have := h1 P[n] (List.getElem_mem h3)
        simp
        omega
theorem mono_dn (k : Int) : ∀ {P : List Int}, P.Pairwise (fun a b => b < a) → ∃ p, p ≤ P.length ∧ ∀ n (h : n < P.length), P[n] < k ↔ p ≤ n
  | [], _ => ⟨0, Nat.le_refl _, fun n h => absurd h (Nat.not_lt_zero _)⟩
  | x :: P, hp => by
    obtain ⟨h1, h2⟩ := List.pairwise_cons.1 hp
    obtain ⟨p, hp1, hp2⟩ := mono_dn k h2
    by_cases hx : x < k
    · refine ⟨0, Nat.zero_le _, fun n h => ?_⟩
      cases n with
      | zero => simp [hx]
      | succ n =>
        have h3 : n < P.length := by simpa using h
        have := h1 P[n] (List.getElem_mem h3)
        simp
        omega
    · refine ⟨p + 1, by simpa using hp1, fun n h => ?_⟩
      cases n with
      | zero => simpa using hx
      | succ n =>
        have := hp2 n (by simpa using h)
        simpa using this
/-- all that is seen so far is of one level; the last level seen -/
def stF (L : List Int) : Nat → Bool × Int
  | 0 => (true, -1)
  | n + 1 => if rd L (n : Int) ≥ 0 then ((stF L n).1 && (decide ((stF L n).2 < 0) || rd L (n : Int) == (stF L n).2), rd L (n : Int)) else stF L n
theorem stF_flat (L : List Int) : ∀ n, (stF L n).1 = true → ∀ j : Nat, j < n → 0 ≤ rd L (j : Int) → rd L (j : Int) = (stF L n).2 ∧ 0 ≤ (stF L n).2
  | 0, _, j, h, _ => absurd h (Nat.not_lt_zero _)
  | n + 1, hf, j, hj, h0 => by
    by_cases h : rd L (n : Int) ≥ 0
    · have e : stF L (n + 1) = ((stF L n).1 && (decide ((stF L n).2 < 0) || rd L (n : Int) == (stF L n).2), rd L (n : Int)) := by rw [stF, if_pos h]
      rw [e] at hf ⊢
      simp only [Bool.and_eq_true, Bool.or_eq_true, decide_eq_true_eq, beq_iff_eq] at hf
      by_cases ej : j = n
      · subst ej
        exact ⟨rfl, h⟩
      · obtain ⟨h1, h2⟩ := stF_flat L n hf.1 j (by omega) h0
        rcases hf.2 with h3 | h3
        · omega
        · exact ⟨by rw [h1, ← h3], h⟩
    · have e : stF L (n + 1) = stF L n := by rw [stF, if_neg h]
      rw [e] at hf ⊢
      by_cases ej : j = n
      · subst ej
        omega
      · exact stF_flat L n hf j (by omega) h0
theorem flat_one {L : List Int} (hf : L.all fineB = true) (h : (stF L L.length).1 = true) (k : Nat) (hk : k ≤ L.length) : (strs (ordered L) 0 (k : Int)).length ≤ 1 := by
  have hv : ∀ x, isSeen L x → rd L x = (stF L L.length).2 := fun x hx => by
    obtain ⟨h0, h1, h2⟩ := hx
    obtain ⟨j, rfl⟩ : ∃ j : Nat, x = (j : Int) := ⟨x.toNat, by omega⟩
    exact (stF_flat L _ h j (by omega) h2).1
  have hmm : ∀ x y, isSeen L x → isSeen L y → mm L x y = (stF L L.length).2 := fun x y hx hy => by
    obtain ⟨z, hz, -, he⟩ := mm_mem hx hy
    rw [he, hv z hz]
  have hmark : ∀ n (hn : n < (ordered L).length), mk (ordered L) 0 (k : Int) n ↔ (ordered L)[n] < (k : Int) := fun n hn => by
    have hs := (ordered_mem L (ordered L)[n]).1 (List.getElem_mem hn)
    have e : (ordered L).getD n 0 = (ordered L)[n] := by simp only [List.getD_eq_getElem?_getD, List.getElem?_eq_getElem hn, Option.getD_some]
    unfold mk inB
    rw [e]
    constructor
    · rintro ⟨-, h2⟩
      exact (of_decide_eq_true h2).2
    · intro h2
      exact ⟨hn, decide_eq_true ⟨hs.1, h2⟩⟩
  have hp := ordered_pairs hf
  by_cases hodd : (stF L L.length).2 % 2 = 1
  · have hd : (ordered L).Pairwise (fun a b => b < a) := List.Pairwise.imp_of_mem (fun {a b} ha hb hab => by
      unfold Lf at hab
      rw [hmm a b ((ordered_mem L a).1 ha) ((ordered_mem L b).1 hb), if_pos hodd] at hab
      exact hab) hp
    obtain ⟨p, hp1, hp2⟩ := mono_dn (k : Int) hd
    rw [strs_suffix (ordered L) 0 (k : Int) p hp1 fun n hn => (hmark n hn).trans (hp2 n hn)]
    split <;> simp
  · have hd : (ordered L).Pairwise (· < ·) := List.Pairwise.imp_of_mem (fun {a b} ha hb hab => by
      unfold Lf at hab
      rw [hmm a b ((ordered_mem L a).1 ha) ((ordered_mem L b).1 hb), if_neg hodd] at hab
      exact hab) hp
    obtain ⟨p, hp1, hp2⟩ := mono_up (k : Int) hd
    rw [strs_prefix (ordered L) 0 (k : Int) p hp1 fun n hn => (hmark n hn).trans (hp2 n hn)]
    split <;> simp
theorem strs_all (L : List Int) : strs (ordered L) 0 (L.length : Int) = if 0 < (ordered L).length then [⟨0, ((ordered L).length : Int)⟩] else [] := by
  refine strs_prefix (ordered L) 0 (L.length : Int) (ordered L).length (Nat.le_refl _) fun n hn => ⟨fun _ => hn, fun _ => ⟨hn, ?_⟩⟩
  have hs := (ordered_mem L (ordered L)[n]).1 (List.getElem_mem hn)
  have e : (ordered L).getD n 0 = (ordered L)[n] := by simp only [List.getD_eq_getElem?_getD, List.getElem?_eq_getElem hn, Option.getD_some]
  rw [e]
  unfold inB
  exact decide_eq_true ⟨hs.1, hs.2.1⟩
theorem strs_empty (P : List Int) (k : Int) : strs P k k = [] := strs_none P k k fun n h => by
  have := h.2
  unfold inB at this
  have := of_decide_eq_true this
  omega
theorem whole_loop (L : List Int) (hl : L.length ≤ 17592186043904) (hf : L.all fineB = true) (kk : Nat) (hkk : kk ≤ L.length) : ∀ (d k i : Nat), L.length - i = d → i ≤ L.length → d < k →
    colophonlaw16_PickWhole.l0 k L (strs (ordered L) 0 (L.length : Int)) (kk : Int) [] 0 ((seenAt L i).length : Int) (stF L i).1 (stF L i).2 L (L.length : Int) (i : Int) = some true := by
  intro d
  induction d with
  | zero =>
    intro k i hd hi hk
    obtain ⟨k, rfl⟩ : ∃ m, k = m + 1 := ⟨k - 1, by omega⟩
    obtain rfl : i = L.length := by omega
    have hpart : pick_Runs.f L 0 (kk : Int) = some (strs (ordered L) 0 (kk : Int), 0) := by
      unfold pick_Runs.f
      rw [if_pos hl, if_pos hf, if_neg (by omega)]
    have hpl : (seenAt L L.length).length = (ordered L).length := (ordered_len L).symm
    have hend : ((pick_Runs.f L 0 (kk : Int)).bind fun bt => (if bt.2 = 0 then (if (stF L L.length).1 = true then (some (decide ((bt.1.length : Int) ≤ 1))) else (some true)) else (some false))) = some true := by
      rw [hpart, Option.bind_some, if_pos rfl]
      by_cases hfl : (stF L L.length).1 = true
      · have := flat_one hf hfl kk hkk
        rw [if_pos hfl, decide_eq_true]
        show ((strs (ordered L) 0 (kk : Int)).length : Int) ≤ 1
        omega
      · rw [if_neg hfl]
    simp only [colophonlaw16_PickWhole.l0]
    rw [if_neg (by omega), if_pos trivial, if_pos (show (([] : List S45).length : Int) = 0 from rfl), hpl, strs_all]
    by_cases h0 : 0 < (ordered L).length
    · rw [if_pos h0, if_neg (by omega), if_pos (by omega)]
      rw [if_pos (by simp), if_pos (by simp)]
      have e : rd_T45 [(⟨0, ((ordered L).length : Int)⟩ : S45)] 0 = ⟨0, ((ordered L).length : Int)⟩ := rfl
      rw [e, if_neg (by simp)]
      exact hend
    · rw [if_neg h0, if_pos (by omega), if_pos (by simp), if_neg (by omega)]
      exact hend
  | succ d ih =>
    intro k i hd hi hk
    obtain ⟨k, rfl⟩ : ∃ m, k = m + 1 := ⟨k - 1, by omega⟩
    have hnext := ih k (i + 1) (by omega) (by omega) (by omega)
    have hsl := seen_len L i
    have hlt : (i : Int) < (L.length : Int) := by omega
    simp only [colophonlaw16_PickWhole.l0]
    rw [if_pos hlt, if_pos (by omega), if_pos hlt]
    by_cases h0 : rd L (i : Int) ≥ 0
    · have e1 : stF L (i + 1) = ((stF L i).1 && (decide ((stF L i).2 < 0) || rd L (i : Int) == (stF L i).2), rd L (i : Int)) := by rw [stF, if_pos h0]
      rw [e1, seen_hit (by omega), List.length_append, List.length_singleton] at hnext
      have e2 : wrap64 (((seenAt L i).length : Int) + 1) = (((seenAt L i).length + 1 : Nat) : Int) := wr1 (by omega)
      have e3 : wrap64 ((i : Int) + 1) = ((i + 1 : Nat) : Int) := wr1 (by omega)
      rw [if_pos h0, e2, e3]
      by_cases hfl : (stF L i).1 = true
      · rw [if_pos hfl]
        rw [hfl, Bool.true_and] at hnext
        by_cases hn : (stF L i).2 < 0
        · rw [if_pos hn]
          rw [decide_eq_true hn, Bool.true_or] at hnext
          exact hnext
        · rw [if_neg hn]
          rw [decide_eq_false hn, Bool.false_or] at hnext
          exact hnext
      · rw [if_neg hfl]
        have hfl2 : (stF L i).1 = false := by simpa using hfl
        rw [hfl2, Bool.false_and] at hnext
        exact hnext
    · have e1 : stF L (i + 1) = stF L i := by rw [stF, if_neg h0]
      rw [e1, seen_miss (by omega)] at hnext
      rw [if_neg h0, wr1 (by omega)]
      exact hnext
theorem whole_mod (x : Int) (n : Nat) (hn : n ≤ 17592186043904) : IntKind.u64.wrap (wrap64 ((n : Int) + 1)) = ((n + 1 : Nat) : Int) ∧ ∃ r : Nat, wrap64 (Int.tmod (IntKind.u64.wrap x) (IntKind.u64.wrap (wrap64 ((n : Int) + 1)))) = (r : Int) ∧ r ≤ n := by
  have e1 : wrap64 ((n : Int) + 1) = ((n + 1 : Nat) : Int) := wr1 (by omega)
  have e2 : IntKind.u64.wrap ((n + 1 : Nat) : Int) = ((n + 1 : Nat) : Int) := by
    unfold IntKind.wrap
    exact Int.emod_eq_of_lt (by omega) (by show ((n + 1 : Nat) : Int) < 2 ^ 64; omega)
  have h1 : 0 ≤ IntKind.u64.wrap x := by unfold IntKind.wrap; exact Int.emod_nonneg _ (by decide)
  obtain ⟨y, hy⟩ := Int.eq_ofNat_of_zero_le h1
  rw [e1, e2, hy]
  refine ⟨rfl, y % (n + 1), ?_, Nat.lt_succ_iff.1 (Nat.mod_lt y (Nat.succ_pos n))⟩
  have e : Int.tmod (y : Int) ((n + 1 : Nat) : Int) = ((y % (n + 1) : Nat) : Int) := by rw [Int.tmod_eq_emod_of_nonneg (by omega)]; rfl
  rw [e]
  have h3 : y % (n + 1) < n + 1 := Nat.mod_lt y (Nat.succ_pos n)
  clear e e1 e2 hy h1
  generalize y % (n + 1) = z at h3 ⊢
  unfold wrap64
  omega
theorem PickWhole : colophonlaw16_PickWhole.Pure := by
  intro L a1 _ hy _ _
  refine ⟨L.length + 1000, ?_⟩
  unfold colophonlaw16_PickWhole.f
  rw [works16 (by omega), Option.bind_some, if_pos rfl, own_pruns (by omega), Option.bind_some]
  obtain ⟨m1, kk, m2, m3⟩ := whole_mod a1 L.length (by omega)
  by_cases hf : L.all fineB = true
  · have e1 : runsPair L 0 (L.length : Int) = (strs (ordered L) 0 (L.length : Int), 0) := by
      unfold runsPair
      rw [if_pos hf, if_neg (by omega)]
    have e2 : runsPair L (kk : Int) (kk : Int) = ([], 0) := by
      unfold runsPair
      rw [if_pos hf, if_neg (by omega), strs_empty]
    rw [e1, if_pos rfl, m2, m1, if_neg (by omega), own_pruns (by omega), e2, Option.bind_some]
    exact whole_loop L (by omega) hf kk m3 L.length _ 0 (by omega) (by omega) (by omega)
  · have e1 : runsPair L 0 (L.length : Int) = ([], 2) := by
      unfold runsPair
      rw [if_neg hf]
    rw [e1, if_neg (by decide)]
    rfl
end Go.Proofs.Ytccleelhheilnaa.Pure
