/- OrderSteps, over lists alone: with all levels one or two more. -/
import Derived.Test.YtccleelhheilnaaFx10
import Derived.Test.YtccleelhheilnaaW13T
import Derived.Test.YtccleelhheilnaaOrdS
namespace Go.Proofs.Ytccleelhheilnaa.Pure
set_option linter.unusedVariables false
set_option linter.unusedSimpArgs false
open Go.RowKit Go.Proofs.Ytccleelhheilnaa.F Go.Proofs.YtccleelhheilnaaW.PrintWords Go.Proofs.YtccleelhheilnaaW.PrintLast

def okB (x : Int) : Bool := decide (-1 ≤ x ∧ x ≤ 125)
theorem upBy_take (c : Int) (L : List Int) {i : Nat} (h : i < L.length) : upBy c (L.take (i + 1)) = upBy c (L.take i) ++ [if 0 ≤ L[i] then L[i] + c else L[i]] := by
  unfold upBy
  rw [List.take_succ_eq_append_getElem h, List.map_append]
  rfl
/-- the compare of a list and another one turned about -/
theorem steps_cmp (a c : List Int) (hl : a.length ≤ 17592186044416) : ∀ (d k i : Nat), a.length - i = d → i ≤ a.length → d + a.length + 2 < k → c = a →
    colophonlaw13_OrderSteps.l1 k a a.reverse c (a.length : Int) (i : Int) = some true := by
  intro d
  induction d with
  | zero =>
    intro k i hd hi hk hc
    obtain ⟨k, rfl⟩ : ∃ m, k = m + 1 := ⟨k - 1, by omega⟩
    subst hc
    simp only [colophonlaw13_OrderSteps.l1]
    rw [if_neg (by omega), ints_refl _ (by omega) (by omega)]
    rfl
  | succ d ih =>
    intro k i hd hi hk hc
    obtain ⟨k, rfl⟩ : ∃ m, k = m + 1 := ⟨k - 1, by omega⟩
    have hlt : i < a.length := by omega
    have hnext := ih k (i + 1) (by omega) (by omega) (by omega) hc
    have e : wrap64 (wrap64 ((a.reverse.length : Int) - 1) - (i : Int)) = ((a.length - 1 - i : Nat) : Int) := by
      rw [List.length_reverse]
      unfold wrap64
      omega
    have hr1 : rd a (i : Int) = a[i] := rd_at hlt
    have hr2 : rd a.reverse ((a.length - 1 - i : Nat) : Int) = a[i] := by
      rw [rd_at (by rw [List.length_reverse]; omega), List.getElem_reverse]
      congr 1
      omega
    simp only [colophonlaw13_OrderSteps.l1]
    rw [if_pos (by omega), if_pos (by omega), if_pos (by omega), e, if_pos (by omega), if_pos (by rw [List.length_reverse]; omega), hr1, hr2, if_pos rfl, wr1 (by omega)]
    exact hnext
theorem rd_L (L : List Int) {i : Nat} (h : i < L.length) : rd L (i : Int) = L[i] := rd_at h
theorem steps_loop (L : List Int) (hl : L.length < 17592186044416) : ∀ (d k i : Nat), L.length - i = d → i ≤ L.length → 2 * d + 2 * L.length + 10 < k → (L.take i).all okB = true →
    colophonlaw13_OrderSteps.l0 k L (upBy 1 (L.take i)) (upBy 2 (L.take i)) L (L.length : Int) (i : Int) = some true := by
  intro d
  induction d with
  | zero =>
    intro k i hd hi hk hok
    obtain ⟨k, rfl⟩ : ∃ m, k = m + 2 := ⟨k - 2, by omega⟩
    obtain rfl : i = L.length := by omega
    rw [List.take_length] at hok ⊢
    have hall := List.all_eq_true.1 hok
    simp only [okB, decide_eq_true_eq] at hall
    have f0 : L.all fineB = true := List.all_eq_true.2 fun x hx => by
      have := hall x hx
      simp only [fineB, decide_eq_true_eq]
      omega
    have fu : ∀ c : Int, 0 ≤ c → c ≤ 2 → (upBy c L).all fineB = true := fun c h0 h2 => List.all_eq_true.2 fun x hx => by
      obtain ⟨y, hy, rfl⟩ := List.mem_map.1 hx
      have := hall y hy
      simp only [fineB, decide_eq_true_eq]
      split <;> omega
    have o1 : orderPair (upBy 1 L) = ((ordered L).reverse, 0) := by
      unfold orderPair
      rw [if_pos (fu 1 (by decide) (by decide)), ordered_odd 1 rfl f0 (fu 1 (by decide) (by decide)) (upBy_seen (by decide) L) (fun z hz => upBy_val 1 L z hz)]
    have o2 : orderPair (upBy 2 L) = (ordered L, 0) := by
      unfold orderPair
      rw [if_pos (fu 2 (by decide) (by decide)), ordered_even 2 rfl f0 (fu 2 (by decide) (by decide)) (upBy_seen (by decide) L) (fun z hz => upBy_val 2 L z hz)]
    have o0 : orderPair L = (ordered L, 0) := by
      unfold orderPair
      rw [if_pos f0]
    have hlen : (ordered L).length ≤ L.length := by rw [ordered_len]; exact seen_len _ _
    simp only [colophonlaw13_OrderSteps.l0]
    rw [if_neg (by omega), own_order hl, own_order (by rw [upBy_len]; omega), own_order (by rw [upBy_len]; omega), o0, o1, o2]
    simp only [Option.bind_some]
    rw [if_pos trivial, if_pos trivial, if_pos trivial]
    simp only [colophonlaw13_OrderSteps.j2, List.length_reverse]
    rw [if_neg (by simp)]
    exact steps_cmp (ordered L) (ordered L) (by omega) (ordered L).length k 0 (by omega) (by omega) (by omega) rfl
  | succ d ih =>
    intro k i hd hi hk hok
    obtain ⟨k, rfl⟩ : ∃ m, k = m + 2 := ⟨k - 2, by omega⟩
    have hlt : i < L.length := by omega
    have hr := rd_L L hlt
    have l1 : (upBy 1 (L.take i)).length < 17592186044416 := by rw [upBy_len, List.length_take]; omega
    have l2 : (upBy 2 (L.take i)).length < 17592186044416 := by rw [upBy_len, List.length_take]; omega
    have hnext := ih k (i + 1) (by omega) (by omega) (by omega)
    simp only [colophonlaw13_OrderSteps.l0, hr]
    rw [if_pos (by omega), if_pos (by omega), if_pos (by omega)]
    by_cases h1 : L[i] > 125
    · rw [if_pos h1]
      simp only [colophonlaw13_OrderSteps.j1]
      rw [if_pos trivial]
    · rw [if_neg h1]
      simp only [colophonlaw13_OrderSteps.j1]
      by_cases h2 : L[i] < -1
      · rw [if_pos (by simpa using h2)]
      · rw [if_neg (by simpa using h2)]
        have hok2 : (L.take (i + 1)).all okB = true := by
          rw [List.take_succ_eq_append_getElem hlt, List.all_append, hok]
          simp only [List.all_cons, List.all_nil, Bool.and_true, Bool.true_and, okB, decide_eq_true_eq]
          omega
        have hn := hnext hok2
        rw [upBy_take 1 L hlt, upBy_take 2 L hlt] at hn
        by_cases h3 : L[i] ≥ 0
        · rw [if_pos h3, if_pos l1, if_pos l2, wr1 (by omega)]
          rw [if_pos h3, if_pos h3] at hn
          have w1 : wrap64 (L[i] + 1) = L[i] + 1 := by unfold wrap64; omega
          have w2 : wrap64 (L[i] + 2) = L[i] + 2 := by unfold wrap64; omega
          rw [w1, w2]
          exact hn
        · rw [if_neg h3, if_pos l1, if_pos l2, wr1 (by omega)]
          rw [if_neg h3, if_neg h3] at hn
          exact hn
theorem OrderSteps : colophonlaw13_OrderSteps.Pure := by
  intro L _ hy _
  refine ⟨4 * L.length + 100, ?_⟩
  unfold colophonlaw13_OrderSteps.f
  rw [works13 (by omega), Option.bind_some, if_pos rfl]
  exact steps_loop L (by omega) L.length _ 0 (by omega) (by omega) (by omega) rfl
end Go.Proofs.Ytccleelhheilnaa.Pure
