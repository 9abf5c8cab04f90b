/- PickPlaces, over lists alone: the document's places are the program's. -/
import Derived.Test.YtccleelhheilnaaFx30
import Derived.Test.YtccleelhheilnaaW16T
namespace Go.Proofs.Ytccleelhheilnaa.Pure
set_option linter.unusedVariables false
set_option linter.unusedSimpArgs false
open Go.RowKit Go.Proofs.Ytccleelhheilnaa.F Go.Proofs.YtccleelhheilnaaW.PrintWords Go.Proofs.YtccleelhheilnaaW.PrintLast

theorem rd_Sp {l : List S45} {i : Nat} (h : i < l.length) : rd_T45 l (i : Int) = l[i] := by
  simp only [rd_T45, Int.toNat_natCast, List.getD_eq_getElem?_getD, List.getElem?_eq_getElem h, Option.getD_some]
def inR (r : List S45) (k : Int) : Bool := r.any fun x => decide (x.f0 ≤ k ∧ k < x.f1)
theorem ref_in (r : List S45) (c : Int) (hr : r.length ≤ 1000) : ∀ (d k i : Nat), r.length - i = d → i ≤ r.length → d < k → colophonref16_in.l0 k r c (i : Int) = some (inR (r.drop i) c) := by
  intro d
  induction d with
  | zero =>
    intro k i hd hi hk
    obtain ⟨k, rfl⟩ : ∃ m, k = m + 1 := ⟨k - 1, by omega⟩
    simp only [colophonref16_in.l0]
    rw [if_neg (by omega), List.drop_eq_nil_of_le (by omega)]
    rfl
  | succ d ih =>
    intro k i hd hi hk
    obtain ⟨k, rfl⟩ : ∃ m, k = m + 1 := ⟨k - 1, by omega⟩
    have hlt : i < r.length := by omega
    have hnext := ih k (i + 1) (by omega) (by omega) (by omega)
    have e : inR (r.drop i) c = (decide (r[i].f0 ≤ c ∧ c < r[i].f1) || inR (r.drop (i + 1)) c) := by
      rw [List.drop_eq_getElem_cons hlt]
      rfl
    simp only [colophonref16_in.l0, rd_Sp hlt]
    rw [if_pos (by omega), if_pos (by omega), wr1 (by omega), e]
    by_cases h1 : c ≥ r[i].f0
    · rw [if_pos h1]
      by_cases h2 : c < r[i].f1
      · rw [if_pos h2, decide_eq_true ⟨h1, h2⟩]
        rfl
      · rw [if_neg h2, decide_eq_false (fun h => h2 h.2), Bool.false_or]
        exact hnext
    · rw [if_neg h1, decide_eq_false (fun h => h1 h.1), Bool.false_or]
      exact hnext
theorem ref_in_is (r : List S45) (c : Int) (hr : r.length ≤ 1000) {k : Nat} (hk : 1000 < k) : colophonref16_in.f k r c = some (inR r c) := by
  have := ref_in r c hr r.length k 0 (by omega) (Nat.zero_le _) (by omega)
  unfold colophonref16_in.f
  simpa using this
/-- does the place i stand in a column ahead of column c that lies in a run? -/
def hit (P : List Int) (r : List S45) (i : Int) : Nat → Bool
  | 0 => false
  | c + 1 => hit P r i c || (decide (c < P.length) && (lev P c == i && inR r (c : Int)))
theorem hit_iff (P : List Int) (r : List S45) (i : Int) : ∀ c, hit P r i c = true ↔ ∃ k : Nat, k < c ∧ k < P.length ∧ lev P k = i ∧ inR r (k : Int) = true
  | 0 => ⟨fun h => (by cases h), fun h => (by obtain ⟨k, h1, _⟩ := h; exact absurd h1 (Nat.not_lt_zero _))⟩
  | c + 1 => by
    have ih := hit_iff P r i c
    simp only [hit, Bool.or_eq_true, Bool.and_eq_true, decide_eq_true_eq, beq_iff_eq]
    rw [ih]
    constructor
    · rintro (⟨k, h1, h2⟩ | ⟨h1, h2, h3⟩)
      · exact ⟨k, by omega, h2⟩
      · exact ⟨c, by omega, h1, h2, h3⟩
    · rintro ⟨k, h1, h2, h3, h4⟩
      by_cases e : k = c
      · subst e
        exact .inr ⟨h2, h3, h4⟩
      · exact .inl ⟨k, by omega, h2, h3, h4⟩
def addHit (out : List Int) (b : Bool) (i : Int) : List Int := if b = true then out ++ [i] else out
theorem rp_in (L P : List Int) (r : List S45) (hr : r.length ≤ 1000) (hP : P.length ≤ 1000) (hn : P.Nodup) (out : List Int) (ho : out.length ≤ 2000) (i : Int) (K : Nat) (res : Option (List Int × Int)) (hK : 1010 ≤ K) (hres : ∀ k', K ≤ k' → colophonref16_Places.l1 k' L r P (addHit out (hit P r i P.length) i) (wrap64 (i + 1)) = res) :
    ∀ (d k c : Nat), P.length - c = d → c ≤ P.length → K + d + 1 ≤ k → colophonref16_Places.l2 k L r P (addHit out (hit P r i c) i) i (c : Int) = res := by
  intro d
  induction d with
  | zero =>
    intro k c hd hc hk
    obtain ⟨k, rfl⟩ : ∃ m, k = m + 1 := ⟨k - 1, by omega⟩
    obtain rfl : c = P.length := by omega
    simp only [colophonref16_Places.l2]
    rw [if_neg (by omega)]
    exact hres k (by omega)
  | succ d ih =>
    intro k c hd hc hk
    obtain ⟨k, rfl⟩ : ∃ m, k = m + 1 := ⟨k - 1, by omega⟩
    have hlt : c < P.length := by omega
    have hnext := ih k (c + 1) (by omega) (by omega) (by omega)
    have hh : hit P r i (c + 1) = (hit P r i c || (lev P c == i && inR r (c : Int))) := by
      simp only [hit, decide_eq_true hlt, Bool.true_and]
    rw [hh] at hnext
    simp only [colophonref16_Places.l2, rd_lev]
    rw [if_pos (by omega), if_pos (by omega)]
    by_cases h1 : lev P c = i
    · have hno : hit P r i c = false := by
        by_cases h : hit P r i c = true
        · obtain ⟨k', g1, g2, g3, g4⟩ := (hit_iff P r i c).1 h
          have e1 : lev P k' = P[k'] := by unfold lev; simp only [List.getD_eq_getElem?_getD, List.getElem?_eq_getElem g2, Option.getD_some]
          have e2 : lev P c = P[c] := by unfold lev; simp only [List.getD_eq_getElem?_getD, List.getElem?_eq_getElem hlt, Option.getD_some]
          have e3 : P[k'] = P[c] := by rw [← e1, ← e2, g3, h1]
          have := (List.getElem_inj hn).1 e3
          omega
        · simpa using h
      have e0 : addHit out (hit P r i c) i = out := by rw [hno]; rfl
      have e4 : (lev P c == i) = true := by simpa using h1
      rw [hno, Bool.false_or, e4, Bool.true_and] at hnext
      rw [if_pos h1, ref_in_is r _ hr (by omega), Option.bind_some, e0, wr1 (by omega)]
      by_cases h2 : inR r (c : Int) = true
      · rw [h2] at hnext
        rw [if_pos h2, if_pos (by omega)]
        exact hnext
      · have h3 : inR r (c : Int) = false := by simpa using h2
        rw [h3] at hnext
        rw [if_neg h2]
        exact hnext
    · have e4 : (lev P c == i) = false := by simpa using h1
      rw [e4, Bool.false_and, Bool.or_false] at hnext
      rw [if_neg h1, wr1 (by omega)]
      exact hnext
def upTo (P : List Int) (r : List S45) (n : Nat) : List Int := ((List.range n).filter fun i : Nat => hit P r (i : Int) P.length).map fun i : Nat => (i : Int)
theorem upTo_succ (P : List Int) (r : List S45) (n : Nat) : upTo P r (n + 1) = addHit (upTo P r n) (hit P r (n : Int) P.length) (n : Int) := by
  unfold upTo addHit
  rw [List.range_succ, List.filter_append, List.map_append]
  by_cases h : hit P r (n : Int) P.length = true
  · rw [List.filter_cons, if_pos h, if_pos h]
    rfl
  · rw [List.filter_cons, if_neg h, if_neg h]
    simp
theorem upTo_len (P : List Int) (r : List S45) (n : Nat) : (upTo P r n).length ≤ n := by
  unfold upTo
  rw [List.length_map]
  exact Nat.le_trans (List.length_filter_le _ _) (by simp)
theorem rp_out (L P : List Int) (r : List S45) (hL : L.length ≤ 1000) (hr : r.length ≤ 1000) (hP : P.length ≤ 1000) (hn : P.Nodup) : ∀ (d k i : Nat), L.length - i = d → i ≤ L.length → 1005 * d + 3000 ≤ k →
    colophonref16_Places.l1 k L r P (upTo P r i) (i : Int) = some (upTo P r L.length, 0) := by
  intro d
  induction d with
  | zero =>
    intro k i hd hi hk
    obtain ⟨k, rfl⟩ : ∃ m, k = m + 1 := ⟨k - 1, by omega⟩
    obtain rfl : i = L.length := by omega
    simp only [colophonref16_Places.l1]
    rw [if_neg (by omega)]
  | succ d ih =>
    intro k i hd hi hk
    obtain ⟨k, rfl⟩ : ∃ m, k = m + 1 := ⟨k - 1, by omega⟩
    have hul := upTo_len P r i
    simp only [colophonref16_Places.l1]
    rw [if_pos (by omega)]
    have := rp_in L P r hr hP hn (upTo P r i) (by omega) (i : Int) (1005 * d + 3000) (some (upTo P r L.length, 0)) (by omega) (fun k' hk' => by
      rw [← upTo_succ, wr1 (by omega)]
      exact ih k' (i + 1) (by omega) (by omega) hk') P.length k 0 (by omega) (Nat.zero_le _) (by omega)
    exact this
theorem cuts_sub (P : List Int) : ∀ (r : List S45) (e : Int), 0 ≤ e → fitR P.length e r = true → (cutsF P r).Sublist (P.drop e.toNat)
  | [], e, _, _ => List.nil_sublist _
  | x :: r, e, he, h => by
    rw [fitR] at h
    by_cases hb : x.f0 < e ∨ x.f1 ≤ x.f0 ∨ (P.length : Int) < x.f1
    · rw [if_pos hb] at h
      cases h
    · rw [if_neg hb] at h
      have ih := cuts_sub P r x.f1 (by omega) h
      have e1 : cutsF P (x :: r) = (P.drop x.f0.toNat).take (x.f1.toNat - x.f0.toNat) ++ cutsF P r := rfl
      have e2 : (P.drop x.f0.toNat) = (P.drop x.f0.toNat).take (x.f1.toNat - x.f0.toNat) ++ P.drop x.f1.toNat := by
        have h1 := List.take_append_drop (x.f1.toNat - x.f0.toNat) (P.drop x.f0.toNat)
        rw [List.drop_drop] at h1
        have e3 : x.f0.toNat + (x.f1.toNat - x.f0.toNat) = x.f1.toNat := by omega
        rw [e3] at h1
        exact h1.symm
      rw [e1]
      have h2 : ((P.drop x.f0.toNat).take (x.f1.toNat - x.f0.toNat) ++ cutsF P r).Sublist (P.drop x.f0.toNat) := by
        conv => rhs; rw [e2]
        exact List.Sublist.append (List.Sublist.refl _) ih
      refine h2.trans ?_
      have e4 : P.drop x.f0.toNat = (P.drop e.toNat).drop (x.f0.toNat - e.toNat) := by
        rw [List.drop_drop]
        congr 1
        omega
      rw [e4]
      exact List.drop_sublist _ _
theorem cuts_mem (P : List Int) : ∀ (r : List S45) (e : Int), 0 ≤ e → fitR P.length e r = true → ∀ x, x ∈ cutsF P r ↔ ∃ k : Nat, k < P.length ∧ lev P k = x ∧ inR r (k : Int) = true
  | [], e, _, _, x => by simp [cutsF, inR]
  | y :: r, e, he, h, x => by
    rw [fitR] at h
    by_cases hb : y.f0 < e ∨ y.f1 ≤ y.f0 ∨ (P.length : Int) < y.f1
    · rw [if_pos hb] at h
      cases h
    · rw [if_neg hb] at h
      have ih := cuts_mem P r y.f1 (by omega) h x
      have e1 : cutsF P (y :: r) = (P.drop y.f0.toNat).take (y.f1.toNat - y.f0.toNat) ++ cutsF P r := rfl
      have e2 : ∀ k : Int, inR (y :: r) k = (decide (y.f0 ≤ k ∧ k < y.f1) || inR r k) := fun k => rfl
      have e5 : ∀ k (hk : k < P.length), lev P k = P[k] := fun k hk => by unfold lev; simp only [List.getD_eq_getElem?_getD, List.getElem?_eq_getElem hk, Option.getD_some]
      rw [e1, List.mem_append, ih]
      constructor
      · rintro (h1 | ⟨k, h1, h2, h3⟩)
        · obtain ⟨j, hj, hx⟩ := List.getElem_of_mem h1
          simp only [List.length_take, List.length_drop] at hj
          rw [List.getElem_take, List.getElem_drop] at hx
          refine ⟨y.f0.toNat + j, by omega, by rw [e5 _ (by omega)]; exact hx, ?_⟩
          rw [e2, decide_eq_true (by omega), Bool.true_or]
        · exact ⟨k, h1, h2, by rw [e2, h3, Bool.or_true]⟩
      · rintro ⟨k, h1, h2, h3⟩
        rw [e2, Bool.or_eq_true] at h3
        rcases h3 with h3 | h3
        · have h4 := of_decide_eq_true h3
          refine .inl ?_
          rw [e5 k h1] at h2
          rw [List.mem_iff_getElem]
          refine ⟨k - y.f0.toNat, by simp only [List.length_take, List.length_drop]; omega, ?_⟩
          rw [List.getElem_take, List.getElem_drop, ← h2]
          congr 1
          omega
        · exact .inr ⟨k, h1, h2, h3⟩
def placesPair (L : List Int) (r : List S45) : List Int × Int := if L.all fineB = true then (if fitR (ordered L).length 0 r = true then (sortI (cutsF (ordered L) r), 0) else ([], 50)) else ([], 2)
theorem own_places {L : List Int} (h : L.length ≤ 17592186043904) (r : List S45) : pick_Places.f L r = some (placesPair L r) := by
  unfold pick_Places.f placesPair
  rw [if_pos h]
  split
  · split <;> rfl
  · rfl
theorem rp_check (L P : List Int) (r : List S45) (hr : r.length ≤ 1000) (hP : P.length ≤ 1000) (res : List Int) (K : Nat) (hK : ∀ k', K ≤ k' → colophonref16_Places.l1 k' L r P [] 0 = some (res, 0)) : ∀ (q : List S45) (i k : Nat) (e : Int), r.drop i = q → i ≤ r.length → K + q.length + 1 ≤ k →
    colophonref16_Places.l0 k L r P e (i : Int) = some (if fitR P.length e q = true then (res, 0) else ([], 50))
  | [], i, k, e, h, hi, hk => by
    obtain ⟨k, rfl⟩ : ∃ m, k = m + 1 := ⟨k - 1, by omega⟩
    have : i = r.length := by
      have h2 : (r.drop i).length = 0 := by rw [h]; rfl
      simp at h2
      omega
    subst this
    simp only [colophonref16_Places.l0]
    rw [if_neg (by omega), hK k (by simp at hk; omega)]
    rfl
  | x :: q, i, k, e, h, hi, hk => by
    obtain ⟨k, rfl⟩ : ∃ m, k = m + 1 := ⟨k - 1, by omega⟩
    have hil : i < r.length := by
      have h2 : (r.drop i).length = (x :: q).length := by rw [h]
      simp at h2
      omega
    rw [List.drop_eq_getElem_cons hil] at h
    obtain ⟨h1, h2⟩ := List.cons.inj h
    have hnext := rp_check L P r hr hP res K hK q (i + 1) k x.f1 h2 (by omega) (by simp at hk; omega)
    simp only [colophonref16_Places.l0, rd_Sp hil, h1]
    rw [if_pos (by omega), if_pos (by omega), fitR]
    by_cases g1 : x.f0 < e
    · rw [if_pos g1, if_pos (show x.f0 < e ∨ x.f1 ≤ x.f0 ∨ (P.length : Int) < x.f1 from .inl g1)]
      rfl
    · rw [if_neg g1]
      by_cases g2 : x.f0 ≥ x.f1
      · rw [if_pos g2, if_pos (show x.f0 < e ∨ x.f1 ≤ x.f0 ∨ (P.length : Int) < x.f1 from .inr (.inl g2))]
        rfl
      · rw [if_neg g2]
        by_cases g3 : x.f1 > (P.length : Int)
        · rw [if_pos g3, if_pos (show x.f0 < e ∨ x.f1 ≤ x.f0 ∨ (P.length : Int) < x.f1 from .inr (.inr g3))]
          rfl
        · rw [if_neg g3, if_neg (show ¬ (x.f0 < e ∨ x.f1 ≤ x.f0 ∨ (P.length : Int) < x.f1) by omega), wr1 (by omega)]
          exact hnext
theorem ref_places {L : List Int} (hl : L.length ≤ 100) (r : List S45) (hr : r.length ≤ 1000) {k : Nat} (hk : 200000 ≤ k) : colophonref16_Places.f k L r = some (placesPair L r) := by
  have hol := ord_len L
  unfold colophonref16_Places.f placesPair
  rw [ref_order hl (by omega), Option.bind_some]
  unfold orderPair
  by_cases hf : L.all fineB = true
  · rw [if_pos hf, if_pos hf, if_pos rfl]
    have hn := ordered_nodup hf
    have h1 := rp_check L (ordered L) r hr (by omega) (upTo (ordered L) r L.length) (1005 * L.length + 3000) (fun k' hk' => rp_out L (ordered L) r (by omega) hr (by omega) hn L.length k' 0 (by omega) (Nat.zero_le _) hk') r 0 k 0 rfl (Nat.zero_le _) (by omega)
    refine Eq.trans h1 ?_
    by_cases hfit : fitR (ordered L).length 0 r = true
    · rw [if_pos hfit, if_pos hfit]
      have hs : sortI (cutsF (ordered L) r) = upTo (ordered L) r L.length := by
        refine sort_eq ?_ ?_ fun x => ?_
        · have := cuts_sub (ordered L) r 0 (Int.le_refl _) hfit
          exact this.nodup hn
        · unfold upTo
          rw [List.pairwise_map]
          refine List.Pairwise.imp ?_ ((List.pairwise_lt_range (n := L.length)).filter _)
          intro a b hab
          omega
        · rw [cuts_mem (ordered L) r 0 (Int.le_refl _) hfit]
          unfold upTo
          rw [List.mem_map]
          constructor
          · rintro ⟨k, h1, h2, h3⟩
            have e5 : lev (ordered L) k = (ordered L)[k] := by unfold lev; simp only [List.getD_eq_getElem?_getD, List.getElem?_eq_getElem h1, Option.getD_some]
            have hs := (ordered_mem L (ordered L)[k]).1 (List.getElem_mem h1)
            rw [← e5, h2] at hs
            refine ⟨x.toNat, ?_, by have := hs.1; omega⟩
            rw [List.mem_filter, List.mem_range]
            have ex : ((x.toNat : Nat) : Int) = x := by have := hs.1; omega
            refine ⟨by have := hs.1; have := hs.2.1; omega, ?_⟩
            rw [ex]
            exact (hit_iff _ _ _ _).2 ⟨k, h1, h1, h2, h3⟩
          · rintro ⟨i, h1, rfl⟩
            obtain ⟨k, g1, g2, g3, g4⟩ := (hit_iff _ _ _ _).1 (List.mem_filter.1 h1).2
            exact ⟨k, g2, g3, g4⟩
      rw [hs]
    · rw [if_neg hfit, if_neg hfit]
  · rw [if_neg hf, if_neg hf, if_neg (by decide)]
theorem places_len (L : List Int) (r : List S45) : (placesPair L r).1.length ≤ L.length := by
  unfold placesPair
  split
  · split
    · rename_i hfit
      show (sortI (cutsF (ordered L) r)).length ≤ _
      have h1 : (sortI (cutsF (ordered L) r)).length = (cutsF (ordered L) r).length := List.length_mergeSort _
      have h2 := (cuts_sub (ordered L) r 0 (Int.le_refl _) hfit).length_le
      have h3 := ord_len L
      simp at h2
      omega
    · exact Nat.zero_le _
  · exact Nat.zero_le _
theorem places_true (L : List Int) (r : List S45) : colophonlaw16_PickPlaces.f 300001 L r = some true := by
  unfold colophonlaw16_PickPlaces.f
  have hw : ((colophonlaw16_works.f 300000).bind fun t => some t) = some true := by rw [works16 (by decide)]; rfl
  have hj : colophonlaw16_PickPlaces.j0 300001 L r true = some true := by
    rw [show (300001 : Nat) = 300000 + 1 from rfl]
    simp only [colophonlaw16_PickPlaces.j0]
    rw [if_pos trivial]
    exact hw
  by_cases h1 : (L.length : Int) > 60
  · rw [if_pos h1]
    exact hj
  · rw [if_neg h1]
    by_cases h2 : (r.length : Int) > 60
    · rw [decide_eq_true h2]
      exact hj
    · have hp := places_len L r
      rw [decide_eq_false h2, show (300001 : Nat) = 300000 + 1 from rfl]
      simp only [colophonlaw16_PickPlaces.j0, Option.bind_some, List.nil_append]
      rw [if_neg (by decide), if_pos (by simp only [List.length_nil]; omega), own_places (by omega), Option.bind_some, ref_places (by omega) r (by omega) (by decide), Option.bind_some, ints_refl _ (by omega) (by omega), Option.bind_some, if_pos rfl, if_pos rfl, same_refl _ (by omega) (by omega), Option.bind_some, if_pos rfl]
      exact hw
end Go.Proofs.Ytccleelhheilnaa.Pure
