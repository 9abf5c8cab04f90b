/- PickApart, over lists alone. -/
import Derived.Test.YtccleelhheilnaaFx31
import Derived.Test.YtccleelhheilnaaW16T
namespace Go.Proofs.Ytccleelhheilnaa.Pure
set_option linter.unusedVariables false
set_option linter.unusedSimpArgs false
open Go.RowKit Go.Proofs.Ytccleelhheilnaa.F Go.Proofs.YtccleelhheilnaaW.PrintWords Go.Proofs.YtccleelhheilnaaW.PrintLast

theorem rd_S {l : List S45} {i : Nat} (h : i < l.length) : rd_T45 l (i : Int) = l[i] := by
  simp only [rd_T45, Int.toNat_natCast, List.getD_eq_getElem?_getD, List.getElem?_eq_getElem h, Option.getD_some]
/-- the places of one run -/
theorem apart_in (P : List Int) (fr te : Int) (hP : P.length ≤ 17592186043904) (b n : Nat) (hn : n ≤ P.length) (hm : ∀ j, b ≤ j → j < n → mk P fr te j) (x11 : Int) (x36 : List S45) (x37 x38 a b2 : Int) (hb2 : b2 = (n : Int)) (K : Nat) (r : Option Bool)
    (hr : ∀ k', K ≤ k' → colophonlaw16_PickApart.l0 k' fr te P x11 x36 x37 (wrap64 (x38 + 1)) = r) : ∀ (d k i : Nat), n - i = d → b ≤ i → i ≤ n → K + d + 1 ≤ k →
    colophonlaw16_PickApart.l1 k fr te P x11 (i : Int) x36 x37 x38 a b2 = r := by
  subst hb2
  intro d
  induction d with
  | zero =>
    intro k i hd hb hi hk
    obtain ⟨k, rfl⟩ : ∃ m, k = m + 1 := ⟨k - 1, by omega⟩
    simp only [colophonlaw16_PickApart.l1]
    rw [if_neg (by omega)]
    exact hr k (by omega)
  | succ d ih =>
    intro k i hd hb hi hk
    obtain ⟨k, rfl⟩ : ∃ m, k = m + 1 := ⟨k - 1, by omega⟩
    have hnext := ih k (i + 1) (by omega) (by omega) (by omega) (by omega)
    have h1 := hm i hb (by omega)
    have h2 : fr ≤ rd P (i : Int) ∧ rd P (i : Int) < te := by
      have := h1.2
      unfold inB at this
      rw [rd_lev]
      exact of_decide_eq_true this
    simp only [colophonlaw16_PickApart.l1]
    rw [if_pos (by omega), if_pos (by omega), if_pos (by omega), if_neg (by omega), if_neg (by omega), wr1 (by omega)]
    exact hnext
theorem drop_next {α : Type} {l r : List α} {x : α} {i : Nat} (h : l.drop i = x :: r) : ∃ hi : i < l.length, l[i] = x ∧ l.drop (i + 1) = r := by
  have hi : i < l.length := by
    have h2 : (l.drop i).length = (x :: r).length := by rw [h]
    simp at h2
    omega
  rw [List.drop_eq_getElem_cons hi] at h
  exact ⟨hi, (List.cons.inj h).1, (List.cons.inj h).2⟩
theorem apart_loop (P : List Int) (fr te : Int) (hP : P.length ≤ 17592186043904) (L : List S45) (hL : L.length ≤ 17592186044000) : ∀ (r : List S45) (i e : Nat) (x11 : Int) (k : Nat), L.drop i = r → i ≤ L.length → Chain P fr te e r → x11 < (e : Int) → (P.length + 5) * r.length + 5 ≤ k →
    colophonlaw16_PickApart.l0 k fr te P x11 L (L.length : Int) (i : Int) = some true
  | [], i, e, x11, k, h, hi, hc, hx, hk => by
    obtain ⟨k, rfl⟩ : ∃ m, k = m + 1 := ⟨k - 1, by omega⟩
    have : i = L.length := by
      have h2 : (L.drop i).length = 0 := by rw [h]; rfl
      simp at h2
      omega
    subst this
    simp only [colophonlaw16_PickApart.l0]
    rw [if_neg (by omega)]
  | x :: r, i, e, x11, k, h, hi, hc, hx, hk => by
    obtain ⟨hil, hxi, hdr⟩ := drop_next h
    obtain ⟨b, n, rfl, h1, h2, h3, h4, h5⟩ := hc
    have hk2 : (P.length + 5) * r.length + (P.length + 10) ≤ k := by
      rw [List.length_cons, Nat.mul_succ] at hk
      omega
    obtain ⟨k, rfl⟩ : ∃ m, k = m + 2 := ⟨k - 2, by omega⟩
    have hrd : rd_T45 L (i : Int) = ⟨(b : Int), (n : Int)⟩ := by rw [rd_S hil, hxi]
    have hnext := apart_loop P fr te hP L hL r (i + 1) (n + 1) (n : Int)
    have hin := apart_in P fr te hP b n h3 h4 (n : Int) L (L.length : Int) (i : Int) (b : Int) (n : Int) rfl ((P.length + 5) * r.length + 5) (some true) (fun k' hk' => by
      rw [wr1 (by omega)]
      exact hnext k' hdr (by omega) h5 (by omega) hk') (n - b) k b (by omega) (by omega) (by omega) (by omega)
    simp only [colophonlaw16_PickApart.l0, hrd]
    rw [if_pos (by omega), if_pos (by omega), if_pos (by omega), if_neg (by omega), if_neg (by omega)]
    simp only [colophonlaw16_PickApart.j1]
    rw [if_neg (by simp; omega)]
    exact hin
theorem PickApart : colophonlaw16_PickApart.Pure := by
  intro L fr te _ hy _ _ _
  have hol := ord_len L
  have hsl := strs_len (ordered L) fr te
  refine ⟨(L.length + 5) * (L.length + 1) + 1000, ?_⟩
  unfold colophonlaw16_PickApart.f
  rw [works16 (by omega), Option.bind_some, if_pos rfl, own_pruns (by omega), Option.bind_some]
  unfold runsPair
  by_cases hf : L.all fineB = true
  · rw [if_pos hf]
    by_cases hE : fr < 0 ∨ (L.length : Int) < te ∨ te < fr
    · rw [if_pos hE, if_neg (by decide)]
      rfl
    · rw [if_neg hE, if_pos rfl, own_order (by omega)]
      unfold orderPair
      rw [if_pos hf, Option.bind_some, if_pos rfl]
      show colophonlaw16_PickApart.l0 _ fr te (ordered L) (-1) (strs (ordered L) fr te) ((strs (ordered L) fr te).length : Int) 0 = some true
      refine apart_loop (ordered L) fr te (by omega) _ (by omega) _ 0 0 (-1) _ rfl (Nat.zero_le _) (strs_chain _ _ _) (by omega) ?_
      rw [List.drop_zero]
      have h1 : ((ordered L).length + 5) * (strs (ordered L) fr te).length ≤ (L.length + 5) * (L.length + 1) := Nat.mul_le_mul (by omega) (by omega)
      omega
  · rw [if_neg hf, if_neg (by decide)]
    rfl
end Go.Proofs.Ytccleelhheilnaa.Pure
