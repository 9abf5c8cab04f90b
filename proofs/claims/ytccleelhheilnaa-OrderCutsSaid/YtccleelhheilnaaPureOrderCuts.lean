/- OrderCuts, over lists alone: a line's levels are the paragraph's, or its base level. -/
import Derived.Test.YtccleelhheilnaaFx12
import Derived.Test.YtccleelhheilnaaW13T
namespace Go.Proofs.Ytccleelhheilnaa.Pure
set_option linter.unusedVariables false
set_option linter.unusedSimpArgs false
open Go.RowKit Go.Proofs.Ytccleelhheilnaa.F Go.Proofs.YtccleelhheilnaaW.PrintWords Go.Proofs.YtccleelhheilnaaW.PrintLast

theorem rd_gdc (l : List Int) (i : Nat) : rd l (i : Int) = F.gd l i := by simp only [rd, F.gd, Int.toNat_natCast]
/-- what a line's level may be -/
theorem cut_facts (c L : List Int) (base : Int) (te m : Nat) (h : m < te) :
    (lineAt c L base te m = F.gd L m ∨ (lineAt c L base te m = base ∧ 0 ≤ F.gd L m)) ∧
    ((¬ F.gd c m = 12 ∧ ¬ F.gd c m = 11) ∨ F.gd L m < 0 ∨ lineAt c L base te m = base) ∧
    (F.gd c m = 13 ∨ (20 ≤ F.gd c m ∧ F.gd c m ≤ 23) ∨ F.gd c m = 12 ∨ F.gd c m = 11 ∨ lineAt c L base te m = F.gd L m) ∧
    (¬ (F.gd c m = 13 ∨ (20 ≤ F.gd c m ∧ F.gd c m ≤ 23)) ∨ ¬ m + 1 = te ∨ F.gd L m < 0 ∨ lineAt c L base te m = base) := by
  have hp : partsB (F.gd c m) = decide (F.gd c m = 12 ∨ F.gd c m = 11) := rfl
  have hs : looseB (F.gd c m) = decide (F.gd c m = 13 ∨ (20 ≤ F.gd c m ∧ F.gd c m ≤ 23)) := rfl
  by_cases h0 : F.gd L m < 0
  · have e : lineAt c L base te m = F.gd L m := by unfold lineAt; rw [if_neg (by omega)]
    exact ⟨.inl e, .inr (.inl h0), .inr (.inr (.inr (.inr e))), .inr (.inr (.inl h0))⟩
  · by_cases hr : rstF c L m (te - m) = true
    · have e : lineAt c L base te m = base := by unfold lineAt; rw [if_pos ⟨by omega, hr⟩]
      refine ⟨.inr ⟨e, by omega⟩, .inr (.inr e), ?_, .inr (.inr (.inr e))⟩
      by_cases p : F.gd c m = 12 ∨ F.gd c m = 11
      · omega
      · by_cases l : F.gd c m = 13 ∨ (20 ≤ F.gd c m ∧ F.gd c m ≤ 23)
        · omega
        · have := rst_fast c L h (by rw [hp]; exact decide_eq_false p) h0 (by rw [hs]; exact decide_eq_false l)
          rw [this] at hr
          cases hr
    · have hrf : rstF c L m (te - m) = false := by simpa using hr
      have e : lineAt c L base te m = F.gd L m := by unfold lineAt; rw [if_neg (fun q => hr q.2)]
      refine ⟨.inl e, .inl ?_, .inr (.inr (.inr (.inr e))), ?_⟩
      · by_cases p : F.gd c m = 12 ∨ F.gd c m = 11
        · have := rst_parts c L h (by rw [hp]; exact decide_eq_true p)
          rw [this] at hrf
          cases hrf
        · omega
      · by_cases l : F.gd c m = 13 ∨ (20 ≤ F.gd c m ∧ F.gd c m ≤ 23)
        · refine .inr (.inl fun et => ?_)
          have pf : partsB (F.gd c m) = false := by rw [hp]; exact decide_eq_false (by omega)
          have := rst_loose c L h pf h0 (by rw [hs]; exact decide_eq_true l)
          rw [et, Nat.sub_self] at this
          rw [this] at hrf
          cases hrf
        · exact .inl l
theorem w_id {x : Int} (h0 : -9223372036854775808 ≤ x) (h1 : x ≤ 9223372036854775807) : wrap64 x = x := by unfold wrap64; omega
theorem cw1 (a m : Nat) (ha : a ≤ 17592186044416) (hm : m ≤ 17592186044416) : wrap64 ((a : Int) + (m : Int)) = ((a + m : Nat) : Int) := by
  have b1 : -9223372036854775808 ≤ (a : Int) + (m : Int) ∧ (a : Int) + (m : Int) ≤ 9223372036854775807 := by omega
  have e : (a : Int) + (m : Int) = ((a + m : Nat) : Int) := by omega
  have s1 := w_id b1.1 b1.2
  simp only [s1]
  exact e
theorem cw2 (n i fr te : Nat) (hf : fr ≤ te) (hn : n = te - fr) (h : te ≤ 17592186044416) : (i : Int) = wrap64 ((n : Int) - 1) ↔ (i : Int) + 1 = (te : Int) - (fr : Int) := by
  have b1 : -9223372036854775808 ≤ (n : Int) - 1 ∧ (n : Int) - 1 ≤ 9223372036854775807 := by omega
  have s1 := w_id b1.1 b1.2
  rw [s1]
  clear s1
  omega
theorem cw3 (fr te : Nat) (hf : fr ≤ te) (h : te ≤ 17592186044416) : ((te - fr : Nat) : Int) = wrap64 ((te : Int) - (fr : Int)) := by
  have b1 : -9223372036854775808 ≤ (te : Int) - (fr : Int) ∧ (te : Int) - (fr : Int) ≤ 9223372036854775807 := by omega
  have e : ((te - fr : Nat) : Int) = (te : Int) - (fr : Int) := by omega
  have s1 := w_id b1.1 b1.2
  rw [s1]
  exact e
set_option maxHeartbeats 4000000 in
theorem cuts_step (x3 x40 c L : List Int) (x41 x42 base fr te n was cl : Int) (k : Nat) (hl : x42 = wrap64 ((x3.length : Int) - 1) ↔ x42 + 1 = te - fr)
    (f2 : (¬ cl = 12 ∧ ¬ cl = 11) ∨ was < 0 ∨ n = base) (f3 : cl = 13 ∨ (20 ≤ cl ∧ cl ≤ 23) ∨ cl = 12 ∨ cl = 11 ∨ n = was) (f4 : ¬ (cl = 13 ∨ (20 ≤ cl ∧ cl ≤ 23)) ∨ ¬ x42 + 1 = te - fr ∨ was < 0 ∨ n = base)
    (hnext : colophonlaw13_OrderCuts.l0 k x3 x40 x41 (wrap64 (x42 + 1)) c L base fr te = some true) :
    colophonlaw13_OrderCuts.j1 (k + 1) x3 x42 n was cl x40 x41 x42 false c L base fr te = some true := by
  simp only [colophonlaw13_OrderCuts.j1, hnext]
  rw [if_neg (by decide)]
  clear hnext
  simp only [hl]
  repeat' split
  all_goals first | rfl | (exfalso; omega)
theorem cuts_loop (c L : List Int) (base : Int) (fr te : Nat) (hf : fr ≤ te) (h1 : te ≤ c.length) (h2 : c.length = L.length) (hl : L.length ≤ 17592186044416) : ∀ (d k i : Nat), te - fr - i = d → i ≤ te - fr → 2 * d + 2 < k →
    colophonlaw13_OrderCuts.l0 k (lineOf c L base fr te) (lineOf c L base fr te) ((te - fr : Nat) : Int) (i : Int) c L base (fr : Int) (te : Int) = some true := by
  have hlen : (lineOf c L base fr te).length = te - fr := by simp [lineOf]
  intro d
  induction d with
  | zero =>
    intro k i hd hi hk
    obtain ⟨k, rfl⟩ : ∃ m, k = m + 1 := ⟨k - 1, by omega⟩
    simp only [colophonlaw13_OrderCuts.l0]
    rw [if_neg (by omega)]
  | succ d ih =>
    intro k i hd hi hk
    obtain ⟨k, rfl⟩ : ∃ m, k = m + 2 := ⟨k - 2, by omega⟩
    have hnext := ih k (i + 1) (by omega) (by omega) (by omega)
    rw [← wr1 (by omega)] at hnext
    have hr : rd (lineOf c L base fr te) (i : Int) = lineAt c L base te (fr + i) := by
      rw [rd_at (by rw [hlen]; omega)]
      simp only [lineOf, List.getElem_map, List.getElem_range]
    have hr2 : F.gd (lineOf c L base fr te) i = lineAt c L base te (fr + i) := by rw [← rd_gdc]; exact hr
    have HR2 := Aside0.mk hr2
    clear hr hr2
    obtain ⟨f1, f2, f3, f4⟩ := cut_facts c L base te (fr + i) (by omega)
    have hlast : (i : Int) = wrap64 (((lineOf c L base fr te).length : Int) - 1) ↔ (i : Int) + 1 = (te : Int) - (fr : Int) := by
      rw [hlen]
      exact cw2 (te - fr) i fr te hf rfl (by omega)
    have hx1 : (i : Int) < ((te - fr : Nat) : Int) := by omega
    have hx2 : (i : Int) < ((lineOf c L base fr te).length : Int) := by rw [hlen]; exact hx1
    have hx3 : (0 : Int) ≤ ((fr + i : Nat) : Int) := by omega
    have hx4 : ((fr + i : Nat) : Int) < (L.length : Int) := by omega
    have hx5 : ((fr + i : Nat) : Int) < (c.length : Int) := by omega
    have hx6 : (0 : Int) ≤ (i : Int) := by omega
    have f4' : ¬ (F.gd c (fr + i) = 13 ∨ (20 ≤ F.gd c (fr + i) ∧ F.gd c (fr + i) ≤ 23)) ∨ ¬ (i : Int) + 1 = (te : Int) - (fr : Int) ∨ F.gd L (fr + i) < 0 ∨ lineAt c L base te (fr + i) = base := by
      rcases f4 with h | h | h
      · exact .inl h
      · exact .inr (.inl (by omega))
      · exact .inr (.inr h)
    have e1 := cw1 fr i (by omega) (by omega)
    have step := cuts_step (lineOf c L base fr te) (lineOf c L base fr te) c L ((te - fr : Nat) : Int) (i : Int) base (fr : Int) (te : Int) (lineAt c L base te (fr + i)) (F.gd L (fr + i)) (F.gd c (fr + i)) k hlast f2 f3 f4' hnext
    simp only [colophonlaw13_OrderCuts.l0, e1, rd_gdc, HR2.out]
    rw [if_pos hx1, if_pos hx6, if_pos hx2, if_pos hx3, if_pos hx4, if_pos hx5]
    by_cases g1 : lineAt c L base te (fr + i) = F.gd L (fr + i)
    · rw [if_pos g1]
      exact step
    · have g2 : lineAt c L base te (fr + i) = base ∧ 0 ≤ F.gd L (fr + i) := f1.resolve_left g1
      rw [if_neg g1, if_pos g2.1, decide_eq_false (fun h => absurd g2.2 (Int.not_le.2 h))]
      exact step
theorem cuts_true (c L : List Int) (a2 a3 a4 : Int) (hl : L.length < 17592186044416) : colophonlaw13_OrderCuts.f (4 * L.length + 1000) c L a2 a3 a4 = some true := by
  unfold colophonlaw13_OrderCuts.f
  rw [works13 (by omega), Option.bind_some, if_pos rfl]
  unfold order_Line.f
  rw [if_pos hl]
  by_cases hE : ¬ c.length = L.length ∨ ¬ (a2 = 0 ∨ a2 = 1) ∨ ¬ L.all fineB = true
  · rw [if_pos hE, Option.bind_some, if_neg (by decide)]
    rfl
  · rw [if_neg hE]
    by_cases hE2 : a3 < 0 ∨ (c.length : Int) < a4 ∨ a4 < a3
    · rw [if_pos hE2, Option.bind_some, if_neg (by decide)]
      rfl
    · have hcl : c.length = L.length := Decidable.byContradiction fun h => hE (.inl h)
      obtain ⟨fr, rfl⟩ : ∃ fr : Nat, a3 = (fr : Int) := ⟨a3.toNat, by omega⟩
      obtain ⟨te, rfl⟩ : ∃ te : Nat, a4 = (te : Int) := ⟨a4.toNat, by omega⟩
      have hlen : (lineOf c L a2 fr te).length = te - fr := by simp [lineOf]
      rw [if_neg hE2, Option.bind_some, if_pos rfl, Int.toNat_natCast, Int.toNat_natCast]
      simp only [hlen]
      rw [if_pos (cw3 fr te (by omega) (by omega))]
      exact cuts_loop c L a2 fr te (by omega) (by omega) hcl (by omega) (te - fr) _ 0 (by omega) (by omega) (by omega)
end Go.Proofs.Ytccleelhheilnaa.Pure
