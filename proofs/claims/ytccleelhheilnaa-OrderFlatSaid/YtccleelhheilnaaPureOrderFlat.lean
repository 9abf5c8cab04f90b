/- OrderFlat, over lists alone: a flat line, with a stretch of a greater level inside. -/
import Derived.Test.YtccleelhheilnaaFx11
import Derived.Test.YtccleelhheilnaaW13T
import Derived.Test.YtccleelhheilnaaOrdS
namespace Go.Proofs.Ytccleelhheilnaa.Pure
set_option linter.unusedVariables false
set_option linter.unusedSimpArgs false
open Go.RowKit Go.Proofs.Ytccleelhheilnaa.F Go.Proofs.YtccleelhheilnaaW.PrintWords Go.Proofs.YtccleelhheilnaaW.PrintLast

theorem w_id {x : Int} (h0 : -9223372036854775808 ≤ x) (h1 : x ≤ 9223372036854775807) : wrap64 x = x := by unfold wrap64; omega
theorem w4 (a m w : Nat) (ha : a ≤ 300) (hm : m ≤ 300) (hw : w ≤ 1000) : wrap64 (wrap64 (wrap64 (wrap64 (2 * (a : Int)) + (m : Int)) - 1) - (w : Int)) = 2 * (a : Int) + (m : Int) - 1 - (w : Int) := by
  have b1 : -9223372036854775808 ≤ 2 * (a : Int) ∧ 2 * (a : Int) ≤ 9223372036854775807 := by omega
  have b2 : -9223372036854775808 ≤ 2 * (a : Int) + (m : Int) ∧ 2 * (a : Int) + (m : Int) ≤ 9223372036854775807 := by omega
  have b3 : -9223372036854775808 ≤ 2 * (a : Int) + (m : Int) - 1 ∧ 2 * (a : Int) + (m : Int) - 1 ≤ 9223372036854775807 := by omega
  have b4 : -9223372036854775808 ≤ 2 * (a : Int) + (m : Int) - 1 - (w : Int) ∧ 2 * (a : Int) + (m : Int) - 1 - (w : Int) ≤ 9223372036854775807 := by omega
  have s1 := w_id b1.1 b1.2
  have s2 := w_id b2.1 b2.2
  have s3 := w_id b3.1 b3.2
  have s4 := w_id b4.1 b4.2
  simp only [s1, s2, s3, s4]
theorem w2 (n i : Nat) (hi : i < n) (hn : n ≤ 1000) : wrap64 (wrap64 ((n : Int) - 1) - (i : Int)) = ((n - 1 - i : Nat) : Int) := by
  have b1 : -9223372036854775808 ≤ (n : Int) - 1 ∧ (n : Int) - 1 ≤ 9223372036854775807 := by omega
  have b2 : -9223372036854775808 ≤ (n : Int) - 1 - (i : Int) ∧ (n : Int) - 1 - (i : Int) ≤ 9223372036854775807 := by omega
  have e : (n : Int) - 1 - (i : Int) = ((n - 1 - i : Nat) : Int) := by omega
  have s1 := w_id b1.1 b1.2
  have s2 := w_id b2.1 b2.2
  simp only [s1, s2]
  exact e
theorem w1s (a m : Nat) (ha : a ≤ 1000) (hm : m ≤ 1000) : wrap64 ((a : Int) + (m : Int)) = ((a + m : Nat) : Int) := by
  have b1 : -9223372036854775808 ≤ (a : Int) + (m : Int) ∧ (a : Int) + (m : Int) ≤ 9223372036854775807 := by omega
  have e : (a : Int) + (m : Int) = ((a + m : Nat) : Int) := by omega
  have s1 := w_id b1.1 b1.2
  simp only [s1]
  exact e
theorem flat_snoc (lv a m i : Nat) : flatL lv a m (i + 1) = flatL lv a m i ++ [if a ≤ i ∧ i < a + m then (lv : Int) + 1 else (lv : Int)] := by
  unfold flatL
  rw [List.range_succ, List.map_append]
  rfl
theorem flat_cmp (lv a m b : Nat) (h1 : lv < 127) (ha : a ≤ 300) (hm : m ≤ 300) (hb : b ≤ 300) : ∀ (d k i : Nat), a + m + b - i = d → i ≤ a + m + b → 3 * d + 5 < k →
    colophonlaw13_OrderFlat.l1 k (lv : Int) (a : Int) (m : Int) (flatL lv a m (a + m + b)) ((List.range (a + m + b)).map fun i => (flatW lv a m (a + m + b) i : Int)) ((a + m + b : Nat) : Int) (i : Int) = some true := by
  intro d
  induction d with
  | zero =>
    intro k i hd hi hk
    obtain ⟨k, rfl⟩ : ∃ m, k = m + 1 := ⟨k - 1, by omega⟩
    simp only [colophonlaw13_OrderFlat.l1]
    rw [if_neg (by omega)]
  | succ d ih =>
    intro k i hd hi hk
    obtain ⟨k, rfl⟩ : ∃ m, k = m + 3 := ⟨k - 3, by omega⟩
    have hnext := ih k (i + 1) (by omega) (by omega) (by omega)
    have hlen : ((List.range (a + m + b)).map fun i => (flatW lv a m (a + m + b) i : Int)).length = a + m + b := by simp
    have hfl : (flatL lv a m (a + m + b)).length = a + m + b := by simp [flatL]
    have hr : rd ((List.range (a + m + b)).map fun i => (flatW lv a m (a + m + b) i : Int)) (i : Int) = (flatW lv a m (a + m + b) i : Int) := by
      rw [rd_at (by rw [hlen]; omega), List.getElem_map, List.getElem_range]
    have HR := Aside0.mk hr
    have HLEN := Aside0.mk hlen
    have HFL := Aside0.mk hfl
    clear hr hlen hfl
    have hmod : Int.tmod (lv : Int) 2 = ((lv % 2 : Nat) : Int) := by rw [Int.tmod_eq_emod_of_nonneg (by omega)]; rfl
    have hnx : colophonlaw13_OrderFlat.l1 k (lv : Int) (a : Int) (m : Int) (flatL lv a m (a + m + b)) ((List.range (a + m + b)).map fun i => (flatW lv a m (a + m + b) i : Int)) ((a + m + b : Nat) : Int) (wrap64 ((i : Int) + 1)) = some true := by
      rw [wr1 (by omega)]
      exact hnext
    clear hnext ih
    have hc := flatW_cases lv a m (a + m + b) i
    have HC := Aside0.mk hc
    clear hc
    -- behind the want: w
    have tail : ∀ w : Nat, w < a + m + b → ((a ≤ w ∧ w < a + m ∧ flatW lv a m (a + m + b) i = 2 * a + m - 1 - w) ∨ ((w < a ∨ a + m ≤ w) ∧ flatW lv a m (a + m + b) i = w)) →
        colophonlaw13_OrderFlat.j3 (k + 2) (lv : Int) (a : Int) (m : Int) (flatL lv a m (a + m + b)) (flatW lv a m (a + m + b) i : Int) (w : Int) ((List.range (a + m + b)).map fun i => (flatW lv a m (a + m + b) i : Int)) ((a + m + b : Nat) : Int) (i : Int) = some true := by
      intro w hw hcase
      have HCASE := Aside0.mk hcase
      clear hcase hmod
      have hw' : w ≤ 1000 := by omega
      have e1 := w1s a m (by omega) (by omega)
      have e2 := w4 a m w ha hm hw'
      simp only [colophonlaw13_OrderFlat.j3, colophonlaw13_OrderFlat.j4, e1, e2]
      have hcase := HCASE.out
      clear e1 e2 HCASE
      generalize flatW lv a m (a + m + b) i = x at hcase
      by_cases g1 : (w : Int) ≥ (a : Int)
      · rw [if_pos g1]
        by_cases g2 : (w : Int) < ((a + m : Nat) : Int)
        · rw [if_pos (decide_eq_true g2), if_pos (by omega)]
          exact hnx
        · rw [if_neg (by simpa using g2), if_pos (by omega)]
          exact hnx
      · rw [if_neg g1, if_neg (by decide), if_pos (by omega)]
        exact hnx
    have hge : (i : Int) < (((List.range (a + m + b)).map fun i => (flatW lv a m (a + m + b) i : Int)).length : Int) := by rw [HLEN.out]; omega
    have hi0 : (i : Int) < ((a + m + b : Nat) : Int) := by omega
    have hi1 : (0 : Int) ≤ (i : Int) := by omega
    have HGE := Aside0.mk hge
    clear hge
    simp only [colophonlaw13_OrderFlat.l1]
    rw [if_pos hi0, if_pos hi1, if_pos HGE.out, HR.out]
    by_cases ho : lv % 2 = 1
    · have hmo : Int.tmod (lv : Int) 2 = 1 := by rw [hmod, ho]; rfl
      have e3 : wrap64 (wrap64 (((flatL lv a m (a + m + b)).length : Int) - 1) - (i : Int)) = ((a + m + b - 1 - i : Nat) : Int) := by
        rw [HFL.out]
        exact w2 (a + m + b) i (by omega) (by omega)
      rw [if_pos hmo, e3]
      clear e3 hmo hmod
      have hc := HC.out
      exact tail _ (by omega) (by omega)
    · have hmo : ¬ Int.tmod (lv : Int) 2 = 1 := by rw [hmod]; omega
      rw [if_neg hmo]
      clear hmo hmod
      have hc := HC.out
      exact tail _ (by omega) (by omega)
theorem flat_loop (lv a m b : Nat) (h1 : lv < 127) (ha : a ≤ 300) (hm : m ≤ 300) (hb : b ≤ 300) : ∀ (d k i : Nat), a + m + b - i = d → i ≤ a + m + b → d + 5000 < k →
    colophonlaw13_OrderFlat.l0 k (lv : Int) (a : Int) (m : Int) (b : Int) (flatL lv a m i) (i : Int) = some true := by
  have e1 := w1s a m (by omega) (by omega)
  have e2 := w1s (a + m) b (by omega) (by omega)
  have E1 := Aside0.mk e1
  have E2 := Aside0.mk e2
  clear e1 e2
  have hfl : ∀ n, (flatL lv a m n).length = n := fun n => by simp [flatL]
  intro d
  induction d with
  | zero =>
    intro k i hd hi hk
    obtain ⟨k, rfl⟩ : ∃ m, k = m + 2 := ⟨k - 2, by omega⟩
    obtain rfl : i = a + m + b := by omega
    have ho : orderPair (flatL lv a m (a + m + b)) = ((List.range (a + m + b)).map fun i => (flatW lv a m (a + m + b) i : Int), 0) := by
      unfold orderPair
      rw [if_pos (flat_fine lv a m _ (.inl h1)), ordered_flat lv a m _ (by omega) (.inl h1)]
    simp only [colophonlaw13_OrderFlat.l0, E1.out, E2.out]
    rw [if_neg (by omega), own_order (by rw [hfl]; omega), ho, Option.bind_some, if_pos rfl]
    have hlen : ((List.range (a + m + b)).map fun i => (flatW lv a m (a + m + b) i : Int)).length = a + m + b := by simp
    simp only [colophonlaw13_OrderFlat.j1, hlen, hfl]
    rw [if_neg (by simp)]
    exact flat_cmp lv a m b h1 ha hm hb (a + m + b) k 0 (by omega) (by omega) (by omega)
  | succ d ih =>
    intro k i hd hi hk
    obtain ⟨k, rfl⟩ : ∃ m, k = m + 1 := ⟨k - 1, by omega⟩
    have hnext := ih k (i + 1) (by omega) (by omega) (by omega)
    have e3 : wrap64 ((lv : Int) + 1) = (lv : Int) + 1 := w_id (by omega) (by omega)
    rw [flat_snoc] at hnext
    simp only [colophonlaw13_OrderFlat.l0, E1.out, E2.out, e3]
    clear e3
    rw [if_pos (by omega)]
    by_cases g1 : (i : Int) ≥ (a : Int)
    · rw [if_pos g1]
      by_cases g2 : (i : Int) < ((a + m : Nat) : Int)
      · rw [if_pos (by omega)] at hnext
        rw [if_pos g2, if_pos (by rw [hfl]; omega), wr1 (by omega)]
        exact hnext
      · rw [if_neg (by omega)] at hnext
        rw [if_neg g2, if_pos (by rw [hfl]; omega), wr1 (by omega)]
        exact hnext
    · rw [if_neg (by omega)] at hnext
      rw [if_neg g1, if_pos (by rw [hfl]; omega), wr1 (by omega)]
      exact hnext
theorem cut_mod (x : Int) (n : Nat) (h0 : 0 < n) (hn : n ≤ 1000) : ∃ r : Nat, wrap64 (Int.tmod (IntKind.u64.wrap x) (n : Int)) = (r : Int) ∧ r < n := by
  have h1 : 0 ≤ IntKind.u64.wrap x := by unfold IntKind.wrap; exact Int.emod_nonneg _ (by decide)
  obtain ⟨y, hy⟩ := Int.eq_ofNat_of_zero_le h1
  rw [hy]
  refine ⟨y % n, ?_, Nat.mod_lt _ h0⟩
  have e : Int.tmod (y : Int) (n : Int) = ((y % n : Nat) : Int) := by rw [Int.tmod_eq_emod_of_nonneg (by omega)]; rfl
  rw [e]
  have := Nat.mod_lt y h0
  unfold wrap64
  omega
theorem flat_true (a0 b0 b1 b2 : Int) : colophonlaw13_OrderFlat.f 10000 a0 b0 b1 b2 = some true := by
  unfold colophonlaw13_OrderFlat.f
  rw [works13 (by omega), Option.bind_some, if_pos rfl]
  obtain ⟨lv, e0, h0⟩ := cut_mod a0 127 (by decide) (by decide)
  obtain ⟨a, e1, h1⟩ := cut_mod b0 300 (by decide) (by decide)
  obtain ⟨m, e2, h2⟩ := cut_mod b1 300 (by decide) (by decide)
  obtain ⟨b, e3, h3⟩ := cut_mod b2 300 (by decide) (by decide)
  have c0 : wrap64 (Int.tmod (IntKind.u64.wrap a0) 127) = (lv : Int) := e0
  have c1 : wrap64 (Int.tmod (IntKind.u64.wrap b0) 300) = (a : Int) := e1
  have c2 : wrap64 (Int.tmod (IntKind.u64.wrap b1) 300) = (m : Int) := e2
  have c3 : wrap64 (Int.tmod (IntKind.u64.wrap b2) 300) = (b : Int) := e3
  rw [c0, c1, c2, c3]
  exact flat_loop lv a m b h0 (by omega) (by omega) (by omega) (a + m + b) 10000 0 (by omega) (by omega) (by omega)
end Go.Proofs.Ytccleelhheilnaa.Pure
