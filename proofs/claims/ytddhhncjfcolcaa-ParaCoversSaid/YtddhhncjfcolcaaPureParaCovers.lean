/- ParaCovers, over numbers and lists alone: the paragraphs are all of a text, without a gap; breaks end them; Find tells the one that holds a place. -/
import Derived.Test.YtddhhncjfcolcaaFx15
import Derived.Test.YtddhhncjfcolcaaPureParaBounds
namespace Go.Proofs.Ytddhhncjfcolcaa.Pure
open Go.RowKit Go.Proofs.Ytddhhncjfcolcaa.F Go.Proofs.YtddhhncjfcolcaaW.PrintWords Go.Proofs.YtddhhncjfcolcaaW.PrintLast

theorem works5 : colophonlaw05_works.f = some true := by decide +kernel
theorem paras_ne : ∀ (r : List Int) (i s : Nat), paras r i s ≠ []
  | [], i, s => by simp [paras]
  | x :: r, i, s => by
    simp only [paras]
    split
    · simp
    · exact paras_ne r _ _
theorem paras_head : ∀ (r : List Int) (i s : Nat), ((paras r i s).getD 0 z38).f0 = (s : Int)
  | [], i, s => rfl
  | x :: r, i, s => by
    simp only [paras]
    split
    · rfl
    · exact paras_head r _ _
theorem paras_last : ∀ (r : List Int) (i s : Nat), ((paras r i s).getD ((paras r i s).length - 1) z38).f1 = ((i + r.length : Nat) : Int)
  | [], i, s => rfl
  | x :: r, i, s => by
    simp only [paras]
    split
    · have h := paras_last r (i + 1) (i + 1)
      have hn := paras_ne r (i + 1) (i + 1)
      obtain ⟨y, l, hy⟩ := List.exists_cons_of_ne_nil hn
      rw [hy] at h ⊢
      simp only [List.length_cons, Nat.add_sub_cancel] at h ⊢
      rw [List.getD_cons_succ, h]
      congr 1
      omega
    · rw [paras_last r (i + 1) s, List.length_cons]
      congr 1
      omega
theorem paras_len : ∀ (r : List Int) (i s : Nat), (paras r i s).length ≤ r.length + 1
  | [], i, s => Nat.le_refl _
  | x :: r, i, s => by
    simp only [paras]
    split
    · have := paras_len r (i + 1) (i + 1)
      simp only [List.length_cons]
      omega
    · have := paras_len r (i + 1) s
      simp only [List.length_cons]
      omega

/-- The places of one paragraph: from s to its end e; m: is it not the last one? -/
theorem covers_in (l : List Int) (hl : l.length ≤ 300) (B : List S38) (hBl : B.length ≤ 301) (p s e : Nat) (m : Bool) (_hs : s ≤ e) (he : e ≤ l.length) (hc : cnt l s = p) (hp : p < B.length)
    (hno : ∀ j, s ≤ j → (h : j < e) → brk (l[j]'(by omega)) = (m && decide (j + 1 = e))) (hm : m = decide (p + 1 < B.length)) (r : Option Bool) :
    ∀ (d k i : Nat), e - i = d → s ≤ i → i ≤ e → d < k → (∀ k', k ≤ k' + d + 1 → colophonlaw05_ParaCovers.l0 k' l B B (B.length : Int) ((p + 1 : Nat) : Int) = r) →
      colophonlaw05_ParaCovers.l1 k l B (p : Int) (i : Int) B (B.length : Int) (p : Int) (s : Int) (e : Int) = r := by
  have hcn : ∀ j, s ≤ j → j < e → cnt l j = p := by
    intro j hj
    obtain ⟨d, rfl⟩ : ∃ d, j = s + d := ⟨j - s, by omega⟩
    clear hj
    induction d with
    | zero => intro _; exact hc
    | succ d ih =>
      intro h
      have h1 := hno (s + d) (by omega) (by omega)
      rw [decide_eq_false (by omega), Bool.and_false] at h1
      rw [show s + (d + 1) = (s + d) + 1 from rfl, cnt_miss (by omega) h1]
      exact ih (by omega)
  intro d
  induction d with
  | zero =>
    intro k i hd h1 h2 hk H
    obtain ⟨k, rfl⟩ : ∃ m, k = m + 1 := ⟨k - 1, by omega⟩
    simp only [colophonlaw05_ParaCovers.l1]
    rw [if_neg (by omega), wr1 (by omega)]
    exact H k (by omega)
  | succ d ih =>
    intro k i hd h1 h2 hk H
    obtain ⟨k, rfl⟩ : ∃ m, k = m + 1 := ⟨k - 1, by omega⟩
    have hlt : i < l.length := by omega
    have hb := hno i h1 (by omega)
    have hq : (clsOf l[i] == 11) = (m && decide (i + 1 = e)) := by
      rw [← hb]
      unfold brk
      by_cases h : clsOf l[i] = 11
      · rw [h]; rfl
      · rw [decide_eq_false h]; simpa using h
    have hnext := ih k (i + 1) (by omega) (by omega) (by omega) (by omega) (fun k' hk' => H k' (by omega))
    simp only [colophonlaw05_ParaCovers.l1]
    rw [if_pos (by omega), own_find (by omega) i (by omega), rd_at hlt]
    simp only [Option.bind_some, ucd_Class.f]
    rw [if_pos (by omega), if_pos (by omega), if_pos (by rw [hcn i h1 (by omega)]), if_pos trivial, wr1 (i := p) (by omega), wr1 (i := i) (by omega), hq]
    have he1 : wrap64 ((e : Int) - 1) = ((e - 1 : Nat) : Int) := by unfold wrap64; omega
    rw [he1]
    by_cases hp1 : p + 1 < B.length
    · rw [if_pos (by omega)]
      rw [decide_eq_true hp1] at hm
      subst hm
      have : ((i : Int) == ((e - 1 : Nat) : Int)) = decide (i + 1 = e) := by
        by_cases h : i + 1 = e
        · rw [decide_eq_true h]; simp; omega
        · rw [decide_eq_false h]; simp; omega
      rw [this, Bool.true_and, if_neg (by simp)]
      exact hnext
    · rw [if_neg (by omega)]
      rw [decide_eq_false hp1] at hm
      subst hm
      rw [Bool.false_and, if_neg (by decide)]
      exact hnext

/-- From the paragraph p on, which begins at s. -/
theorem covers_from (l : List Int) (hl : l.length ≤ 300) (B : List S38) (hBl : B.length ≤ 301) : ∀ (d s p k : Nat), l.length - s < d → s ≤ l.length → cnt l s = p → B.drop p = paras (l.drop s) s s → (0 < p → (B.getD (p - 1) z38).f1 = (s : Int)) → 310 * d + 10 ≤ k →
    colophonlaw05_ParaCovers.l0 k l B B (B.length : Int) (p : Int) = some true := by
  intro d
  induction d with
  | zero => intro s p k hd; omega
  | succ d ih =>
    intro s p k hd hs hc hB hprev hk
    obtain ⟨k, rfl⟩ : ∃ m, k = m + 2 := ⟨k - 2, by omega⟩
    have hpl : p < B.length := by
      rcases Nat.lt_or_ge p B.length with h | h
      · exact h
      · rw [List.drop_eq_nil_of_le h] at hB
        exact absurd hB.symm (paras_ne _ _ _)
    have hcl := cnt_len l s
    -- the paragraph at hand
    have main : ∀ (e : Nat) (m : Bool), rd_T38 B (p : Int) = ⟨(s : Int), (e : Int)⟩ → s ≤ e → e ≤ l.length → (m = true → s < e) → (∀ j, s ≤ j → (h : j < e) → (h' : j < l.length) → brk l[j] = (m && decide (j + 1 = e))) → m = decide (p + 1 < B.length) →
        (∀ k', k ≤ k' + 303 → colophonlaw05_ParaCovers.l0 k' l B B (B.length : Int) ((p + 1 : Nat) : Int) = some true) →
        colophonlaw05_ParaCovers.l0 (k + 2) l B B (B.length : Int) (p : Int) = some true := by
      intro e m hrd he1 he2 hme hno hm H
      have hin := covers_in l hl B hBl p s e m he1 he2 hc hpl (fun j h1 h2 => hno j h1 h2 (by omega)) hm (some true) (e - s) k s rfl (Nat.le_refl _) he1 (by omega) (fun k' hk' => H k' (by omega))
      have hj2 : colophonlaw05_ParaCovers.j2 (k + 1) l B (p : Int) B (B.length : Int) (p : Int) false (s : Int) (e : Int) = some true := by
        simp only [colophonlaw05_ParaCovers.j2]
        rw [if_neg (by decide)]
        exact hin
      rw [show k + 2 = (k + 1) + 1 from rfl, colophonlaw05_ParaCovers.l0]
      simp only [hrd]
      rw [if_pos (by omega), if_pos (by omega), if_pos (by omega), if_neg (by omega), wr1 (by omega)]
      have hlast : (if ((p + 1 : Nat) : Int) < (B.length : Int) then colophonlaw05_ParaCovers.j2 (k + 1) l B (p : Int) B (B.length : Int) (p : Int) ((s : Int) == (e : Int)) (s : Int) (e : Int) else colophonlaw05_ParaCovers.j2 (k + 1) l B (p : Int) B (B.length : Int) (p : Int) false (s : Int) (e : Int)) = some true := by
        by_cases hp1 : p + 1 < B.length
        · rw [if_pos (by omega)]
          have : s < e := hme (by rw [hm, decide_eq_true hp1])
          rw [show ((s : Int) == (e : Int)) = false from by simp; omega]
          exact hj2
        · rw [if_neg (by omega)]
          exact hj2
      by_cases hp0 : p = 0
      · rw [if_neg (by omega)]
        exact hlast
      · obtain ⟨q, rfl⟩ : ∃ q, p = q + 1 := ⟨p - 1, by omega⟩
        rw [if_pos (by omega), wm1 (by omega), if_pos (by omega), if_pos (by omega)]
        have hpv : (rd_T38 B (q : Int)).f1 = (s : Int) := by
          have := hprev (by omega)
          rw [Nat.add_sub_cancel] at this
          simpa [rd_T38] using this
        rw [if_pos hpv.symm]
        exact hlast
    have hrdB : ∀ x t, B.drop p = x :: t → rd_T38 B (p : Int) = x ∧ B.length = p + 1 + t.length ∧ B.drop (p + 1) = t := by
      intro x t h
      have h1 := List.drop_eq_getElem_cons hpl
      rw [h] at h1
      obtain ⟨h2, h3⟩ := List.cons.inj h1
      refine ⟨?_, ?_, h3.symm⟩
      · simp only [rd_T38, Int.toNat_natCast, List.getD_eq_getElem?_getD, List.getElem?_eq_getElem hpl, Option.getD_some]
        exact h2.symm
      · have := congrArg List.length h3
        simp only [List.length_drop] at this
        omega
    rcases paras_stop l s (l.length - s) s rfl hs with ⟨h1, h2, h3, h4⟩ | ⟨e, h1, h2, h3, h4, h5, h6, h7⟩
    · rw [h1] at hB
      obtain ⟨r1, r2, r3⟩ := hrdB _ _ hB
      simp only [List.length_nil, Nat.add_zero] at r2
      refine main l.length false r1 hs (Nat.le_refl _) (fun h => by cases h) (fun j hj _ h => by rw [h4 j hj h]; rfl) (by rw [decide_eq_false (by omega)]) ?_
      intro k' hk'
      obtain ⟨k', rfl⟩ : ∃ m, k' = m + 1 := ⟨k' - 1, by omega⟩
      rw [colophonlaw05_ParaCovers.l0]
      rw [if_neg (by omega), own_find (by omega) l.length (Nat.le_refl _)]
      simp only [Option.bind_some]
      rw [if_pos (by unfold wrap64; omega)]
      rfl
    · rw [h7] at hB
      obtain ⟨r1, r2, r3⟩ := hrdB _ _ hB
      have hne : 0 < (paras (l.drop (e + 1)) (e + 1) (e + 1)).length := List.length_pos_iff.2 (paras_ne _ _ _)
      refine main (e + 1) true r1 (by omega) (by omega) (fun _ => by omega) (fun j hj hje hjl => ?_) (by rw [decide_eq_true (by omega)]) ?_
      · rw [Bool.true_and]
        rcases Nat.lt_or_ge j e with h | h
        · rw [h4 j hj h, decide_eq_false (by omega)]
        · obtain rfl : j = e := by omega
          rw [h3, decide_eq_true rfl]
      · intro k' hk'
        have hc1 : cnt l (e + 1) = p + 1 := by omega
        refine ih (e + 1) (p + 1) k' (by omega) (by omega) hc1 r3 (fun _ => ?_) (by omega)
        have : rd_T38 B (p : Int) = B.getD p z38 := by simp [rd_T38]
        rw [Nat.add_sub_cancel, ← this, r1]

theorem ParaCovers : colophonlaw05_ParaCovers.Pure := by
  intro l _ _ _
  refine ⟨100000, ?_⟩
  unfold colophonlaw05_ParaCovers.f
  rw [works5]
  simp only [Option.bind_some]
  rw [if_pos trivial]
  by_cases h : (l.length : Int) > 300
  · rw [if_pos h]
  · rw [if_neg h, own_bounds (by omega)]
    have hn : 0 < (paras l 0 0).length := List.length_pos_iff.2 (paras_ne _ _ _)
    have hl := paras_len l 0 0
    have h0 := paras_head l 0 0
    have h1 := paras_last l 0 0
    simp only [Option.bind_some]
    have e1 : wrap64 (((paras l 0 0).length : Int) - 1) = (((paras l 0 0).length - 1 : Nat) : Int) := by unfold wrap64; omega
    rw [if_neg (by omega), if_pos (by omega), if_pos (by simpa [rd_T38] using h0), e1, if_pos (by omega), if_pos (by omega)]
    have e2 : ((rd_T38 (paras l 0 0) (((paras l 0 0).length - 1 : Nat) : Int)).f1 != (l.length : Int)) = false := by
      rw [show rd_T38 (paras l 0 0) (((paras l 0 0).length - 1 : Nat) : Int) = (paras l 0 0).getD ((paras l 0 0).length - 1) z38 from by simp [rd_T38], h1, Nat.zero_add]
      simp
    rw [e2, show (100000 : Nat) = 99999 + 1 from rfl, colophonlaw05_ParaCovers.j0, if_neg (by decide)]
    exact covers_from l (by omega) _ (by omega) 301 0 0 99999 (by omega) (by omega) (cnt_zero l) rfl (fun h => absurd h (by decide)) (by omega)
end Go.Proofs.Ytddhhncjfcolcaa.Pure
