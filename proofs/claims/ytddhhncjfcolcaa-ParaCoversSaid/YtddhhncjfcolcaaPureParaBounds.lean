/- ParaBounds, over numbers and lists alone: the paragraphs by the places behind separators are the reference's, which counts breaks; and so is the number of a place's paragraph. -/
import Derived.Test.YtddhhncjfcolcaaFx13
import Derived.Test.YtddhhncjfcolcaaPureUcdClasses
import Derived.Test.YtddhhncjfcolcaaPureParaLines
namespace Go.Proofs.Ytddhhncjfcolcaa.Pure
open Go.RowKit Go.Proofs.Ytddhhncjfcolcaa.F Go.Proofs.YtddhhncjfcolcaaW.PrintWords Go.Proofs.YtddhhncjfcolcaaW.PrintLast

def brk (x : Int) : Bool := decide (clsOf x = 11)
/-- How many breaks stand among the first i. -/
def cnt (l : List Int) (i : Nat) : Nat := (l.take i).countP brk
theorem cnt_zero (l : List Int) : cnt l 0 = 0 := by simp [cnt]
theorem cnt_hit {l : List Int} {i : Nat} (h : i < l.length) (hb : brk l[i] = true) : cnt l (i + 1) = cnt l i + 1 := by
  unfold cnt
  rw [List.take_succ_eq_append_getElem h, List.countP_append, List.countP_cons_of_pos hb, List.countP_nil]
theorem cnt_miss {l : List Int} {i : Nat} (h : i < l.length) (hb : brk l[i] = false) : cnt l (i + 1) = cnt l i := by
  unfold cnt
  rw [List.take_succ_eq_append_getElem h, List.countP_append, List.countP_cons_of_neg (by rw [hb]; decide), List.countP_nil]
  rfl
theorem cnt_step {l : List Int} {i : Nat} (h : i < l.length) : cnt l i ≤ cnt l (i + 1) := by
  cases hb : brk l[i] with
  | true => rw [cnt_hit h hb]; omega
  | false => rw [cnt_miss h hb]; omega
theorem cnt_mono {l : List Int} : ∀ (d i : Nat), i + d ≤ l.length → cnt l i ≤ cnt l (i + d)
  | 0, i, _ => Nat.le_refl _
  | d + 1, i, h => Nat.le_trans (cnt_mono d i (by omega)) (cnt_step (by omega))
theorem cnt_le {l : List Int} {i j : Nat} (h : i ≤ j) (hj : j ≤ l.length) : cnt l i ≤ cnt l j := by
  have := cnt_mono (l := l) (j - i) i (by omega)
  rwa [show i + (j - i) = j by omega] at this
theorem cnt_len (l : List Int) (i : Nat) : cnt l i ≤ i := Nat.le_trans List.countP_le_length (by simp only [List.length_take]; omega)
theorem getD_at {l : List Int} {i : Nat} (h : i < l.length) : l.getD i 0 = l[i] := by rw [List.getD_eq_getElem?_getD, List.getElem?_eq_getElem h, Option.getD_some]
theorem ends_cnt {l : List Int} : ∀ (i : Nat), i ≤ l.length → (ends l i).length = cnt l i
  | 0, _ => by rw [cnt_zero]; rfl
  | i + 1, h => by
    have ih := ends_cnt (l := l) i (by omega)
    have hlt : i < l.length := by omega
    by_cases hb : clsOf (l.getD i 0) = 11
    · have hb' : brk l[i] = true := by rw [← getD_at hlt]; exact decide_eq_true hb
      rw [ends_hit hb, List.length_append, List.length_singleton, ih, cnt_hit hlt hb']
    · have hb' : brk l[i] = false := by rw [← getD_at hlt]; exact decide_eq_false hb
      rw [ends_miss hb, ih, cnt_miss hlt hb']

theorem ref_break {x : Int} {k : Nat} (hk : 147 < k) (hw : wrap64 x = x) : colophonref04_Break.f k x = some (brk x) := by
  unfold colophonref04_Break.f
  rw [ref_class hk hw]
  simp only [Option.bind_some, brk]
  by_cases h : clsOf x = 11
  · rw [h]; rfl
  · rw [decide_eq_false h]
    exact congrArg some (by simpa using h)

/-- The reference's count. -/
theorem ref_breaks_loop (l : List Int) (hl : l.length ≤ 1000) (hw : ∀ x ∈ l, wrap64 x = x) : ∀ (d k i : Nat), l.length - i = d → i ≤ l.length → d + 150 ≤ k →
    colophonref04_Breaks.l0 k l (cnt l i : Int) (i : Int) = some (cnt l l.length : Int) := by
  intro d
  induction d with
  | zero =>
    intro k i hd hi hk
    obtain ⟨k, rfl⟩ : ∃ m, k = m + 1 := ⟨k - 1, by omega⟩
    obtain rfl : i = l.length := by omega
    simp only [colophonref04_Breaks.l0]
    rw [if_neg (by omega)]
  | succ d ih =>
    intro k i hd hi hk
    obtain ⟨k, rfl⟩ : ∃ m, k = m + 1 := ⟨k - 1, by omega⟩
    have hlt : i < l.length := by omega
    have hc := cnt_len l i
    simp only [colophonref04_Breaks.l0, rd_at hlt]
    rw [if_pos (by omega), if_pos (by omega), ref_break (by omega) (hw _ (List.getElem_mem hlt)), wr1 (i := i) (by omega)]
    simp only [Option.bind_some]
    cases hb : brk l[i] with
    | true =>
      rw [if_pos rfl, wr1 (by omega)]
      have := ih k (i + 1) (by omega) (by omega) (by omega)
      rw [cnt_hit hlt hb] at this
      exact this
    | false =>
      rw [if_neg (by decide)]
      have := ih k (i + 1) (by omega) (by omega) (by omega)
      rw [cnt_miss hlt hb] at this
      exact this
theorem ref_breaks {l : List Int} (hl : l.length ≤ 1000) (hw : ∀ x ∈ l, wrap64 x = x) {k : Nat} (hk : 1150 ≤ k) : colophonref04_Breaks.f k l = some (cnt l l.length : Int) := by
  have := ref_breaks_loop l hl hw l.length k 0 (by omega) (by omega) (by omega)
  rw [cnt_zero] at this
  exact this
theorem ref_breaks_at {l : List Int} (hl : l.length ≤ 1000) (hw : ∀ x ∈ l, wrap64 x = x) {k : Nat} (hk : 1150 ≤ k) (i : Nat) (hi : i ≤ l.length) : colophonref04_Breaks.f k (l.take ((i : Int)).toNat) = some (cnt l i : Int) := by
  rw [Int.toNat_natCast, ref_breaks (by simp only [List.length_take]; omega) (fun x hx => hw x (List.mem_of_mem_take hx)) hk]
  unfold cnt
  rw [List.take_length]

/-- Where the paragraph that holds i ends. -/
def stop : List Int → Nat → Nat
  | [], i => i
  | x :: r, i => if brk x = true then i + 1 else stop r (i + 1)
/-- The paragraphs from i on, the first begun at s. -/
def paras : List Int → Nat → Nat → List S38
  | [], i, s => [⟨(s : Int), (i : Int)⟩]
  | x :: r, i, s => if brk x = true then ⟨(s : Int), ((i + 1 : Nat) : Int)⟩ :: paras r (i + 1) (i + 1) else paras r (i + 1) s

theorem own_paras (l : List Int) : ∀ (d i : Nat) (s : Nat), l.length - i = d → i ≤ l.length → lst 0 (ends l i) = (s : Int) →
    segs 0 (ends l l.length) ++ [⟨lst 0 (ends l l.length), (l.length : Int)⟩] = segs 0 (ends l i) ++ paras (l.drop i) i s := by
  intro d
  induction d with
  | zero =>
    intro i s hd hi hs
    obtain rfl : i = l.length := by omega
    rw [List.drop_eq_nil_of_le (Nat.le_refl _), hs]
    rfl
  | succ d ih =>
    intro i s hd hi hs
    have hlt : i < l.length := by omega
    rw [List.drop_eq_getElem_cons hlt]
    by_cases hb : clsOf (l.getD i 0) = 11
    · have h := ends_hit hb
      rw [ih (i + 1) (i + 1) (by omega) (by omega) (by rw [h, lst_snoc]; omega), h, segs_snoc, List.append_assoc, hs]
      have hb' : brk l[i] = true := by rw [← getD_at hlt]; exact decide_eq_true hb
      simp only [paras, hb', if_true, List.singleton_append]
      rfl
    · have h := ends_miss hb
      rw [ih (i + 1) s (by omega) (by omega) (by rw [h, hs]), h]
      have hb' : brk l[i] = false := by rw [← getD_at hlt]; exact decide_eq_false hb
      simp only [paras, hb', if_false, Bool.false_eq_true]

theorem own_bounds {l : List Int} (hl : l.length ≤ 1000000) : para_Bounds.f l = some (paras l 0 0) := by
  unfold para_Bounds.f
  rw [if_pos hl, own_paras l l.length 0 0 (by omega) (by omega) rfl]
  rfl

theorem stop_ge : ∀ (r : List Int) (i : Nat), i ≤ stop r i ∧ stop r i ≤ i + r.length
  | [], i => ⟨Nat.le_refl _, Nat.le_refl _⟩
  | x :: r, i => by
    have := stop_ge r (i + 1)
    simp only [stop, List.length_cons]
    split <;> omega
/-- From s on: either no break: one paragraph to the end; or the first break, and what comes behind it. -/
theorem paras_stop (l : List Int) (s : Nat) : ∀ (d i : Nat), l.length - i = d → i ≤ l.length →
    (paras (l.drop i) i s = [⟨(s : Int), (l.length : Int)⟩] ∧ stop (l.drop i) i = l.length ∧ cnt l l.length = cnt l i ∧ (∀ j, i ≤ j → (h : j < l.length) → brk l[j] = false)) ∨
    (∃ e, i ≤ e ∧ ∃ h : e < l.length, brk l[e] = true ∧ (∀ j, i ≤ j → (h : j < e) → brk (l[j]'(by omega)) = false) ∧ stop (l.drop i) i = e + 1 ∧ cnt l (e + 1) = cnt l i + 1 ∧ paras (l.drop i) i s = ⟨(s : Int), ((e + 1 : Nat) : Int)⟩ :: paras (l.drop (e + 1)) (e + 1) (e + 1)) := by
  intro d
  induction d with
  | zero =>
    intro i hd hi
    obtain rfl : i = l.length := by omega
    rw [List.drop_eq_nil_of_le (Nat.le_refl _)]
    exact .inl ⟨rfl, rfl, rfl, fun j h1 h2 => by omega⟩
  | succ d ih =>
    intro i hd hi
    have hlt : i < l.length := by omega
    rw [List.drop_eq_getElem_cons hlt]
    cases hb : brk l[i] with
    | true =>
      refine .inr ⟨i, Nat.le_refl _, hlt, hb, fun j h1 h2 => by omega, ?_, cnt_hit hlt hb, ?_⟩
      · simp only [stop, hb, if_true]
      · simp only [paras, hb, if_true]
    | false =>
      simp only [paras, stop, hb, if_false, Bool.false_eq_true]
      rcases ih (i + 1) (by omega) (by omega) with ⟨h1, h2, h3, h4⟩ | ⟨e, h1, h2, h3, h4, h5, h6, h7⟩
      · refine .inl ⟨h1, h2, by rw [h3, cnt_miss hlt hb], fun j hj hlj => ?_⟩
        rcases Nat.lt_or_ge i j with h | h
        · exact h4 j h hlj
        · obtain rfl : j = i := by omega
          exact hb
      · refine .inr ⟨e, by omega, h2, h3, fun j hj hlj => ?_, h5, by rw [h6, cnt_miss hlt hb], h7⟩
        rcases Nat.lt_or_ge i j with h | h
        · exact h4 j h hlj
        · obtain rfl : j = i := by omega
          exact hb

/-- The reference's end of a paragraph. -/
theorem ref_end (l : List Int) (hl : l.length ≤ 1000) (hw : ∀ x ∈ l, wrap64 x = x) (s : Nat) (hs : s ≤ l.length) (x7 : Int) : ∀ (d k i : Nat), l.length - i = d → i ≤ l.length → d + 1200 ≤ k →
    colophonref04_Para.l1 k l (s : Int) x7 (i : Int) = some ((cnt l s : Int), x7, (stop (l.drop i) i : Int)) := by
  intro d
  induction d with
  | zero =>
    intro k i hd hi hk
    obtain ⟨k, rfl⟩ : ∃ m, k = m + 1 := ⟨k - 1, by omega⟩
    obtain rfl : i = l.length := by omega
    simp only [colophonref04_Para.l1]
    rw [if_neg (by omega), if_pos (by omega), if_pos (by omega), ref_breaks_at hl hw (by omega) s hs, List.drop_eq_nil_of_le (Nat.le_refl _)]
    rfl
  | succ d ih =>
    intro k i hd hi hk
    obtain ⟨k, rfl⟩ : ∃ m, k = m + 1 := ⟨k - 1, by omega⟩
    have hlt : i < l.length := by omega
    simp only [colophonref04_Para.l1, rd_at hlt]
    rw [if_pos (by omega), if_pos (by omega), ref_break (by omega) (hw _ (List.getElem_mem hlt)), wr1 (by omega), List.drop_eq_getElem_cons hlt]
    simp only [Option.bind_some, stop]
    cases hb : brk l[i] with
    | true =>
      rw [if_pos rfl, if_pos rfl, if_pos (by omega), if_pos (by omega), ref_breaks_at hl hw (by omega) s hs]
      rfl
    | false =>
      rw [if_neg (by decide), if_neg (by decide)]
      exact ih k (i + 1) (by omega) (by omega) (by omega)
theorem ref_para (l : List Int) (hl : l.length ≤ 1000) (hw : ∀ x ∈ l, wrap64 x = x) (s : Nat) (hs : s ≤ l.length) : ∀ (i k : Nat), i ≤ s → i + 2500 ≤ k →
    ∃ x7, colophonref04_Para.l0 k l (s : Int) (i : Int) = some ((cnt l s : Int), x7, (stop (l.drop s) s : Int)) := by
  intro i
  induction i with
  | zero =>
    intro k hi hk
    obtain ⟨k, rfl⟩ : ∃ m, k = m + 2 := ⟨k - 2, by omega⟩
    simp only [colophonref04_Para.l0]
    rw [if_neg (by omega)]
    simp only [colophonref04_Para.j1]
    exact ⟨_, ref_end l hl hw s hs _ (l.length - s) k s rfl hs (by omega)⟩
  | succ i ih =>
    intro k hi hk
    obtain ⟨k, rfl⟩ : ∃ m, k = m + 1 := ⟨k - 1, by omega⟩
    have hlt : i < l.length := by omega
    rw [colophonref04_Para.l0]
    rw [if_pos (by omega), wm1 (by omega), if_pos (by omega), if_pos (by omega), rd_at hlt, ref_break (by omega) (hw _ (List.getElem_mem hlt))]
    simp only [Option.bind_some]
    cases hb : brk l[i] with
    | true =>
      rw [if_pos rfl]
      obtain ⟨k, rfl⟩ : ∃ m, k = m + 1 := ⟨k - 1, by omega⟩
      simp only [colophonref04_Para.j1]
      exact ⟨_, ref_end l hl hw s hs _ (l.length - s) k s rfl hs (by omega)⟩
    | false =>
      rw [if_neg (by decide)]
      exact ih k (by omega) (by omega)

/-- s is where paragraph p begins. -/
def begins (l : List Int) (s p : Nat) : Prop := s ≤ l.length ∧ cnt l s = p ∧ ∀ j, j < s → cnt l j < p

theorem ref_scan (l : List Int) (hl : l.length ≤ 60) (hw : ∀ x ∈ l, wrap64 x = x) (s p : Nat) (hb : begins l s p) (acc : List S38) (r : Option (List S38)) : ∀ (d k i : Nat), s - i = d → i ≤ s → d + 3000 ≤ k → acc.length ≤ 1000 →
    (∀ k', k ≤ k' + d + 1 → colophonref05_Bounds.l0 k' l (acc ++ [⟨(s : Int), (stop (l.drop s) s : Int)⟩]) ((p + 1 : Nat) : Int) = r) → colophonref05_Bounds.l1 k l acc (p : Int) (i : Int) = r := by
  obtain ⟨b1, b2, b3⟩ := hb
  have hp := cnt_len l s
  intro d
  induction d with
  | zero =>
    intro k i hd hi hk ha H
    obtain ⟨k, rfl⟩ : ∃ m, k = m + 1 := ⟨k - 1, by omega⟩
    obtain rfl : i = s := by omega
    simp only [colophonref05_Bounds.l1]
    rw [if_pos (by omega), if_pos (by omega), ref_breaks_at (by omega) hw (by omega) i b1]
    simp only [Option.bind_some]
    rw [if_neg (by omega)]
    obtain ⟨x7, hx⟩ := ref_para l (by omega) hw i b1 i k (Nat.le_refl _) (by omega)
    unfold colophonref04_Para.f
    rw [hx]
    simp only [Option.bind_some]
    rw [if_pos (by omega), wr1 (by omega)]
    exact H k (by omega)
  | succ d ih =>
    intro k i hd hi hk ha H
    obtain ⟨k, rfl⟩ : ∃ m, k = m + 1 := ⟨k - 1, by omega⟩
    simp only [colophonref05_Bounds.l1]
    have := b3 i (by omega)
    rw [if_pos (by omega), if_pos (by omega), ref_breaks_at (by omega) hw (by omega) i (by omega)]
    simp only [Option.bind_some]
    rw [if_pos (by omega), wr1 (by omega)]
    exact ih k (i + 1) (by omega) (by omega) (by omega) ha (fun k' hk' => H k' (by omega))

theorem ref_bounds_from (l : List Int) (hl : l.length ≤ 60) (hw : ∀ x ∈ l, wrap64 x = x) : ∀ (d s p : Nat) (acc : List S38) (k : Nat), l.length - s < d → begins l s p → acc.length ≤ s → 70 * d + 4000 ≤ k →
    colophonref05_Bounds.l0 k l acc (p : Int) = some (acc ++ paras (l.drop s) s s) := by
  intro d
  induction d with
  | zero => intro s p acc k hd; omega
  | succ d ih =>
    intro s p acc k hd hb ha hk
    have hb' := hb
    obtain ⟨b1, b2, b3⟩ := hb
    obtain ⟨k, rfl⟩ : ∃ m, k = m + 1 := ⟨k - 1, by omega⟩
    have hc := cnt_le (l := l) b1 (Nat.le_refl _)
    simp only [colophonref05_Bounds.l0]
    rw [ref_breaks (by omega) hw (by omega)]
    simp only [Option.bind_some]
    rw [if_pos (by omega)]
    refine ref_scan l hl hw s p hb' acc _ s k 0 (by omega) (by omega) (by omega) (by omega) ?_
    intro k' hk'
    rcases paras_stop l s (l.length - s) s rfl b1 with ⟨h1, h2, h3, h4⟩ | ⟨e, h1, h2, h3, h4, h5, h6, h7⟩
    · rw [h2, h1]
      obtain ⟨k', rfl⟩ : ∃ m, k' = m + 1 := ⟨k' - 1, by omega⟩
      simp only [colophonref05_Bounds.l0]
      rw [ref_breaks (by omega) hw (by omega)]
      simp only [Option.bind_some]
      rw [if_neg (by omega)]
    · rw [h5, h7]
      have hn : begins l (e + 1) (p + 1) := ⟨by omega, by omega, fun j hj => by have := cnt_le (l := l) (show j ≤ e by omega) (by omega); have := cnt_hit h2 h3; omega⟩
      rw [ih (e + 1) (p + 1) _ k' (by omega) hn (by simp only [List.length_append, List.length_singleton]; omega) (by omega), List.append_assoc, List.singleton_append]

theorem ref_bounds {l : List Int} (hl : l.length ≤ 60) (hw : ∀ x ∈ l, wrap64 x = x) {k : Nat} (hk : 10000 ≤ k) : colophonref05_Bounds.f k l = some (paras l 0 0) := by
  have := ref_bounds_from l hl hw 61 0 0 [] k (by omega) ⟨by omega, cnt_zero l, fun j hj => by omega⟩ (by simp) (by omega)
  unfold colophonref05_Bounds.f
  simpa using this

theorem ends_split (l : List Int) : ∀ (d i : Nat), i + d ≤ l.length → ∃ r, ends l (i + d) = ends l i ++ r ∧ ∀ x ∈ r, (i : Int) < x
  | 0, i, _ => ⟨[], by simp, by simp⟩
  | d + 1, i, h => by
    obtain ⟨r, h1, h2⟩ := ends_split l d i (by omega)
    by_cases hb : clsOf (l.getD (i + d) 0) = 11
    · refine ⟨r ++ [((i + d : Nat) : Int) + 1], by rw [show i + (d + 1) = (i + d) + 1 from rfl, ends_hit hb, h1, List.append_assoc], fun x hx => ?_⟩
      rcases List.mem_append.1 hx with hx | hx
      · exact h2 x hx
      · simp only [List.mem_singleton] at hx
        omega
    · exact ⟨r, by rw [show i + (d + 1) = (i + d) + 1 from rfl, ends_miss hb, h1], h2⟩
theorem ends_low (l : List Int) : ∀ (i : Nat), i ≤ l.length → ∀ x ∈ ends l i, x ≤ (i : Int)
  | 0, _ => by intro x hx; simp [ends] at hx
  | i + 1, h => by
    intro x hx
    by_cases hb : clsOf (l.getD i 0) = 11
    · rw [ends_hit hb] at hx
      rcases List.mem_append.1 hx with hx | hx
      · have := ends_low l i (by omega) x hx
        omega
      · simp only [List.mem_singleton] at hx
        omega
    · rw [ends_miss hb] at hx
      have := ends_low l i (by omega) x hx
      omega
theorem own_find {l : List Int} (hl : l.length ≤ 1000000) (i : Nat) (hi : i ≤ l.length) : para_Find.f l (i : Int) = some ((cnt l i : Int), 0) := by
  unfold para_Find.f
  rw [if_pos hl, if_neg (by omega)]
  obtain ⟨r, h1, h2⟩ := ends_split l (l.length - i) i (by omega)
  rw [show i + (l.length - i) = l.length by omega] at h1
  have h3 := ends_low l i hi
  rw [h1]
  cases r with
  | nil => rw [List.append_nil, leads_all h3, ends_cnt i hi]
  | cons x r => rw [leads_stop h3 (h2 x (by simp)), ends_cnt i hi]

theorem ParaBounds : colophonlaw05_ParaBounds.Pure := by
  intro l a1 _ _ hwf w1
  refine ⟨20000, ?_⟩
  unfold colophonlaw05_ParaBounds.f
  simp only [colophonlaw05_names.f, Option.bind_some]
  by_cases h : (l.length : Int) > 60
  · rw [if_pos h]
  · rw [if_neg h]
    have hl : l.length ≤ 60 := by omega
    have hw : ∀ x ∈ l, wrap64 x = x := fun x hx => wrap64_i32 (hwf x hx)
    have hf : ∃ t, para_Find.f l a1 = some t ∧ colophonref05_Find.f 20000 l a1 = some t := by
      unfold colophonref05_Find.f
      by_cases h1 : a1 < 0
      · rw [if_pos h1]
        refine ⟨(0, 4), ?_, rfl⟩
        unfold para_Find.f
        rw [if_pos (by omega), if_pos (by omega)]
      · rw [if_neg h1]
        by_cases h2 : a1 > (l.length : Int)
        · rw [if_pos h2]
          refine ⟨(0, 4), ?_, rfl⟩
          unfold para_Find.f
          rw [if_pos (by omega), if_pos (by omega)]
        · rw [if_neg h2]
          obtain ⟨i, rfl⟩ : ∃ i : Nat, a1 = (i : Int) := ⟨a1.toNat, by omega⟩
          refine ⟨((cnt l i : Int), 0), own_find (by omega) i (by omega), ?_⟩
          rw [if_pos (by omega), if_pos (by omega), ref_breaks_at (by omega) hw (by decide) i (by omega)]
          rfl
    obtain ⟨t, h1, h2⟩ := hf
    have hsm : (paras l 0 0).length ≤ 281474976710656 := by
      have e := own_bounds (l := l) (by omega)
      unfold para_Bounds.f at e
      rw [if_pos (by omega)] at e
      rw [← Option.some.inj e, List.length_append, segs_len, List.length_singleton]
      have := ends_len l l.length
      omega
    have hsm2 : (paras l 0 0).length < 20000 := by
      have e := own_bounds (l := l) (by omega)
      unfold para_Bounds.f at e
      rw [if_pos (by omega)] at e
      rw [← Option.some.inj e, List.length_append, segs_len, List.length_singleton]
      have := ends_len l l.length
      omega
    rw [h1, h2, own_bounds (by omega), ref_bounds hl hw (by decide)]
    simp only [Option.bind_some]
    rw [if_pos trivial, same_self _ hsm _ hsm2]
    simp
end Go.Proofs.Ytddhhncjfcolcaa.Pure
