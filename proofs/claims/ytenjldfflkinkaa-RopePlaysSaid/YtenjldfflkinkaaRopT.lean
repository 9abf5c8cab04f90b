/- Ropes as trees, over lists alone: what join, cut, glue and grown make; that depths stay even. -/
import Derived.KernelRfl
namespace Go.Proofs.Ytenjldfflkinkaa.Rop
set_option linter.unusedVariables false
set_option linter.unusedSimpArgs false

inductive RT where
  | nil
  | node (l : RT) (c : Int) (r : RT)
namespace RT
def sz : RT → Nat
  | nil => 0
  | node l _ r => sz l + sz r + 1
def dp : RT → Nat
  | nil => 0
  | node l _ r => 1 + max (dp l) (dp r)
/-- how many separators -/
def bk (sep : Int → Bool) : RT → Nat
  | nil => 0
  | node l c r => bk sep l + bk sep r + if sep c = true then 1 else 0
def toL : RT → List Int
  | nil => []
  | node l c r => toL l ++ c :: toL r
theorem toL_len : ∀ t, (toL t).length = sz t
  | nil => rfl
  | node l c r => by
    simp only [toL, sz, List.length_append, List.length_cons, toL_len l, toL_len r]
    omega
theorem dp_le : ∀ t, dp t ≤ sz t
  | nil => Nat.le_refl _
  | node l c r => by
    have := dp_le l
    have := dp_le r
    simp only [dp, sz]
    omega
theorem bk_count (sep : Int → Bool) : ∀ t, bk sep t = (toL t).countP sep
  | nil => rfl
  | node l c r => by
    simp only [bk, toL, List.countP_append, List.countP_cons, bk_count sep l, bk_count sep r]
    omega
theorem bk_le (sep : Int → Bool) (t : RT) : bk sep t ≤ sz t := by
  rw [bk_count, ← toL_len]
  exact List.countP_le_length
theorem dp_zero {t : RT} : dp t = 0 ↔ t = nil := by
  cases t with
  | nil => simp [dp]
  | node l c r => simp only [dp]; constructor <;> intro h <;> first | omega | cases h
theorem sz_zero {t : RT} : sz t = 0 ↔ t = nil := by
  cases t with
  | nil => simp [sz]
  | node l c r => simp only [sz]; constructor <;> intro h <;> first | omega | cases h
def Bal : RT → Prop
  | nil => True
  | node l _ r => Bal l ∧ Bal r ∧ dp l ≤ dp r + 1 ∧ dp r ≤ dp l + 1
/-- A balanced one is not deeper than it may be. -/
theorem deep_ok : ∀ t, Bal t → 2 ^ (dp t / 2) ≤ sz t + 1
  | nil, _ => by simp [dp, sz]
  | node l c r, ⟨hl, hr, h1, h2⟩ => by
    have il := deep_ok l hl
    have ir := deep_ok r hr
    simp only [dp, sz]
    -- the half of the depth
    by_cases hz : dp l = 0 ∧ dp r = 0
    · obtain ⟨z1, z2⟩ := hz
      simp [z1, z2]
    · have key : ∀ a d s : Nat, 2 ^ (d / 2) ≤ s + 1 → a ≤ d / 2 → 2 ^ a ≤ s + 1 := fun a d s h ha => Nat.le_trans (Nat.pow_le_pow_right (by omega) ha) h
      obtain ⟨q, hq⟩ : ∃ q, (1 + max (dp l) (dp r)) / 2 = q + 1 := ⟨(1 + max (dp l) (dp r)) / 2 - 1, by omega⟩
      have kl := key q (dp l) (sz l) il (by omega)
      have kr := key q (dp r) (sz r) ir (by omega)
      rw [hq, Nat.pow_succ]
      omega
/-! ### even -/
/-- a node of its parts, turned -/
def even (l : RT) (c : Int) (r : RT) : RT :=
  if dp r + 1 < dp l then
    match l with
    | nil => node nil c r
    | node ll lc lr => if dp lr ≤ dp ll then node ll lc (node lr c r) else
      match lr with
      | nil => node ll lc (node nil c r)
      | node a m b => node (node ll lc a) m (node b c r)
  else if dp l + 1 < dp r then
    match r with
    | nil => node l c nil
    | node rl rc rr => if dp rl ≤ dp rr then node (node l c rl) rc rr else
      match rl with
      | nil => node (node l c nil) rc rr
      | node a m b => node (node l c a) m (node b rc rr)
  else node l c r
theorem even_toL (l : RT) (c : Int) (r : RT) : toL (even l c r) = toL l ++ c :: toL r := by
  unfold even
  split
  · split
    · rfl
    · split
      · simp [toL]
      · split
        · simp [toL]
        · simp [toL]
  · split
    · split
      · rfl
      · split
        · simp [toL]
        · split
          · simp [toL]
          · simp [toL]
    · rfl
theorem even_bal {l r : RT} (c : Int) (hl : Bal l) (hr : Bal r) (h1 : dp l ≤ dp r + 2) (h2 : dp r ≤ dp l + 2) : Bal (even l c r) ∧ max (dp l) (dp r) ≤ dp (even l c r) ∧ dp (even l c r) ≤ 1 + max (dp l) (dp r) := by
  unfold even
  split
  · rename_i h
    cases l with
    | nil => simp [dp] at h
    | node ll lc lr =>
      obtain ⟨b1, b2, b3, b4⟩ := hl
      simp only [dp] at h h1 h2 ⊢
      by_cases hc : dp lr ≤ dp ll
      · rw [if_pos hc]
        simp only [Bal, dp]
        exact ⟨⟨b1, ⟨b2, hr, by omega, by omega⟩, by omega, by omega⟩, by omega, by omega⟩
      · rw [if_neg hc]
        cases lr with
        | nil => simp [dp] at hc
        | node a m b =>
          obtain ⟨d1, d2, d3, d4⟩ := b2
          simp only [dp] at *
          simp only [Bal, dp]
          exact ⟨⟨⟨b1, d1, by omega, by omega⟩, ⟨d2, hr, by omega, by omega⟩, by omega, by omega⟩, by omega, by omega⟩
  · split
    · rename_i h0 h
      cases r with
      | nil => simp [dp] at h
      | node rl rc rr =>
        obtain ⟨b1, b2, b3, b4⟩ := hr
        simp only [dp] at h h1 h2 ⊢
        by_cases hc : dp rl ≤ dp rr
        · rw [if_pos hc]
          simp only [Bal, dp]
          exact ⟨⟨⟨hl, b1, by omega, by omega⟩, b2, by omega, by omega⟩, by omega, by omega⟩
        · rw [if_neg hc]
          cases rl with
          | nil => simp [dp] at hc
          | node a m b =>
            obtain ⟨d1, d2, d3, d4⟩ := b1
            simp only [dp] at *
            simp only [Bal, dp]
            exact ⟨⟨⟨hl, d1, by omega, by omega⟩, ⟨d2, b2, by omega, by omega⟩, by omega, by omega⟩, by omega, by omega⟩
    · rename_i h0 h
      simp only [Bal, dp]
      exact ⟨⟨hl, hr, by omega, by omega⟩, by omega, by omega⟩
theorem even_flat {l r : RT} {c : Int} (h1 : dp l ≤ dp r + 1) (h2 : dp r ≤ dp l + 1) : even l c r = node l c r := by
  unfold even
  rw [if_neg (by omega), if_neg (by omega)]
/-! ### join -/
def join (l : RT) (c : Int) (r : RT) : RT :=
  match l, r with
  | nil, nil => node nil c nil
  | nil, node rl rc rr => if 1 < dp (node rl rc rr) then even (join nil c rl) rc rr else node nil c (node rl rc rr)
  | node ll lc lr, nil => if 1 < dp (node ll lc lr) then even ll lc (join lr c nil) else node (node ll lc lr) c nil
  | node ll lc lr, node rl rc rr =>
    if dp (node rl rc rr) + 1 < dp (node ll lc lr) then even ll lc (join lr c (node rl rc rr))
    else if dp (node ll lc lr) + 1 < dp (node rl rc rr) then even (join (node ll lc lr) c rl) rc rr
    else node (node ll lc lr) c (node rl rc rr)
termination_by sz l + sz r
decreasing_by all_goals simp only [sz] <;> omega
theorem join_left {ll lr r : RT} {lc c : Int} (h : dp r + 1 < dp (node ll lc lr)) : join (node ll lc lr) c r = even ll lc (join lr c r) := by
  cases r with
  | nil => rw [join, if_pos (by simpa [dp] using h)]
  | node rl rc rr => rw [join, if_pos h]
theorem join_right {l rl rr : RT} {c rc : Int} (h : dp l + 1 < dp (node rl rc rr)) : join l c (node rl rc rr) = even (join l c rl) rc rr := by
  cases l with
  | nil => rw [join, if_pos (by simpa [dp] using h)]
  | node ll lc lr => rw [join, if_neg (by omega), if_pos h]
theorem join_mid {l r : RT} {c : Int} (h1 : dp l ≤ dp r + 1) (h2 : dp r ≤ dp l + 1) : join l c r = node l c r := by
  cases l with
  | nil =>
    cases r with
    | nil => rw [join]
    | node rl rc rr => rw [join, if_neg (by have : dp nil = 0 := rfl; omega)]
  | node ll lc lr =>
    cases r with
    | nil => rw [join, if_neg (by have : dp nil = 0 := rfl; omega)]
    | node rl rc rr => rw [join, if_neg (by omega), if_neg (by omega)]
theorem join_toL (n : Nat) : ∀ (l r : RT) (c : Int), sz l + sz r ≤ n → toL (join l c r) = toL l ++ c :: toL r := by
  induction n with
  | zero =>
    intro l r c h
    have e1 := sz_zero.1 (show sz l = 0 by omega)
    have e2 := sz_zero.1 (show sz r = 0 by omega)
    subst e1 e2
    rw [join_mid (Nat.zero_le _) (Nat.zero_le _)]
    rfl
  | succ n ih =>
    intro l r c h
    by_cases h1 : dp r + 1 < dp l
    · cases l with
      | nil => simp [dp] at h1
      | node ll lc lr =>
        simp only [sz] at h
        rw [join_left h1, even_toL, ih lr r c (by omega)]
        simp [toL]
    · by_cases h2 : dp l + 1 < dp r
      · cases r with
        | nil => simp [dp] at h2
        | node rl rc rr =>
          simp only [sz] at h
          rw [join_right h2, even_toL, ih l rl c (by omega)]
          simp [toL]
      · rw [join_mid (by omega) (by omega)]
        rfl
theorem toL_join (l : RT) (c : Int) (r : RT) : toL (join l c r) = toL l ++ c :: toL r := join_toL _ l r c (Nat.le_refl _)
theorem sz_join (l : RT) (c : Int) (r : RT) : sz (join l c r) = sz l + sz r + 1 := by
  rw [← toL_len, toL_join, List.length_append, List.length_cons, toL_len, toL_len]
  omega
theorem join_bal_n (n : Nat) : ∀ (l r : RT) (c : Int), sz l + sz r ≤ n → Bal l → Bal r → Bal (join l c r) ∧ max (dp l) (dp r) ≤ dp (join l c r) ∧ dp (join l c r) ≤ 1 + max (dp l) (dp r) := by
  induction n with
  | zero =>
    intro l r c h hl hr
    have e1 := sz_zero.1 (show sz l = 0 by omega)
    have e2 := sz_zero.1 (show sz r = 0 by omega)
    subst e1 e2
    rw [join_mid (Nat.zero_le _) (Nat.zero_le _)]
    simp [Bal, dp]
  | succ n ih =>
    intro l r c h hl hr
    by_cases h1 : dp r + 1 < dp l
    · cases l with
      | nil => simp [dp] at h1
      | node ll lc lr =>
        simp only [sz] at h
        obtain ⟨b1, b2, b3, b4⟩ := hl
        obtain ⟨j1, j2, j3⟩ := ih lr r c (by omega) b2 hr
        rw [join_left h1]
        simp only [dp] at h1
        obtain ⟨e1, e2, e3⟩ := even_bal lc b1 j1 (by omega) (by omega)
        refine ⟨e1, ?_⟩
        simp only [dp]
        by_cases hf : dp ll ≤ dp (join lr c r) + 1 ∧ dp (join lr c r) ≤ dp ll + 1
        · rw [even_flat hf.1 hf.2]
          simp only [dp]
          omega
        · omega
    · by_cases h2 : dp l + 1 < dp r
      · cases r with
        | nil => simp [dp] at h2
        | node rl rc rr =>
          simp only [sz] at h
          obtain ⟨b1, b2, b3, b4⟩ := hr
          obtain ⟨j1, j2, j3⟩ := ih l rl c (by omega) hl b1
          rw [join_right h2]
          simp only [dp] at h2
          obtain ⟨e1, e2, e3⟩ := even_bal rc j1 b2 (by omega) (by omega)
          refine ⟨e1, ?_⟩
          simp only [dp]
          by_cases hf : dp (join l c rl) ≤ dp rr + 1 ∧ dp rr ≤ dp (join l c rl) + 1
          · rw [even_flat hf.1 hf.2]
            simp only [dp]
            omega
          · omega
      · rw [join_mid (by omega) (by omega)]
        simp only [Bal, dp]
        exact ⟨⟨hl, hr, by omega, by omega⟩, by omega, by omega⟩
theorem join_bal {l r : RT} (c : Int) (hl : Bal l) (hr : Bal r) : Bal (join l c r) := (join_bal_n _ l r c (Nat.le_refl _) hl hr).1
/-! ### cut -/
def cut : RT → Int → RT × RT
  | nil, _ => (nil, nil)
  | node l c r, at_ => if at_ ≤ (sz l : Int) then ((cut l at_).1, join (cut l at_).2 c r) else (join l c (cut r (at_ - (sz l : Int) - 1)).1, (cut r (at_ - (sz l : Int) - 1)).2)
theorem cut_bal : ∀ (t : RT) (i : Int), Bal t → Bal (cut t i).1 ∧ Bal (cut t i).2
  | nil, _, _ => ⟨trivial, trivial⟩
  | node l c r, i, ⟨hl, hr, _, _⟩ => by
    unfold cut
    split
    · exact ⟨(cut_bal l i hl).1, join_bal c (cut_bal l i hl).2 hr⟩
    · exact ⟨join_bal c hl (cut_bal r _ hr).1, (cut_bal r _ hr).2⟩
theorem cut_toL : ∀ (t : RT) (i : Nat), i ≤ sz t → toL (cut t (i : Int)).1 = (toL t).take i ∧ toL (cut t (i : Int)).2 = (toL t).drop i
  | nil, i, h => by
    have : i = 0 := by simpa [sz] using h
    subst this
    exact ⟨rfl, rfl⟩
  | node l c r, i, h => by
    have hl := toL_len l
    unfold cut
    by_cases hi : (i : Int) ≤ (sz l : Int)
    · obtain ⟨h1, h2⟩ := cut_toL l i (by omega)
      rw [if_pos hi]
      simp only [toL_join, toL]
      rw [h1, h2, List.take_append_of_le_length (by omega), List.drop_append_of_le_length (by omega)]
      exact ⟨rfl, rfl⟩
    · rw [if_neg hi]
      simp only [sz] at h
      obtain ⟨j, hj⟩ : ∃ j : Nat, i = sz l + 1 + j := ⟨i - sz l - 1, by omega⟩
      have e : (i : Int) - (sz l : Int) - 1 = (j : Int) := by omega
      obtain ⟨h1, h2⟩ := cut_toL r j (by omega)
      rw [e]
      simp only [toL_join, toL]
      rw [h1, h2]
      have e1 : (toL l ++ c :: toL r) = (toL l ++ [c]) ++ toL r := by simp
      have e2 : i = (toL l ++ [c]).length + j := by simp [hl, hj]
      rw [e1, e2, List.take_length_add_append, List.drop_length_add_append]
      simp
theorem cut_sz (t : RT) (i : Nat) (h : i ≤ sz t) : sz (cut t (i : Int)).1 = i ∧ sz (cut t (i : Int)).2 = sz t - i := by
  obtain ⟨h1, h2⟩ := cut_toL t i h
  rw [← toL_len, h1, ← toL_len, h2, List.length_take, List.length_drop, toL_len]
  omega
/-- however it is cut, no more comes of it -/
theorem cut_sum : ∀ (t : RT) (i : Int), sz (cut t i).1 + sz (cut t i).2 = sz t
  | nil, _ => rfl
  | node l c r, i => by
    unfold cut
    split
    · simp only [sz_join, sz]
      have := cut_sum l i
      omega
    · simp only [sz_join, sz]
      have := cut_sum r (i - (sz l : Int) - 1)
      omega
/-! ### glue -/
def top : RT → Int
  | nil => 0
  | node _ c _ => c
def glue (a b : RT) : RT :=
  match a with
  | nil => b
  | node l c r => join (cut (node l c r) ((sz (node l c r) : Int) - 1)).1 (top (cut (node l c r) ((sz (node l c r) : Int) - 1)).2) b
theorem one_top : ∀ {t : RT}, sz t = 1 → toL t = [top t] ∧ t ≠ nil
  | nil, h => by simp [sz] at h
  | node l c r, h => by
    simp only [sz] at h
    have e1 := sz_zero.1 (show sz l = 0 by omega)
    have e2 := sz_zero.1 (show sz r = 0 by omega)
    subst e1 e2
    exact ⟨rfl, fun h => by cases h⟩
theorem last_one {t : RT} (h : t ≠ nil) : sz (cut t ((sz t : Int) - 1)).2 = 1 ∧ toL (cut t ((sz t : Int) - 1)).1 ++ toL (cut t ((sz t : Int) - 1)).2 = toL t := by
  have hs : 0 < sz t := by
    have := mt sz_zero.1 h
    omega
  have e : (sz t : Int) - 1 = ((sz t - 1 : Nat) : Int) := by omega
  rw [e]
  obtain ⟨h1, h2⟩ := cut_toL t (sz t - 1) (by omega)
  have h3 := cut_sz t (sz t - 1) (by omega)
  refine ⟨by omega, ?_⟩
  rw [h1, h2, List.take_append_drop]
theorem glue_toL (a b : RT) : toL (glue a b) = toL a ++ toL b := by
  cases a with
  | nil => rfl
  | node l c r =>
    obtain ⟨h1, h2⟩ := last_one (t := node l c r) (fun h => by cases h)
    have h3 := (one_top h1).1
    unfold glue
    simp only []
    rw [toL_join, ← h2]
    conv => rhs; rw [h3]
    simp
theorem glue_bal {a b : RT} (ha : Bal a) (hb : Bal b) : Bal (glue a b) := by
  cases a with
  | nil => exact hb
  | node l c r => exact join_bal _ (cut_bal _ _ ha).1 hb
/-! ### grown -/
def grown : Nat → List Int → RT
  | 0, _ => nil
  | k + 1, l => if l.length = 0 then nil else node (grown k (l.take (l.length / 2))) (l.getD (l.length / 2) 0) (grown k (l.drop (l.length / 2 + 1)))
theorem grown_toL : ∀ (k : Nat) (l : List Int), l.length ≤ k → toL (grown k l) = l
  | 0, l, h => by
    have : l = [] := List.length_eq_zero_iff.1 (by omega)
    subst this
    rfl
  | k + 1, l, h => by
    unfold grown
    by_cases h0 : l.length = 0
    · have : l = [] := List.length_eq_zero_iff.1 h0
      subst this
      rfl
    · have hlt : l.length / 2 < l.length := by omega
      rw [if_neg h0]
      simp only [toL]
      rw [grown_toL k _ (by rw [List.length_take]; omega), grown_toL k _ (by rw [List.length_drop]; omega)]
      have e : l.getD (l.length / 2) 0 = l[l.length / 2] := by simp [List.getD_eq_getElem?_getD, List.getElem?_eq_getElem hlt]
      rw [e, ← List.drop_eq_getElem_cons hlt, List.take_append_drop]
/-- the depth of a grown one -/
def lg (n : Nat) : Nat := if n = 0 then 0 else n.log2 + 1
theorem lg_half {n : Nat} (h : n ≠ 0) : lg n = 1 + lg (n / 2) := by
  unfold lg
  rw [if_neg h]
  by_cases h1 : n / 2 = 0
  · have : n = 1 := by omega
    subst this
    rfl
  · rw [if_neg h1, Nat.log2_def, if_pos (by omega)]
    omega
theorem lg_mono {m n : Nat} (h : m ≤ n) : lg m ≤ lg n := by
  unfold lg
  by_cases h1 : m = 0
  · rw [if_pos h1]
    exact Nat.zero_le _
  · rw [if_neg h1, if_neg (by omega)]
    have : m.log2 ≤ n.log2 := (Nat.le_log2 (by omega)).2 (Nat.le_trans ((Nat.log2_eq_iff h1).1 rfl).1 h)
    omega
theorem lg_succ (n : Nat) : lg (n + 1) ≤ lg n + 1 := by
  by_cases h : n = 0
  · subst h
    decide
  · have h1 : lg (n + 1) ≤ lg (2 * n) := lg_mono (by omega)
    have h2 : lg (2 * n) = 1 + lg n := by
      rw [lg_half (by omega)]
      congr 2
      omega
    omega
theorem grown_dp : ∀ (k : Nat) (l : List Int), l.length ≤ k → dp (grown k l) = lg l.length ∧ Bal (grown k l)
  | 0, l, h => by
    have : l.length = 0 := by omega
    rw [this]
    exact ⟨rfl, trivial⟩
  | k + 1, l, h => by
    unfold grown
    by_cases h0 : l.length = 0
    · rw [if_pos h0, h0]
      exact ⟨rfl, trivial⟩
    · obtain ⟨d1, b1⟩ := grown_dp k (l.take (l.length / 2)) (by rw [List.length_take]; omega)
      obtain ⟨d2, b2⟩ := grown_dp k (l.drop (l.length / 2 + 1)) (by rw [List.length_drop]; omega)
      rw [List.length_take, Nat.min_eq_left (by omega)] at d1
      rw [List.length_drop] at d2
      have m1 : lg (l.length - (l.length / 2 + 1)) ≤ lg (l.length / 2) := lg_mono (by omega)
      have m2 : lg (l.length / 2) ≤ lg (l.length - (l.length / 2 + 1) + 1) := lg_mono (by omega)
      have m3 := lg_succ (l.length - (l.length / 2 + 1))
      rw [if_neg h0]
      simp only [dp, Bal]
      rw [d1, d2, lg_half h0]
      exact ⟨by omega, b1, b2, by omega, by omega⟩
/-- the tree of a list -/
def of (l : List Int) : RT := grown l.length l
theorem of_toL (l : List Int) : toL (of l) = l := grown_toL _ l (Nat.le_refl _)
theorem of_bal (l : List Int) : Bal (of l) := (grown_dp _ l (Nat.le_refl _)).2
theorem of_sz (l : List Int) : sz (of l) = l.length := by rw [← toL_len, of_toL]
theorem glue_sz (a b : RT) : sz (glue a b) = sz a + sz b := by rw [← toL_len, glue_toL, List.length_append, toL_len, toL_len]
end RT
end Go.Proofs.Ytenjldfflkinkaa.Rop
