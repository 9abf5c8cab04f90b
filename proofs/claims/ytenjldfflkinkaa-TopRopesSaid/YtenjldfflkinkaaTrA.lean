/- The texts RopT, Fx0, FGTable, Fx1, FGCls, FGRopA, FGRopB, FGRopC, FGRopD, FGRopE, FGRopF, FGRopG, FGRopH, FGRopL, Fx3, Fx4, FGRopM, FGRopN, FGRopJ, FGRopWJ, FGRopP, FGRopQ, FGRopR, FGRopV, FGRopY, FGRopX, FGRopZ, in one: what the law does not need is left out. -/
import Derived.RangeFuncNested
import Derived.RangeFuncBound
import Derived.RangeFuncCalls
import Derived.RangeFuncLeaves
import Derived.RangeFuncBox
import Derived.Shelf.Abstract
import Derived.WalkKit
import Derived.OwnWalkIn
import Derived.TacticsInMore
import Derived.LoopNIn
import Derived.LoopIn
import Derived.Maps.AppendAt
import Derived.KernelRfl
import Derived.Test.YtenjldfflkinkaaProg
import Derived.Below
import Derived.Deep.Draws
import Derived.Deep.AppendLies
import Derived.OwnWalk
import Derived.Laws.BytesArg
import Derived.Laws.MakeOwn
import Derived.Laws.OwnMore
import Derived.Deep.OwnRows
import Derived.Tactics
import Derived.Lib.ConvBytes
import Derived.Laws.Slices
import Derived.RowKit3
import Derived.Deep.LoopGhost
import Derived.Deep.QuietTactic
import Derived.BigQuiet
import Derived.WideLaws
import Derived.Deep.DeepCutAuto
import Derived.Deep.CutBlock
import Derived.Deep.RegionHeld3
import Derived.Laws.Rows
import Derived.Lib.AppendStr
import Derived.ArgAppend
import Derived.Laws.IdiomCopy
import Derived.OrdersHeld
import Derived.Laws.BitsLemmas
import Derived.RowKit
import Derived.Test.YtenjldfflkinkaaWWords
import Derived.Test.YtenjldfflkinkaaWLast
import Derived.Test.YtenjldfflkinkaaWTab
import Derived.Test.YtenjldfflkinkaaWFour
import Derived.Test.YtenjldfflkinkaaWQPut
import Derived.Test.YtenjldfflkinkaaWApart
import Derived.Test.YtenjldfflkinkaaWArr
import Derived.Test.YtenjldfflkinkaaWZeros
import Derived.Test.YtenjldfflkinkaaWFoot
import Derived.Test.YtenjldfflkinkaaWKept
import Derived.Test.YtenjldfflkinkaaWShare
import Derived.Test.YtenjldfflkinkaaWN
import Derived.Test.YtenjldfflkinkaaWFootNe
import Derived.Test.YtenjldfflkinkaaWAt
import Derived.Test.YtenjldfflkinkaaWEqStruct
import Derived.Test.YtenjldfflkinkaaWRepsOne
import Derived.Test.YtenjldfflkinkaaWInv
import Derived.Test.YtenjldfflkinkaaWInvWords
import Derived.Test.YtenjldfflkinkaaWGuard
import Derived.Test.YtenjldfflkinkaaWNEv
import Derived.Test.YtenjldfflkinkaaWMore
import Derived.WalkSpells
import Derived.WalkLawsBesides
import Derived.StillTailTactics
import Derived.IntWalk
import Derived.Maps.OwnIn
import Derived.Test.YtenjldfflkinkaaWSized
import Derived.ProofKit
import Derived.OpenShut
import Derived.ShutString
import Derived.ChangeOld
import Derived.SizedLaws
import Derived.Lib.SmallJoins
import Derived.Stop.RegionWithIn
namespace Go.Proofs.Ytenjldfflkinkaa.Rop
set_option linter.unusedVariables false
set_option linter.unusedSimpArgs false

inductive RT where
  | nil
  | node (l : RT) (c : Int) (r : RT)
namespace RT
def sz : RT → Nat
  | nil => 0
  | node l _ r => sz l + sz r + 1
def dp : RT → Nat
  | nil => 0
  | node l _ r => 1 + max (dp l) (dp r)
/-- how many separators -/
def bk (sep : Int → Bool) : RT → Nat
  | nil => 0
  | node l c r => bk sep l + bk sep r + if sep c = true then 1 else 0
def toL : RT → List Int
  | nil => []
  | node l c r => toL l ++ c :: toL r
theorem toL_len : ∀ t, (toL t).length = sz t
  | nil => rfl
  | node l c r => by
    simp only [toL, sz, List.length_append, List.length_cons, toL_len l, toL_len r]
    omega
theorem dp_le : ∀ t, dp t ≤ sz t
  | nil => Nat.le_refl _
  | node l c r => by
    have := dp_le l
    have := dp_le r
    simp only [dp, sz]
    omega
theorem bk_count (sep : Int → Bool) : ∀ t, bk sep t = (toL t).countP sep
  | nil => rfl
  | node l c r => by
    simp only [bk, toL, List.countP_append, List.countP_cons, bk_count sep l, bk_count sep r]
    omega
theorem bk_le (sep : Int → Bool) (t : RT) : bk sep t ≤ sz t := by
  rw [bk_count, ← toL_len]
  exact List.countP_le_length
theorem sz_zero {t : RT} : sz t = 0 ↔ t = nil := by
  cases t with
  | nil => simp [sz]
  | node l c r => simp only [sz]; constructor <;> intro h <;> first | omega | cases h
def Bal : RT → Prop
  | nil => True
  | node l _ r => Bal l ∧ Bal r ∧ dp l ≤ dp r + 1 ∧ dp r ≤ dp l + 1
/-! ### even -/
/-- a node of its parts, turned -/
def even (l : RT) (c : Int) (r : RT) : RT :=
  if dp r + 1 < dp l then
    match l with
    | nil => node nil c r
    | node ll lc lr => if dp lr ≤ dp ll then node ll lc (node lr c r) else
      match lr with
      | nil => node ll lc (node nil c r)
      | node a m b => node (node ll lc a) m (node b c r)
  else if dp l + 1 < dp r then
    match r with
    | nil => node l c nil
    | node rl rc rr => if dp rl ≤ dp rr then node (node l c rl) rc rr else
      match rl with
      | nil => node (node l c nil) rc rr
      | node a m b => node (node l c a) m (node b rc rr)
  else node l c r
theorem even_toL (l : RT) (c : Int) (r : RT) : toL (even l c r) = toL l ++ c :: toL r := by
  unfold even
  split
  · split
    · rfl
    · split
      · simp [toL]
      · split
        · simp [toL]
        · simp [toL]
  · split
    · split
      · rfl
      · split
        · simp [toL]
        · split
          · simp [toL]
          · simp [toL]
    · rfl
theorem even_bal {l r : RT} (c : Int) (hl : Bal l) (hr : Bal r) (h1 : dp l ≤ dp r + 2) (h2 : dp r ≤ dp l + 2) : Bal (even l c r) ∧ max (dp l) (dp r) ≤ dp (even l c r) ∧ dp (even l c r) ≤ 1 + max (dp l) (dp r) := by
  unfold even
  split
  · rename_i h
    cases l with
    | nil => simp [dp] at h
    | node ll lc lr =>
      obtain ⟨b1, b2, b3, b4⟩ := hl
      simp only [dp] at h h1 h2 ⊢
      by_cases hc : dp lr ≤ dp ll
      · rw [if_pos hc]
        simp only [Bal, dp]
        exact ⟨⟨b1, ⟨b2, hr, by omega, by omega⟩, by omega, by omega⟩, by omega, by omega⟩
      · rw [if_neg hc]
        cases lr with
        | nil => simp [dp] at hc
        | node a m b =>
          obtain ⟨d1, d2, d3, d4⟩ := b2
          simp only [dp] at *
          simp only [Bal, dp]
          exact ⟨⟨⟨b1, d1, by omega, by omega⟩, ⟨d2, hr, by omega, by omega⟩, by omega, by omega⟩, by omega, by omega⟩
  · split
    · rename_i h0 h
      cases r with
      | nil => simp [dp] at h
      | node rl rc rr =>
        obtain ⟨b1, b2, b3, b4⟩ := hr
        simp only [dp] at h h1 h2 ⊢
        by_cases hc : dp rl ≤ dp rr
        · rw [if_pos hc]
          simp only [Bal, dp]
          exact ⟨⟨⟨hl, b1, by omega, by omega⟩, b2, by omega, by omega⟩, by omega, by omega⟩
        · rw [if_neg hc]
          cases rl with
          | nil => simp [dp] at hc
          | node a m b =>
            obtain ⟨d1, d2, d3, d4⟩ := b1
            simp only [dp] at *
            simp only [Bal, dp]
            exact ⟨⟨⟨hl, d1, by omega, by omega⟩, ⟨d2, b2, by omega, by omega⟩, by omega, by omega⟩, by omega, by omega⟩
    · rename_i h0 h
      simp only [Bal, dp]
      exact ⟨⟨hl, hr, by omega, by omega⟩, by omega, by omega⟩
theorem even_flat {l r : RT} {c : Int} (h1 : dp l ≤ dp r + 1) (h2 : dp r ≤ dp l + 1) : even l c r = node l c r := by
  unfold even
  rw [if_neg (by omega), if_neg (by omega)]
/-! ### join -/
def join (l : RT) (c : Int) (r : RT) : RT :=
  match l, r with
  | nil, nil => node nil c nil
  | nil, node rl rc rr => if 1 < dp (node rl rc rr) then even (join nil c rl) rc rr else node nil c (node rl rc rr)
  | node ll lc lr, nil => if 1 < dp (node ll lc lr) then even ll lc (join lr c nil) else node (node ll lc lr) c nil
  | node ll lc lr, node rl rc rr =>
    if dp (node rl rc rr) + 1 < dp (node ll lc lr) then even ll lc (join lr c (node rl rc rr))
    else if dp (node ll lc lr) + 1 < dp (node rl rc rr) then even (join (node ll lc lr) c rl) rc rr
    else node (node ll lc lr) c (node rl rc rr)
termination_by sz l + sz r
decreasing_by all_goals simp only [sz] <;> omega
theorem join_left {ll lr r : RT} {lc c : Int} (h : dp r + 1 < dp (node ll lc lr)) : join (node ll lc lr) c r = even ll lc (join lr c r) := by
  cases r with
  | nil => rw [join, if_pos (by simpa [dp] using h)]
  | node rl rc rr => rw [join, if_pos h]
theorem join_right {l rl rr : RT} {c rc : Int} (h : dp l + 1 < dp (node rl rc rr)) : join l c (node rl rc rr) = even (join l c rl) rc rr := by
  cases l with
  | nil => rw [join, if_pos (by simpa [dp] using h)]
  | node ll lc lr => rw [join, if_neg (by omega), if_pos h]
theorem join_mid {l r : RT} {c : Int} (h1 : dp l ≤ dp r + 1) (h2 : dp r ≤ dp l + 1) : join l c r = node l c r := by
  cases l with
  | nil =>
    cases r with
    | nil => rw [join]
    | node rl rc rr => rw [join, if_neg (by have : dp nil = 0 := rfl; omega)]
  | node ll lc lr =>
    cases r with
    | nil => rw [join, if_neg (by have : dp nil = 0 := rfl; omega)]
    | node rl rc rr => rw [join, if_neg (by omega), if_neg (by omega)]
theorem join_toL (n : Nat) : ∀ (l r : RT) (c : Int), sz l + sz r ≤ n → toL (join l c r) = toL l ++ c :: toL r := by
  induction n with
  | zero =>
    intro l r c h
    have e1 := sz_zero.1 (show sz l = 0 by omega)
    have e2 := sz_zero.1 (show sz r = 0 by omega)
    subst e1 e2
    rw [join_mid (Nat.zero_le _) (Nat.zero_le _)]
    rfl
  | succ n ih =>
    intro l r c h
    by_cases h1 : dp r + 1 < dp l
    · cases l with
      | nil => simp [dp] at h1
      | node ll lc lr =>
        simp only [sz] at h
        rw [join_left h1, even_toL, ih lr r c (by omega)]
        simp [toL]
    · by_cases h2 : dp l + 1 < dp r
      · cases r with
        | nil => simp [dp] at h2
        | node rl rc rr =>
          simp only [sz] at h
          rw [join_right h2, even_toL, ih l rl c (by omega)]
          simp [toL]
      · rw [join_mid (by omega) (by omega)]
        rfl
theorem toL_join (l : RT) (c : Int) (r : RT) : toL (join l c r) = toL l ++ c :: toL r := join_toL _ l r c (Nat.le_refl _)
theorem sz_join (l : RT) (c : Int) (r : RT) : sz (join l c r) = sz l + sz r + 1 := by
  rw [← toL_len, toL_join, List.length_append, List.length_cons, toL_len, toL_len]
  omega
theorem join_bal_n (n : Nat) : ∀ (l r : RT) (c : Int), sz l + sz r ≤ n → Bal l → Bal r → Bal (join l c r) ∧ max (dp l) (dp r) ≤ dp (join l c r) ∧ dp (join l c r) ≤ 1 + max (dp l) (dp r) := by
  induction n with
  | zero =>
    intro l r c h hl hr
    have e1 := sz_zero.1 (show sz l = 0 by omega)
    have e2 := sz_zero.1 (show sz r = 0 by omega)
    subst e1 e2
    rw [join_mid (Nat.zero_le _) (Nat.zero_le _)]
    simp [Bal, dp]
  | succ n ih =>
    intro l r c h hl hr
    by_cases h1 : dp r + 1 < dp l
    · cases l with
      | nil => simp [dp] at h1
      | node ll lc lr =>
        simp only [sz] at h
        obtain ⟨b1, b2, b3, b4⟩ := hl
        obtain ⟨j1, j2, j3⟩ := ih lr r c (by omega) b2 hr
        rw [join_left h1]
        simp only [dp] at h1
        obtain ⟨e1, e2, e3⟩ := even_bal lc b1 j1 (by omega) (by omega)
        refine ⟨e1, ?_⟩
        simp only [dp]
        by_cases hf : dp ll ≤ dp (join lr c r) + 1 ∧ dp (join lr c r) ≤ dp ll + 1
        · rw [even_flat hf.1 hf.2]
          simp only [dp]
          omega
        · omega
    · by_cases h2 : dp l + 1 < dp r
      · cases r with
        | nil => simp [dp] at h2
        | node rl rc rr =>
          simp only [sz] at h
          obtain ⟨b1, b2, b3, b4⟩ := hr
          obtain ⟨j1, j2, j3⟩ := ih l rl c (by omega) hl b1
          rw [join_right h2]
          simp only [dp] at h2
          obtain ⟨e1, e2, e3⟩ := even_bal rc j1 b2 (by omega) (by omega)
          refine ⟨e1, ?_⟩
          simp only [dp]
          by_cases hf : dp (join l c rl) ≤ dp rr + 1 ∧ dp rr ≤ dp (join l c rl) + 1
          · rw [even_flat hf.1 hf.2]
            simp only [dp]
            omega
          · omega
      · rw [join_mid (by omega) (by omega)]
        simp only [Bal, dp]
        exact ⟨⟨hl, hr, by omega, by omega⟩, by omega, by omega⟩
theorem join_bal {l r : RT} (c : Int) (hl : Bal l) (hr : Bal r) : Bal (join l c r) := (join_bal_n _ l r c (Nat.le_refl _) hl hr).1
/-! ### cut -/
def cut : RT → Int → RT × RT
  | nil, _ => (nil, nil)
  | node l c r, at_ => if at_ ≤ (sz l : Int) then ((cut l at_).1, join (cut l at_).2 c r) else (join l c (cut r (at_ - (sz l : Int) - 1)).1, (cut r (at_ - (sz l : Int) - 1)).2)
theorem cut_bal : ∀ (t : RT) (i : Int), Bal t → Bal (cut t i).1 ∧ Bal (cut t i).2
  | nil, _, _ => ⟨trivial, trivial⟩
  | node l c r, i, ⟨hl, hr, _, _⟩ => by
    unfold cut
    split
    · exact ⟨(cut_bal l i hl).1, join_bal c (cut_bal l i hl).2 hr⟩
    · exact ⟨join_bal c hl (cut_bal r _ hr).1, (cut_bal r _ hr).2⟩
theorem cut_toL : ∀ (t : RT) (i : Nat), i ≤ sz t → toL (cut t (i : Int)).1 = (toL t).take i ∧ toL (cut t (i : Int)).2 = (toL t).drop i
  | nil, i, h => by
    have : i = 0 := by simpa [sz] using h
    subst this
    exact ⟨rfl, rfl⟩
  | node l c r, i, h => by
    have hl := toL_len l
    unfold cut
    by_cases hi : (i : Int) ≤ (sz l : Int)
    · obtain ⟨h1, h2⟩ := cut_toL l i (by omega)
      rw [if_pos hi]
      simp only [toL_join, toL]
      rw [h1, h2, List.take_append_of_le_length (by omega), List.drop_append_of_le_length (by omega)]
      exact ⟨rfl, rfl⟩
    · rw [if_neg hi]
      simp only [sz] at h
      obtain ⟨j, hj⟩ : ∃ j : Nat, i = sz l + 1 + j := ⟨i - sz l - 1, by omega⟩
      have e : (i : Int) - (sz l : Int) - 1 = (j : Int) := by omega
      obtain ⟨h1, h2⟩ := cut_toL r j (by omega)
      rw [e]
      simp only [toL_join, toL]
      rw [h1, h2]
      have e1 : (toL l ++ c :: toL r) = (toL l ++ [c]) ++ toL r := by simp
      have e2 : i = (toL l ++ [c]).length + j := by simp [hl, hj]
      rw [e1, e2, List.take_length_add_append, List.drop_length_add_append]
      simp
theorem cut_sz (t : RT) (i : Nat) (h : i ≤ sz t) : sz (cut t (i : Int)).1 = i ∧ sz (cut t (i : Int)).2 = sz t - i := by
  obtain ⟨h1, h2⟩ := cut_toL t i h
  rw [← toL_len, h1, ← toL_len, h2, List.length_take, List.length_drop, toL_len]
  omega
/-- however it is cut, no more comes of it -/
theorem cut_sum : ∀ (t : RT) (i : Int), sz (cut t i).1 + sz (cut t i).2 = sz t
  | nil, _ => rfl
  | node l c r, i => by
    unfold cut
    split
    · simp only [sz_join, sz]
      have := cut_sum l i
      omega
    · simp only [sz_join, sz]
      have := cut_sum r (i - (sz l : Int) - 1)
      omega
/-! ### glue -/
def top : RT → Int
  | nil => 0
  | node _ c _ => c
def glue (a b : RT) : RT :=
  match a with
  | nil => b
  | node l c r => join (cut (node l c r) ((sz (node l c r) : Int) - 1)).1 (top (cut (node l c r) ((sz (node l c r) : Int) - 1)).2) b
theorem one_top : ∀ {t : RT}, sz t = 1 → toL t = [top t] ∧ t ≠ nil
  | nil, h => by simp [sz] at h
  | node l c r, h => by
    simp only [sz] at h
    have e1 := sz_zero.1 (show sz l = 0 by omega)
    have e2 := sz_zero.1 (show sz r = 0 by omega)
    subst e1 e2
    exact ⟨rfl, fun h => by cases h⟩
theorem last_one {t : RT} (h : t ≠ nil) : sz (cut t ((sz t : Int) - 1)).2 = 1 ∧ toL (cut t ((sz t : Int) - 1)).1 ++ toL (cut t ((sz t : Int) - 1)).2 = toL t := by
  have hs : 0 < sz t := by
    have := mt sz_zero.1 h
    omega
  have e : (sz t : Int) - 1 = ((sz t - 1 : Nat) : Int) := by omega
  rw [e]
  obtain ⟨h1, h2⟩ := cut_toL t (sz t - 1) (by omega)
  have h3 := cut_sz t (sz t - 1) (by omega)
  refine ⟨by omega, ?_⟩
  rw [h1, h2, List.take_append_drop]
theorem glue_toL (a b : RT) : toL (glue a b) = toL a ++ toL b := by
  cases a with
  | nil => rfl
  | node l c r =>
    obtain ⟨h1, h2⟩ := last_one (t := node l c r) (fun h => by cases h)
    have h3 := (one_top h1).1
    unfold glue
    simp only []
    rw [toL_join, ← h2]
    conv => rhs; rw [h3]
    simp
theorem glue_bal {a b : RT} (ha : Bal a) (hb : Bal b) : Bal (glue a b) := by
  cases a with
  | nil => exact hb
  | node l c r => exact join_bal _ (cut_bal _ _ ha).1 hb
/-! ### grown -/
def grown : Nat → List Int → RT
  | 0, _ => nil
  | k + 1, l => if l.length = 0 then nil else node (grown k (l.take (l.length / 2))) (l.getD (l.length / 2) 0) (grown k (l.drop (l.length / 2 + 1)))
theorem grown_toL : ∀ (k : Nat) (l : List Int), l.length ≤ k → toL (grown k l) = l
  | 0, l, h => by
    have : l = [] := List.length_eq_zero_iff.1 (by omega)
    subst this
    rfl
  | k + 1, l, h => by
    unfold grown
    by_cases h0 : l.length = 0
    · have : l = [] := List.length_eq_zero_iff.1 h0
      subst this
      rfl
    · have hlt : l.length / 2 < l.length := by omega
      rw [if_neg h0]
      simp only [toL]
      rw [grown_toL k _ (by rw [List.length_take]; omega), grown_toL k _ (by rw [List.length_drop]; omega)]
      have e : l.getD (l.length / 2) 0 = l[l.length / 2] := by simp [List.getD_eq_getElem?_getD, List.getElem?_eq_getElem hlt]
      rw [e, ← List.drop_eq_getElem_cons hlt, List.take_append_drop]
/-- the depth of a grown one -/
def lg (n : Nat) : Nat := if n = 0 then 0 else n.log2 + 1
theorem lg_half {n : Nat} (h : n ≠ 0) : lg n = 1 + lg (n / 2) := by
  unfold lg
  rw [if_neg h]
  by_cases h1 : n / 2 = 0
  · have : n = 1 := by omega
    subst this
    rfl
  · rw [if_neg h1, Nat.log2_def, if_pos (by omega)]
    omega
theorem lg_mono {m n : Nat} (h : m ≤ n) : lg m ≤ lg n := by
  unfold lg
  by_cases h1 : m = 0
  · rw [if_pos h1]
    exact Nat.zero_le _
  · rw [if_neg h1, if_neg (by omega)]
    have : m.log2 ≤ n.log2 := (Nat.le_log2 (by omega)).2 (Nat.le_trans ((Nat.log2_eq_iff h1).1 rfl).1 h)
    omega
theorem lg_succ (n : Nat) : lg (n + 1) ≤ lg n + 1 := by
  by_cases h : n = 0
  · subst h
    decide
  · have h1 : lg (n + 1) ≤ lg (2 * n) := lg_mono (by omega)
    have h2 : lg (2 * n) = 1 + lg n := by
      rw [lg_half (by omega)]
      congr 2
      omega
    omega
theorem grown_dp : ∀ (k : Nat) (l : List Int), l.length ≤ k → dp (grown k l) = lg l.length ∧ Bal (grown k l)
  | 0, l, h => by
    have : l.length = 0 := by omega
    rw [this]
    exact ⟨rfl, trivial⟩
  | k + 1, l, h => by
    unfold grown
    by_cases h0 : l.length = 0
    · rw [if_pos h0, h0]
      exact ⟨rfl, trivial⟩
    · obtain ⟨d1, b1⟩ := grown_dp k (l.take (l.length / 2)) (by rw [List.length_take]; omega)
      obtain ⟨d2, b2⟩ := grown_dp k (l.drop (l.length / 2 + 1)) (by rw [List.length_drop]; omega)
      rw [List.length_take, Nat.min_eq_left (by omega)] at d1
      rw [List.length_drop] at d2
      have m1 : lg (l.length - (l.length / 2 + 1)) ≤ lg (l.length / 2) := lg_mono (by omega)
      have m2 : lg (l.length / 2) ≤ lg (l.length - (l.length / 2 + 1) + 1) := lg_mono (by omega)
      have m3 := lg_succ (l.length - (l.length / 2 + 1))
      rw [if_neg h0]
      simp only [dp, Bal]
      rw [d1, d2, lg_half h0]
      exact ⟨by omega, b1, b2, by omega, by omega⟩
/-- the tree of a list -/
def of (l : List Int) : RT := grown l.length l
theorem of_toL (l : List Int) : toL (of l) = l := grown_toL _ l (Nat.le_refl _)
theorem of_bal (l : List Int) : Bal (of l) := (grown_dp _ l (Nat.le_refl _)).2
theorem of_sz (l : List Int) : sz (of l) = l.length := by rw [← toL_len, of_toL]
theorem glue_sz (a b : RT) : sz (glue a b) = sz a + sz b := by rw [← toL_len, glue_toL, List.length_append, toL_len, toL_len]
end RT
end Go.Proofs.Ytenjldfflkinkaa.Rop

namespace Go.Proofs.Ytenjldfflkinkaa.F
open Go.RowKit Go.Proofs.YtenjldfflkinkaaW.PrintWords Go.Proofs.YtenjldfflkinkaaW.PrintLast Go.Proofs.YtenjldfflkinkaaW.PrintMore
attribute [local go_sem] max2_int min2_int max_two min_two max_three min_three max_four min_four   -- for this text's walks alone
set_option linter.unusedVariables false
set_option linter.unusedSimpArgs false



def errW : Option Int → Value
  | none => .nilIface
  | some c => .iface 0 (.int .i64 c)
theorem errW_none : errW none = .nilIface := rfl
theorem errW_some (c : Int) : errW (some c) = .iface 0 (.int .i64 c) := rfl

theorem info21 : (Try.prog.info? 21).map (fun i => (i.zero, i.size, i.bytes)) = some (some (.int .i32 0), 1, 4) := by kernel_rfl
-- the values' own types
/-! #### struct type 128 -/
structure S128 where
  f0 : Int
  f1 : Int
  f2 : Int
def z128 : S128 := ⟨(0 : Int), (0 : Int), (0 : Int)⟩
def k128 : Kd S128 := Kd.iso (Kd.pair (Kd.int .i32) (Kd.pair (Kd.int .i32) (Kd.int .i64))) (fun x : S128 => (x.f0, x.f1, x.f2))
theorem k128_open {w : World} {x : S128} {cs : List Value} (h : k128.K w x cs) : cs = [.int .i32 x.f0, .int .i32 x.f1, .int .i64 x.f2] := by
  obtain ⟨_, _, rfl, rfl, ⟨_, _, rfl, rfl, rfl⟩⟩ := h
  exact rfl
theorem k128_mkM (w : World) (base : Nat) (ok : Nat → Prop) (x : S128)  : k128.M w base ok x [.int .i32 x.f0, .int .i32 x.f1, .int .i64 x.f2] := ⟨[.int .i32 x.f0], [.int .i32 x.f1, .int .i64 x.f2], rfl, rfl, ⟨[.int .i32 x.f1], [.int .i64 x.f2], rfl, rfl, rfl⟩⟩
def rd_T128 (xs : List S128) (i : Int) : S128 := xs.getD i.toNat z128
theorem at_T128 {w : World} {A : Option Addr} {n : Nat} {xs : List S128} (h : Kd.C k128 w A n xs) (i : Int) (h0 : 0 ≤ i) (h1 : i < n) : ∃ ad , A = some ad ∧ w.cell? (ad.add (i.toNat * 3)) = some (.int .i32 (rd_T128 xs i).f0) ∧ w.cell? ⟨(ad.add (i.toNat * 3)).block, (ad.add (i.toNat * 3)).off + 1, none⟩ = some (.int .i32 (rd_T128 xs i).f1) ∧ w.cell? ⟨(ad.add (i.toNat * 3)).block, (ad.add (i.toNat * 3)).off + 2, none⟩ = some (.int .i64 (rd_T128 xs i).f2) := by
  obtain ⟨ad, c, e, _, hK, hc0⟩ := Kd.C_get h z128 i h0 h1
  have hc : ∀ j u, c[j]? = some u → w.cell? (ad.add (i.toNat * 3 + j)) = some u := hc0
  obtain rfl := k128_open hK
  exact ⟨ad, e, hc 0 _ rfl, by rw [← add_field _ _ 1 (by omega)]; exact hc 1 _ rfl, by rw [← add_field _ _ 2 (by omega)]; exact hc 2 _ rfl⟩

/-! #### struct type 133 -/
structure S133 where
  f0 : Int
  f1 : Int
  f2 : Int
def z133 : S133 := ⟨(0 : Int), (0 : Int), (0 : Int)⟩
def k133 : Kd S133 := Kd.iso (Kd.pair (Kd.int .i64) (Kd.pair (Kd.int .i64) (Kd.int .i64))) (fun x : S133 => (x.f0, x.f1, x.f2))
theorem k133_open {w : World} {x : S133} {cs : List Value} (h : k133.K w x cs) : cs = [.int .i64 x.f0, .int .i64 x.f1, .int .i64 x.f2] := by
  obtain ⟨_, _, rfl, rfl, ⟨_, _, rfl, rfl, rfl⟩⟩ := h
  exact rfl
theorem k133_mkM (w : World) (base : Nat) (ok : Nat → Prop) (x : S133)  : k133.M w base ok x [.int .i64 x.f0, .int .i64 x.f1, .int .i64 x.f2] := ⟨[.int .i64 x.f0], [.int .i64 x.f1, .int .i64 x.f2], rfl, rfl, ⟨[.int .i64 x.f1], [.int .i64 x.f2], rfl, rfl, rfl⟩⟩
def rd_T133 (xs : List S133) (i : Int) : S133 := xs.getD i.toNat z133
theorem at_T133 {w : World} {A : Option Addr} {n : Nat} {xs : List S133} (h : Kd.C k133 w A n xs) (i : Int) (h0 : 0 ≤ i) (h1 : i < n) : ∃ ad , A = some ad ∧ w.cell? (ad.add (i.toNat * 3)) = some (.int .i64 (rd_T133 xs i).f0) ∧ w.cell? ⟨(ad.add (i.toNat * 3)).block, (ad.add (i.toNat * 3)).off + 1, none⟩ = some (.int .i64 (rd_T133 xs i).f1) ∧ w.cell? ⟨(ad.add (i.toNat * 3)).block, (ad.add (i.toNat * 3)).off + 2, none⟩ = some (.int .i64 (rd_T133 xs i).f2) := by
  obtain ⟨ad, c, e, _, hK, hc0⟩ := Kd.C_get h z133 i h0 h1
  have hc : ∀ j u, c[j]? = some u → w.cell? (ad.add (i.toNat * 3 + j)) = some u := hc0
  obtain rfl := k133_open hK
  exact ⟨ad, e, hc 0 _ rfl, by rw [← add_field _ _ 1 (by omega)]; exact hc 1 _ rfl, by rw [← add_field _ _ 2 (by omega)]; exact hc 2 _ rfl⟩

/-! #### struct type 32 -/
end Go.Proofs.Ytenjldfflkinkaa.F

namespace Go.Proofs.Ytenjldfflkinkaa.F
set_option linter.unusedVariables false
set_option linter.unusedSimpArgs false
open Go.RowKit Go.Proofs.YtenjldfflkinkaaW.PrintWords Go.Proofs.YtenjldfflkinkaaW.PrintLast Go.Proofs.YtenjldfflkinkaaW.PrintMore

/-! ### A run of builds of constants -/
def bldOp (T : TypeId) (k0 k1 k2 : IntKind) (x : Int × Int × Int) : Op := .build T #[(0, .const (.int k0 x.1)), (1, .const (.int k1 x.2.1)), (2, .const (.int k2 x.2.2))]
def bldVal (k0 k1 k2 : IntKind) (x : Int × Int × Int) : Value := .agg #[.int k0 x.1, .int k1 x.2.1, .int k2 x.2.2]
def bldTold (T : TypeId) (k0 k1 k2 : IntKind) : Nat → List (Int × Int × Int) → List (Option (Nat × Bool) × Option Tmp × Op)
  | _, [] => []
  | n, x :: xs => (none, some n, bldOp T k0 k1 k2 x) :: bldTold T k0 k1 k2 (n + 1) xs
def told (o : Oper) : Option (Nat × Bool) × Option Tmp × Op := (o.guard, o.dst, o.op)
def putAll : Nat → List Value → Act → Act
  | _, [], a => a
  | n, v :: vs, a => putAll (n + 1) vs (a.put (some n) v)
theorem wpList_blds {P : Program} {ops : Array Oper} {Q : Exit → Act → World → Prop} {rest : List Oper} {T : TypeId} {k0 k1 k2 : IntKind}
    (hrun : ∀ (x : Int × Int × Int) (w : World), (Instr.build T #[(0, .int k0 x.1), (1, .int k1 x.2.1), (2, .int k2 x.2.2)]).run P w = .ok (bldVal k0 k1 k2 x) w) :
    ∀ (xs : List (Int × Int × Int)) (n : Nat) (l : List Oper) (a : Act) (w : World), l.map told = bldTold T k0 k1 k2 n xs →
      wpList P ops Q rest (putAll n (xs.map (bldVal k0 k1 k2)) a) w → wpList P ops Q (l ++ rest) a w
  | [], n, [], a, w, _, h => h
  | [], n, o :: l, a, w, hl, h => by simp [bldTold] at hl
  | x :: xs, n, [], a, w, hl, h => by simp [bldTold] at hl
  | x :: xs, n, o :: l, a, w, hl, h => by
    simp only [List.map_cons, bldTold, List.cons.injEq, told, Prod.mk.injEq] at hl
    obtain ⟨⟨h1, h2, h3⟩, h4⟩ := hl
    refine wpList_plain h1 fun K hK => ?_
    unfold Oper.wp
    have hr : (execOp a.eval o).run P w = .ok (.value (bldVal k0 k1 k2 x)) w := by
      unfold execOp
      rw [h3]
      simp only [bldOp, List.map_toArray, List.map_cons, List.map_nil, Act.eval]
      have := hrun x w
      simp only [Sem.run_bind, this, Result.andThen_ok, Sem.run_pure]
    rw [hr]
    simp only [Oper.upon]
    refine hK _ _ ?_
    rw [h2]
    exact wpList_blds hrun xs (n + 1) l _ w h4 h

def tabRows : List (Int × Int × Int) := [
  (0, 8, 10), (9, 9, 12), (10, 10, 11), (11, 11, 12), (12, 12, 13), (13, 13, 11), (14, 27, 10), (28, 30, 11), (31, 31, 12), (32, 32, 13), (33, 34, 14), (35, 37, 6), 
  (38, 42, 14), (43, 43, 5), (44, 44, 8), (45, 45, 5), (46, 47, 8), (48, 57, 4), (58, 58, 8), (59, 64, 14), (91, 96, 14), (123, 126, 14), (127, 132, 10), (133, 133, 11), 
  (134, 159, 10), (160, 160, 8), (161, 161, 14), (162, 165, 6), (166, 169, 14), (171, 172, 14), (173, 173, 10), (174, 175, 14), (176, 177, 6), (178, 179, 4), 
  (180, 180, 14), (182, 184, 14), (185, 185, 4), (187, 191, 14), (215, 215, 14), (247, 247, 14), (768, 879, 9), (1155, 1161, 9), (1424, 1424, 2), (1425, 1469, 9), 
  (1470, 1470, 2), (1471, 1471, 9), (1472, 1472, 2), (1473, 1474, 9), (1475, 1475, 2), (1476, 1477, 9), (1478, 1478, 2), (1479, 1479, 9), (1480, 1535, 2), 
  (1536, 1541, 7), (1542, 1543, 14), (1544, 1544, 3), (1545, 1546, 6), (1547, 1547, 3), (1548, 1548, 8), (1549, 1549, 3), (1550, 1551, 14), (1552, 1562, 9), 
  (1563, 1610, 3), (1611, 1631, 9), (1632, 1641, 7), (1642, 1642, 6), (1643, 1644, 7), (1645, 1647, 3), (1648, 1648, 9), (1649, 1749, 3), (1750, 1756, 9), 
  (1757, 1757, 7), (1758, 1758, 14), (1759, 1764, 9), (1765, 1766, 3), (1767, 1768, 9), (1769, 1769, 14), (1770, 1773, 9), (1774, 1775, 3), (1776, 1785, 4), 
  (1786, 1808, 3), (1809, 1809, 9), (1810, 1839, 3), (1840, 1866, 9), (1867, 1957, 3), (1958, 1968, 9), (1969, 1983, 3), (1984, 2026, 2), (2027, 2035, 9), 
  (2036, 2037, 2), (2038, 2041, 14), (2042, 2143, 2), (8192, 8202, 13), (8203, 8205, 10), (8207, 8207, 2), (8208, 8231, 14), (8232, 8232, 13), (8233, 8233, 11), 
  (8234, 8234, 15), (8235, 8235, 17), (8236, 8236, 19), (8237, 8237, 16), (8238, 8238, 18), (8239, 8239, 8), (8240, 8244, 6), (8245, 8259, 14), (8260, 8260, 8), 
  (8261, 8286, 14), (8287, 8287, 13), (8288, 8293, 10), (8294, 8294, 20), (8295, 8295, 21), (8296, 8296, 22), (8297, 8297, 23), (8298, 8303, 10), (8304, 8304, 4), 
  (8308, 8313, 4), (8314, 8315, 5), (8316, 8318, 14), (8320, 8329, 4), (8330, 8331, 5), (8332, 8334, 14), (8352, 8399, 6), (8400, 8432, 9), (8592, 8721, 14), 
  (8722, 8722, 5), (8723, 8723, 6), (8724, 9013, 14), (9472, 9899, 14), (10214, 10223, 14), (12288, 12288, 13), (12289, 12292, 14), (12296, 12320, 14), (64285, 64285, 2), 
  (64286, 64286, 9), (64287, 64296, 2), (64297, 64297, 5), (64298, 64335, 2), (64336, 65023, 3), (65024, 65039, 9), (65136, 65278, 3), (65279, 65279, 10), 
  (67584, 69631, 2), (120782, 120831, 4), (124928, 126463, 2), (126464, 126719, 3), (917760, 917999, 9) ]

def regionOf : Option Code → Array Oper
  | some (.seq _ (.seq (.region _ ops _) _)) => ops
  | _ => #[]
def headOf : Option Code → Code
  | some (.seq c _) => c
  | _ => .skip
def bldParts : Array (Nat × Operand) := ((List.range 147).map fun i => (i, Operand.tmp (i + 1))).toArray

theorem two_ops {l : List Oper} {x y : Option (Nat × Bool) × Option Tmp × Op} (h : l.map told = [x, y]) : ∃ o1 o2, l = [o1, o2] ∧ told o1 = x ∧ told o2 = y := by
  rcases l with _ | ⟨o1, _ | ⟨o2, _ | ⟨o3, l⟩⟩⟩
  · simp only [List.map_nil] at h; cases h
  · simp only [List.map_cons, List.map_nil, List.cons.injEq] at h; cases h.2
  · simp only [List.map_cons, List.map_nil, List.cons.injEq] at h; exact ⟨o1, o2, rfl, h.1, h.2.1⟩
  · simp only [List.map_cons, List.cons.injEq] at h; cases h.2.2
theorem told_op {o : Oper} {g : Option (Nat × Bool)} {d : Option Tmp} {p : Op} (h : told o = (g, d, p)) : o.guard = g ∧ o.dst = d ∧ o.op = p := by
  simp only [told, Prod.mk.injEq] at h; exact h
/-! ### ucd_table -/
theorem build_ucd_table (x : Int × Int × Int) (w : World) : (Instr.build 128 #[(0, .int .i32 x.1), (1, .int .i32 x.2.1), (2, .int .i64 x.2.2)]).run Try.prog w = .ok (bldVal .i32 .i32 .i64 x) w := by
  obtain ⟨x0, x1, x2⟩ := x
  have h : ∀ (x0 x1 x2 : Int) (w : World), (Instr.build 128 #[(0, .int .i32 x0), (1, .int .i32 x1), (2, .int .i64 x2)]).run Try.prog w = .ok (.agg #[.int .i32 x0, .int .i32 x1, .int .i64 x2]) w := fun x0 x1 x2 w => by kernel_rfl
  exact h x0 x1 x2 w
def rows_ucd_table : List S128 := tabRows.map fun x => ⟨x.1, x.2.1, x.2.2⟩
def cells_ucd_table : List (Int × Int × Int) → List Value
  | [] => []
  | x :: xs => .int .i32 x.1 :: .int .i32 x.2.1 :: .int .i64 x.2.2 :: cells_ucd_table xs
theorem reps_ucd_table (w : World) (base : Nat) (ok : Nat → Prop) : ∀ xs : List (Int × Int × Int), Reps (k128.M w base ok) k128.sz (xs.map fun x => (⟨x.1, x.2.1, x.2.2⟩ : S128)) (cells_ucd_table xs)
  | [] => Reps.none _ _
  | x :: xs => Reps.c3 (k128_mkM w base ok ⟨x.1, x.2.1, x.2.2⟩) (reps_ucd_table w base ok xs)
theorem told_ucd_table : ((regionOf Try.f77.body).toList.take 147).map told = bldTold 128 .i32 .i32 .i64 1 tabRows := by kernel_rfl
theorem last_ucd_table : ((regionOf Try.f77.body).toList.drop 147).map told = [(none, some 148, .buildSlice 124 147 bldParts), (none, some 0, .assign (.tmp 148))] := by kernel_rfl
theorem body_ucd_table : Try.f77.body = some (.seq (headOf Try.f77.body) (.seq (.region 1 (regionOf Try.f77.body) false) .ret)) := by kernel_rfl
theorem head_ucd_table : ∃ o, headOf Try.f77.body = .region 0 #[o] false ∧ told o = (none, some 0, .assign (.const (.slice none 0 0))) := ⟨_, rfl, rfl⟩

def ucd_table.f : Option (List S128) := some rows_ucd_table
theorem size_ucd_table : (putAll 1 (tabRows.map (bldVal .i32 .i32 .i64)) { tmps := #[.slice none 0 0] ++ Array.replicate 148 undef, defers := [] }).tmps.size = 149 := by kernel_rfl
theorem defers_ucd_table : (putAll 1 (tabRows.map (bldVal .i32 .i32 .i64)) { tmps := #[.slice none 0 0] ++ Array.replicate 148 undef, defers := [] }).defers = [] := by kernel_rfl
theorem run_ucd_table (w : World) : (Instr.buildSlice 124 147 (bldParts.map fun (i, x) => (i, (putAll 1 (tabRows.map (bldVal .i32 .i32 .i64)) { tmps := #[.slice none 0 0] ++ Array.replicate 148 undef, defers := [] }).eval x))).run Try.prog w = .ok (.slice (some ⟨w.heap.size, 0, none⟩) 147 147) (w.alloc (.cells (cells_ucd_table tabRows).toArray 128)) := by kernel_rfl
set_option maxRecDepth 100000 in
theorem ucd_table.calls (r : List S128) (w : World) (h : ucd_table.f = some r) :
    Calls Try.prog 77 #[] w fun e w' => ∃ v0_ : Value, e = .returned (v0_) ∧ Kd.R k128 128 w' w.heap.size (fun _ => True) v0_ r ∧ Below w.heap.size w w' := by
  obtain rfl := Option.some.inj h
  refine calls_of_wp Try.func77 body_ucd_table ?_
  obtain ⟨o0, e0, t0⟩ := head_ucd_table
  obtain ⟨g0, d0, p0⟩ := told_op t0
  rw [e0]
  refine wp_seq ?_
  refine wp_region_lit (l := [o0]) ?_
  refine wpList_plain g0 fun K hK => ?_
  unfold Oper.wp execOp
  rw [p0]
  simp only [Act.eval, Sem.run_bind, Sem.run_pure, Result.andThen_ok, Oper.upon, d0]
  refine hK _ _ ?_
  refine wpList_nil ?_
  simp only [Exit.then]
  refine wp_seq ?_
  refine wp_region_list ?_
  rw [← List.take_append_drop 147 (regionOf Try.f77.body).toList]
  refine wpList_blds build_ucd_table tabRows 1 _ _ _ told_ucd_table ?_
  obtain ⟨o1, o2, el, t1, t2⟩ := two_ops last_ucd_table
  obtain ⟨g1, d1, p1⟩ := told_op t1
  obtain ⟨g2, d2, p2⟩ := told_op t2
  rw [el]
  have ea : (({ tmps := #[] ++ Array.replicate (Try.f77.ntmps - 0) undef, defers := [] } : Act).put (some 0) (.slice none 0 0)) = { tmps := #[.slice none 0 0] ++ Array.replicate 148 undef, defers := [] } := by kernel_rfl
  rw [show ({ tmps := #[] ++ Array.replicate (Try.f77.ntmps - #[].size) undef, defers := [] } : Act).put (some 0) (.slice none 0 0) = { tmps := #[.slice none 0 0] ++ Array.replicate 148 undef, defers := [] } from ea]
  refine Kd.R_lit k128 w.heap.size 128 g1 (N := 148) d1 (xs := rows_ucd_table) (inner := cells_ucd_table tabRows) (okp := fun _ => True) ?hrun (reps_ucd_table _ _ _ tabRows) (fun _ _ => trivial) trivial (Below.refl _ _) (Nat.le_refl _) (by decide) ?_
  case hrun =>
    unfold execOp
    rw [p1]
    have := run_ucd_table w
    simp only [Sem.run_bind, this, Result.andThen_ok, Sem.run_pure]
    rfl
  intro v1 w1 hR hB _ _
  refine wpList_plain g2 fun K hK => ?_
  unfold Oper.wp execOp
  rw [p2, d1]
  have hs := size_ucd_table
  have hd := defers_ucd_table
  revert hs hd
  generalize putAll 1 (tabRows.map (bldVal .i32 .i32 .i64)) { tmps := #[.slice none 0 0] ++ Array.replicate 148 undef, defers := [] } = A0
  intro hs hd
  simp only [Sem.run_pure, Oper.upon]
  refine hK _ _ ?_
  refine wpList_nil ?_
  simp only [Exit.then]
  refine wp_ret ?_
  have e1 : (A0.put (some 148) v1).eval (.tmp 148) = v1 := by
    simp [Act.eval, Act.put, hs]
  rw [d2, e1]
  have e2 : (((A0.put (some 148) v1).put (some 0) v1).tmps.getD 0 undef) = v1 := by
    simp [Act.put, hs]
  refine bodyPost_ret (results_tmp (t := 0) rfl _ _ _) (by simpa [Act.put] using hd) ?_
  rw [e2]
  exact ⟨v1, rfl, hR, hB⟩
/-! ### colophonref03_ranges -/
theorem build_colophonref03_ranges (x : Int × Int × Int) (w : World) : (Instr.build 133 #[(0, .int .i64 x.1), (1, .int .i64 x.2.1), (2, .int .i64 x.2.2)]).run Try.prog w = .ok (bldVal .i64 .i64 .i64 x) w := by
  obtain ⟨x0, x1, x2⟩ := x
  have h : ∀ (x0 x1 x2 : Int) (w : World), (Instr.build 133 #[(0, .int .i64 x0), (1, .int .i64 x1), (2, .int .i64 x2)]).run Try.prog w = .ok (.agg #[.int .i64 x0, .int .i64 x1, .int .i64 x2]) w := fun x0 x1 x2 w => by kernel_rfl
  exact h x0 x1 x2 w
def rows_colophonref03_ranges : List S133 := tabRows.map fun x => ⟨x.1, x.2.1, x.2.2⟩
def cells_colophonref03_ranges : List (Int × Int × Int) → List Value
  | [] => []
  | x :: xs => .int .i64 x.1 :: .int .i64 x.2.1 :: .int .i64 x.2.2 :: cells_colophonref03_ranges xs
theorem reps_colophonref03_ranges (w : World) (base : Nat) (ok : Nat → Prop) : ∀ xs : List (Int × Int × Int), Reps (k133.M w base ok) k133.sz (xs.map fun x => (⟨x.1, x.2.1, x.2.2⟩ : S133)) (cells_colophonref03_ranges xs)
  | [] => Reps.none _ _
  | x :: xs => Reps.c3 (k133_mkM w base ok ⟨x.1, x.2.1, x.2.2⟩) (reps_colophonref03_ranges w base ok xs)
theorem told_colophonref03_ranges : ((regionOf Try.f84.body).toList.take 147).map told = bldTold 133 .i64 .i64 .i64 1 tabRows := by kernel_rfl
theorem last_colophonref03_ranges : ((regionOf Try.f84.body).toList.drop 147).map told = [(none, some 148, .buildSlice 131 147 bldParts), (none, some 0, .assign (.tmp 148))] := by kernel_rfl
theorem body_colophonref03_ranges : Try.f84.body = some (.seq (headOf Try.f84.body) (.seq (.region 1 (regionOf Try.f84.body) false) .ret)) := by kernel_rfl
theorem head_colophonref03_ranges : ∃ o, headOf Try.f84.body = .region 0 #[o] false ∧ told o = (none, some 0, .assign (.const (.slice none 0 0))) := ⟨_, rfl, rfl⟩

def colophonref03_ranges.f : Option (List S133) := some rows_colophonref03_ranges
theorem size_colophonref03_ranges : (putAll 1 (tabRows.map (bldVal .i64 .i64 .i64)) { tmps := #[.slice none 0 0] ++ Array.replicate 148 undef, defers := [] }).tmps.size = 149 := by kernel_rfl
theorem defers_colophonref03_ranges : (putAll 1 (tabRows.map (bldVal .i64 .i64 .i64)) { tmps := #[.slice none 0 0] ++ Array.replicate 148 undef, defers := [] }).defers = [] := by kernel_rfl
theorem run_colophonref03_ranges (w : World) : (Instr.buildSlice 131 147 (bldParts.map fun (i, x) => (i, (putAll 1 (tabRows.map (bldVal .i64 .i64 .i64)) { tmps := #[.slice none 0 0] ++ Array.replicate 148 undef, defers := [] }).eval x))).run Try.prog w = .ok (.slice (some ⟨w.heap.size, 0, none⟩) 147 147) (w.alloc (.cells (cells_colophonref03_ranges tabRows).toArray 133)) := by kernel_rfl
set_option maxRecDepth 100000 in
theorem colophonref03_ranges.calls (r : List S133) (w : World) (h : colophonref03_ranges.f = some r) :
    Calls Try.prog 84 #[] w fun e w' => ∃ v0_ : Value, e = .returned (v0_) ∧ Kd.R k133 133 w' w.heap.size (fun _ => True) v0_ r ∧ Below w.heap.size w w' := by
  obtain rfl := Option.some.inj h
  refine calls_of_wp Try.func84 body_colophonref03_ranges ?_
  obtain ⟨o0, e0, t0⟩ := head_colophonref03_ranges
  obtain ⟨g0, d0, p0⟩ := told_op t0
  rw [e0]
  refine wp_seq ?_
  refine wp_region_lit (l := [o0]) ?_
  refine wpList_plain g0 fun K hK => ?_
  unfold Oper.wp execOp
  rw [p0]
  simp only [Act.eval, Sem.run_bind, Sem.run_pure, Result.andThen_ok, Oper.upon, d0]
  refine hK _ _ ?_
  refine wpList_nil ?_
  simp only [Exit.then]
  refine wp_seq ?_
  refine wp_region_list ?_
  rw [← List.take_append_drop 147 (regionOf Try.f84.body).toList]
  refine wpList_blds build_colophonref03_ranges tabRows 1 _ _ _ told_colophonref03_ranges ?_
  obtain ⟨o1, o2, el, t1, t2⟩ := two_ops last_colophonref03_ranges
  obtain ⟨g1, d1, p1⟩ := told_op t1
  obtain ⟨g2, d2, p2⟩ := told_op t2
  rw [el]
  have ea : (({ tmps := #[] ++ Array.replicate (Try.f84.ntmps - 0) undef, defers := [] } : Act).put (some 0) (.slice none 0 0)) = { tmps := #[.slice none 0 0] ++ Array.replicate 148 undef, defers := [] } := by kernel_rfl
  rw [show ({ tmps := #[] ++ Array.replicate (Try.f84.ntmps - #[].size) undef, defers := [] } : Act).put (some 0) (.slice none 0 0) = { tmps := #[.slice none 0 0] ++ Array.replicate 148 undef, defers := [] } from ea]
  refine Kd.R_lit k133 w.heap.size 133 g1 (N := 148) d1 (xs := rows_colophonref03_ranges) (inner := cells_colophonref03_ranges tabRows) (okp := fun _ => True) ?hrun (reps_colophonref03_ranges _ _ _ tabRows) (fun _ _ => trivial) trivial (Below.refl _ _) (Nat.le_refl _) (by decide) ?_
  case hrun =>
    unfold execOp
    rw [p1]
    have := run_colophonref03_ranges w
    simp only [Sem.run_bind, this, Result.andThen_ok, Sem.run_pure]
    rfl
  intro v1 w1 hR hB _ _
  refine wpList_plain g2 fun K hK => ?_
  unfold Oper.wp execOp
  rw [p2, d1]
  have hs := size_colophonref03_ranges
  have hd := defers_colophonref03_ranges
  revert hs hd
  generalize putAll 1 (tabRows.map (bldVal .i64 .i64 .i64)) { tmps := #[.slice none 0 0] ++ Array.replicate 148 undef, defers := [] } = A0
  intro hs hd
  simp only [Sem.run_pure, Oper.upon]
  refine hK _ _ ?_
  refine wpList_nil ?_
  simp only [Exit.then]
  refine wp_ret ?_
  have e1 : (A0.put (some 148) v1).eval (.tmp 148) = v1 := by
    simp [Act.eval, Act.put, hs]
  rw [d2, e1]
  have e2 : (((A0.put (some 148) v1).put (some 0) v1).tmps.getD 0 undef) = v1 := by
    simp [Act.put, hs]
  refine bodyPost_ret (results_tmp (t := 0) rfl _ _ _) (by simpa [Act.put] using hd) ?_
  rw [e2]
  exact ⟨v1, rfl, hR, hB⟩

end Go.Proofs.Ytenjldfflkinkaa.F

namespace Go.Proofs.Ytenjldfflkinkaa.F
open Go.RowKit Go.Proofs.YtenjldfflkinkaaW.PrintWords Go.Proofs.YtenjldfflkinkaaW.PrintLast Go.Proofs.YtenjldfflkinkaaW.PrintMore
attribute [local go_sem] max2_int min2_int max_two min_two max_three min_three max_four min_four   -- for this text's walks alone
set_option linter.unusedVariables false
set_option linter.unusedSimpArgs false

-- NOT PRINTED: function 33 (rope_of)

-- NOT PRINTED: function 46 (rope_size)

-- NOT PRINTED: function 50 (rope_breaks)

-- NOT PRINTED: function 53 (rope_deep)

/-! ### ucd_scalar: function 76 -/
def ucd_scalar.f (a0 : Int) : Option (Bool) := if a0 ≥ 0 then (if a0 < 55296 then (some true) else (if a0 > 57343 then (some (decide (a0 ≤ 1114111))) else (some false))) else (if a0 > 57343 then (some (decide (a0 ≤ 1114111))) else (some false))
set_option maxHeartbeats 8000000 in
set_option maxRecDepth 100000 in
theorem ucd_scalar.calls (a0 : Int) (r : Bool) (w : World) (h : ucd_scalar.f a0 = some r) :
    Calls Try.prog 76 #[.int .i32 a0] w fun e w' => e = .returned (.bool r) ∧ Drawn0 w w' := by
  have H : (if a0 ≥ 0 then (if a0 < 55296 then (some true) else (if a0 > 57343 then (some (decide (a0 ≤ 1114111))) else (some false))) else (if a0 > 57343 then (some (decide (a0 ≤ 1114111))) else (some false))) = some r := h
  clear h
  by_cases c2 : a0 ≥ 0
  · rw [if_pos c2] at H
    have c2b0 : decide (0 ≤ a0) = true := decide_eq_true c2
    clear c2
    by_cases c3 : a0 < 55296
    · rw [if_pos c3] at H
      have c3b0 : decide (a0 < 55296) = true := decide_eq_true c3
      clear c3
      obtain rfl := Option.some.inj H
      go_enter Try.func76, Try.ntmps76
      go_wp2
      go_ret
      exact ⟨by first | rfl | (simp; done) | (simp [*]; done), by repeat (first | exact Drawn0.refl _ | apply Drawn0.step)⟩
    · rw [if_neg c3] at H
      have c3b0 : decide (a0 < 55296) = false := decide_eq_false c3
      clear c3
      by_cases c4 : a0 > 57343
      · rw [if_pos c4] at H
        have c4b0 : decide (57343 < a0) = true := decide_eq_true c4
        clear c4
        obtain rfl := Option.some.inj H
        go_enter Try.func76, Try.ntmps76
        go_wp2
        go_ret
        exact ⟨by first | rfl | (simp; done) | (simp [*]; done), by repeat (first | exact Drawn0.refl _ | apply Drawn0.step)⟩
      · rw [if_neg c4] at H
        have c4b0 : decide (57343 < a0) = false := decide_eq_false c4
        clear c4
        obtain rfl := Option.some.inj H
        go_enter Try.func76, Try.ntmps76
        go_wp2
        go_ret
        exact ⟨by first | rfl | (simp; done) | (simp [*]; done), by repeat (first | exact Drawn0.refl _ | apply Drawn0.step)⟩
  · rw [if_neg c2] at H
    have c2b0 : decide (0 ≤ a0) = false := decide_eq_false c2
    clear c2
    by_cases c5 : a0 > 57343
    · rw [if_pos c5] at H
      have c5b0 : decide (57343 < a0) = true := decide_eq_true c5
      clear c5
      obtain rfl := Option.some.inj H
      go_enter Try.func76, Try.ntmps76
      go_wp2
      go_ret
      exact ⟨by first | rfl | (simp; done) | (simp [*]; done), by repeat (first | exact Drawn0.refl _ | apply Drawn0.step)⟩
    · rw [if_neg c5] at H
      have c5b0 : decide (57343 < a0) = false := decide_eq_false c5
      clear c5
      obtain rfl := Option.some.inj H
      go_enter Try.func76, Try.ntmps76
      go_wp2
      go_ret
      exact ⟨by first | rfl | (simp; done) | (simp [*]; done), by repeat (first | exact Drawn0.refl _ | apply Drawn0.step)⟩

end Go.Proofs.Ytenjldfflkinkaa.F

namespace Go.Proofs.Ytenjldfflkinkaa.F
set_option linter.unusedVariables false
set_option linter.unusedSimpArgs false
open Go.RowKit Go.Proofs.YtenjldfflkinkaaW.PrintWords Go.Proofs.YtenjldfflkinkaaW.PrintLast Go.Proofs.YtenjldfflkinkaaW.PrintMore

/-- The closure: does range i end at the number, or behind it? -/
theorem clsHit (i : Int) (w : World) (bl br : Nat) (A : Option Addr) (c : Nat) (xs : List S128) (r : Int)
    (hcl : w.cell? ⟨bl, 0, none⟩ = some (.slice A xs.length c)) (hcr : w.cell? ⟨br, 0, none⟩ = some (.int .i32 r)) (hC : Kd.C k128 w A xs.length xs) (h0 : 0 ≤ i) (h1 : i < xs.length) :
    Calls Try.prog 79 #[.int .i64 i, .pointer (some ⟨bl, 0, none⟩), .pointer (some ⟨br, 0, none⟩)] w fun e w' => e = .returned (.bool (decide (r ≤ (rd_T128 xs i).f1))) ∧ Drawn0 w w' := by
  obtain ⟨ad, e, c0, c1, c2⟩ := at_T128 hC i h0 h1
  cases e
  go_enter Try.func79, Try.ntmps79
  go_wp2
  go_quiet (fail)
  go_wp2
  go_ret
  exact ⟨rfl, by repeat (first | exact Drawn0.refl _ | apply Drawn0.step)⟩

theorem drawn_trans {a b c : World} (h : Drawn0 a b) (k : Drawn0 b c) : Drawn0 a c := by
  obtain ⟨n, rfl⟩ := k.out
  exact h.step n

set_option maxHeartbeats 1000000 in
/-- sort.Search at a predicate that stays true. -/
theorem srch (n : Nat) (hn : n ≤ 1000000) (g : Nat) (lb : Array Value) (p : Nat → Bool) (hm : ∀ i j, i ≤ j → j < n → p i = true → p j = true) (w : World)
    (eg : ∀ args w, (callFunc g args).run Try.prog w = .ok (.enter g args) w)
    (hp : ∀ (i : Int) (W : World), 0 ≤ i → i < n → Drawn0 w W → Calls Try.prog g (#[.int .i64 i] ++ lb) W fun e w' => e = .returned (.bool (p i.toNat)) ∧ Drawn0 W w') :
    Calls Try.prog 78 #[.int .i64 (n : Int), .func (.func g) #[] lb] w fun e w' => ∃ k : Nat, e = .returned (.int .i64 (k : Int)) ∧ k ≤ n ∧ (∀ m, m < k → p m = false) ∧ (k < n → p k = true) ∧ Drawn0 w w' := by
  have HM := Aside0.mk hm
  have HP := Aside0.mk hp
  clear hm hp
  go_enter Try.func78, Try.ntmps78
  go_wp2
  go_loopw [5, 6] (fun i j wr => ∃ lo hi : Nat, i = .int .i64 (lo : Int) ∧ j = .int .i64 (hi : Int) ∧ lo ≤ hi ∧ hi ≤ n ∧ Aside0 (∀ m, m < lo → p m = false) ∧ Aside0 (hi < n → p hi = true) ∧ Drawn0 w wr) (fun i j _ => (intOf j - intOf i).toNat)
  case atStart => exact ⟨0, n, rfl, rfl, by omega, by omega, ⟨fun m h => by omega⟩, ⟨fun h => by omega⟩, Drawn0.refl _⟩
  case round =>
    obtain ⟨lo, hi, rfl, rfl, h1, h2, A1, A2, hd⟩ := hrel
    have HD := Aside0.mk hd
    clear hd
    by_cases hlt : lo < hi
    · have hb1 : ((lo : Int) + hi) / 2 < hi := by omega
      have hb2 : (lo : Int) ≤ ((lo : Int) + hi) / 2 := by omega
      go_wp2_with fail
      refine (HP.out (((lo : Int) + hi) / 2) _ (by omega) (by omega) HD.out).mono ?_
      rintro e w2 ⟨rfl, hd2⟩
      have HD2 := Aside0.mk (drawn_trans HD.out hd2)
      clear hd2
      obtain ⟨b, hb⟩ : ∃ b, p (((lo : Int) + hi) / 2).toNat = b := ⟨_, rfl⟩
      rw [hb]
      have HB := Aside0.mk hb
      clear hb
      cases b with
      | true =>
        go_wp2_with fail
        go_roundw
        case rel => exact ⟨lo, (((lo : Int) + hi) / 2).toNat, rfl, by congr 1 <;> omega, by omega, by omega, A1, ⟨fun _ => HB.out⟩, HD2.out⟩
        case measure => simp [intOf] <;> omega
      | false =>
        go_wp2_with fail
        go_roundw
        case rel =>
          refine ⟨(((lo : Int) + hi) / 2).toNat + 1, hi, by congr 1 <;> omega, rfl, by omega, by omega, ⟨fun m hm => ?_⟩, A2, HD2.out⟩
          cases hpm : p m with
          | false => rfl
          | true =>
            have := HM.out m (((lo : Int) + hi) / 2).toNat (by omega) (by omega) hpm
            rw [HB.out] at this
            cases this
        case measure => simp [intOf] <;> omega
    · obtain rfl : lo = hi := by omega
      go_wp2_with fail
      go_ret
      exact ⟨lo, rfl, h2, A1.out, A2.out, HD.out⟩

/-! ### The function -/
def scl (a0 : Int) : Bool := decide (0 ≤ a0 ∧ a0 < 55296 ∨ 57343 < a0 ∧ a0 ≤ 1114111)
theorem ucd_scalar_is (a0 : Int) : ucd_scalar.f a0 = some (scl a0) := by
  unfold ucd_scalar.f scl
  split
  · split
    · congr 1; rw [eq_comm, decide_eq_true_iff]; omega
    · split
      · congr 1; rw [decide_eq_decide]; omega
      · congr 1; rw [eq_comm, decide_eq_false_iff_not]; omega
  · split
    · congr 1; rw [decide_eq_decide]; omega
    · congr 1; rw [eq_comm, decide_eq_false_iff_not]; omega
def tabHas (a0 : Int) (x : S128) : Bool := decide (x.f0 ≤ a0) && decide (a0 ≤ x.f1)
def tabCls (a0 : Int) : Int := match rows_ucd_table.find? (tabHas a0) with | some x => x.f2 | none => 1
def clsOf (a0 : Int) : Int := if scl a0 = true then tabCls a0 else 0
def ucd_Class.f (a0 : Int) : Option Int := some (clsOf a0)
/-- rising: each row ends at or behind its begin, and the next begins behind it -/
def rises : List S128 → Bool
  | [] => true
  | [x] => decide (x.f0 ≤ x.f1)
  | x :: y :: l => decide (x.f0 ≤ x.f1) && decide (x.f1 < y.f0) && rises (y :: l)
theorem rises_rows : rises rows_ucd_table = true := by decide +kernel
theorem rises_tail {x : S128} {l : List S128} (h : rises (x :: l) = true) : rises l = true := by
  cases l with
  | nil => rfl
  | cons y l => simp only [rises, Bool.and_eq_true] at h; exact h.2
theorem rises_head {x : S128} {l : List S128} (h : rises (x :: l) = true) : x.f0 ≤ x.f1 := by
  cases l with
  | nil => simpa [rises] using h
  | cons y l => simp only [rises, Bool.and_eq_true, decide_eq_true_eq] at h; exact h.1.1
theorem rises_behind : ∀ {l : List S128} {x : S128}, rises (x :: l) = true → ∀ y ∈ l, x.f1 < y.f0
  | [], x, h, y, hy => by cases hy
  | z :: l, x, h, y, hy => by
    have h2 := rises_tail h
    simp only [rises, Bool.and_eq_true, decide_eq_true_eq] at h
    rcases List.mem_cons.1 hy with rfl | hy
    · exact h.1.2
    · have := rises_behind h2 y hy
      have := rises_head h2
      omega
theorem rises_mem : ∀ {l : List S128}, rises l = true → ∀ y ∈ l, y.f0 ≤ y.f1
  | [], h, y, hy => by cases hy
  | x :: l, h, y, hy => by
    rcases List.mem_cons.1 hy with rfl | hy
    · exact rises_head h
    · exact rises_mem (rises_tail h) y hy
theorem rises_le : ∀ {l : List S128}, rises l = true → ∀ i j, i ≤ j → j < l.length → (l.getD i z128).f1 ≤ (l.getD j z128).f1
  | [], h, i, j, _, hj => by simp at hj
  | x :: l, h, 0, 0, _, _ => Int.le_refl _
  | x :: l, h, i + 1, 0, hij, _ => by omega
  | x :: l, h, 0, j + 1, _, hj => by
    have hj' : j < l.length := by simpa using hj
    have h1 : l[j] ∈ l := List.getElem_mem hj'
    have h2 := rises_behind h _ h1
    have h3 := rises_mem (rises_tail h) _ h1
    have h4 : ((x :: l).getD (j + 1) z128) = l[j] := by simp [List.getD_eq_getElem?_getD, List.getElem?_eq_getElem hj']
    rw [h4]
    show x.f1 ≤ _
    omega
  | x :: l, h, i + 1, j + 1, hij, hj => by
    show (l.getD i z128).f1 ≤ (l.getD j z128).f1
    exact rises_le (rises_tail h) i j (by omega) (by simpa using hj)
/-- what the search finds is the row, if any has the number -/
theorem find_hit : ∀ {l : List S128} (a0 : Int) (k : Nat), (∀ m : Nat, m < k → (l.getD m z128).f1 < a0) → k < l.length → a0 ≤ (l.getD k z128).f1 → (l.getD k z128).f0 ≤ a0 → l.find? (tabHas a0) = some (l.getD k z128)
  | [], a0, k, _, hk, _, _ => by simp at hk
  | x :: l, a0, 0, h1, hk, h2, h3 => by
    have h2' : a0 ≤ x.f1 := h2
    have h3' : x.f0 ≤ a0 := h3
    have hf : tabHas a0 x = true := by simp [tabHas, h2', h3']
    rw [List.find?_cons, hf]
    rfl
  | x :: l, a0, k + 1, h1, hk, h2, h3 => by
    have h0 : x.f1 < a0 := h1 0 (by omega)
    have hf : tabHas a0 x = false := by simp [tabHas]; omega
    rw [List.find?_cons, hf]
    exact find_hit (l := l) a0 k (fun m hm => h1 (m + 1) (by omega)) (by simpa using hk) h2 h3
theorem find_miss : ∀ {l : List S128}, rises l = true → ∀ (a0 : Int) (k : Nat), (∀ m : Nat, m < k → (l.getD m z128).f1 < a0) → (k < l.length → a0 < (l.getD k z128).f0) → l.find? (tabHas a0) = none
  | [], h, a0, k, _, _ => rfl
  | x :: l, h, a0, 0, h1, h2 => by
    have h2' : a0 < x.f0 := h2 (by simp)
    rw [List.find?_eq_none]
    intro y hy
    have h4 := rises_head h
    rcases List.mem_cons.1 hy with rfl | hy
    · simp [tabHas]; omega
    · have := rises_behind h y hy
      simp [tabHas]; omega
  | x :: l, h, a0, k + 1, h1, h2 => by
    have h0 : x.f1 < a0 := h1 0 (by omega)
    have hf : tabHas a0 x = false := by simp [tabHas]; omega
    rw [List.find?_cons, hf]
    exact find_miss (rises_tail h) a0 k (fun m hm => h1 (m + 1) (by omega)) (fun hk => h2 (by simpa using hk))

theorem ret_cls {a0 r : Int} (h : clsOf a0 = r) : Ending.returned (.int .i64 r) = .returned (.int .i64 (clsOf a0)) := by rw [h]
theorem below_cls1 {w w2 : World} (h : Below w.heap.size w w2) {o : Obj} {n : Nat} : Below w.heap.size w ((w2.alloc o).drewN n) := pw_below_drewN (h.alloc h.size _) n
theorem below_cls {w w2 : World} (h : Below w.heap.size w w2) {o : Obj} {m n : Nat} : Below w.heap.size w (((w2.alloc o).drewN m).drewN n) := pw_below_drewN (pw_below_drewN (h.alloc h.size _) m) n
set_option maxHeartbeats 2000000 in
set_option maxRecDepth 10000 in
theorem ucd_Class.calls (a0 : Int) (r : Int) (w : World) (h : ucd_Class.f a0 = some r) :
    Calls Try.prog 67 #[.int .i32 a0] w fun e w' => e = .returned (.int .i64 r) ∧ Below w.heap.size w w' := by
  obtain rfl := Option.some.inj h
  clear h
  obtain ⟨b, hb⟩ : ∃ b, scl a0 = b := ⟨_, rfl⟩
  have hs : ucd_scalar.f a0 = some b := by rw [ucd_scalar_is, hb]
  have HB := Aside0.mk hb
  have HS := Aside0.mk hs
  clear hb hs
  go_enter Try.func67, Try.ntmps67
  go_wp2_with fail
  refine (ucd_scalar.calls a0 b _ HS.out).mono ?_
  rintro e w1 ⟨rfl, ⟨n1, rfl⟩⟩
  cases b with
  | false =>
    go_wp2_with fail
    go_ret
    exact ⟨by unfold clsOf; rw [if_neg (by rw [HB.out]; simp)]; rfl, by
      have := pw_below_drewN ((Below.refl w.heap.size w).alloc (Nat.le_refl _) (.cells #[.int .i32 a0] 21)) n1
      exact this⟩
  | true =>
    go_wp2_with fail
    refine (ucd_table.calls _ _ rfl).mono ?_
    rintro e w2 ⟨v, rfl, hR, hb2⟩
    have hlen : rows_ucd_table.length ≤ 1000 := by decide
    have hcl : clsOf a0 = (match rows_ucd_table.find? (tabHas a0) with | some x => x.f2 | none => 1) := by unfold clsOf tabCls; rw [if_pos HB.out]
    have HRI := Aside0.mk rises_rows
    have HCL := Aside0.mk hcl
    clear hcl
    revert hR hlen HRI HCL
    generalize rows_ucd_table = xs
    intro hR hlen HRI HCL
    obtain ⟨A, c, rfl, hlc, hC⟩ := Kd.R_reads hR
    have hcr : (w2.alloc (.cells #[.slice A xs.length c] 124)).cell? ⟨w.heap.size, 0, none⟩ = some (.int .i32 a0) := by
      have h1 : w.heap.size < w2.heap.size := by have := hb2.size; simp at this; omega
      rw [World.cell?_alloc_lt _ _ _ (by exact h1)]
      rw [hb2.cell (p := ⟨w.heap.size, 0, none⟩) (by simp)]
      simp
    have hcl : (w2.alloc (.cells #[.slice A xs.length c] 124)).cell? ⟨w2.heap.size, 0, none⟩ = some (.slice A xs.length c) := by simp
    have hB : Below w.heap.size w w2 := ((Below.refl w.heap.size w).alloc (Nat.le_refl _) (.cells #[.int .i32 a0] 21)).trans ((pw_below_drewN (Below.refl _ _) n1).trans (hb2.mono (by simp)))
    have hC' := Kd.C_alloc hC (.cells #[.slice A xs.length c] 124)
    have HC := Aside0.mk hC'
    have HBB := Aside0.mk hB
    have HCL2 := Aside0.mk hcl
    clear hC hC' hB hR hb2
    go_wp2_with fail
    refine (srch xs.length (by omega) 79 #[.pointer (some ⟨w2.heap.size, 0, none⟩), .pointer (some ⟨w.heap.size, 0, none⟩)] (fun m => decide (a0 ≤ (xs.getD m z128).f1)) ?mono _ (enters_of Try.func79 (by kernel_rfl) rfl) ?hit).mono ?_
    case mono =>
      intro i j hij hj hi
      have := rises_le HRI.out i j hij hj
      simp only [decide_eq_true_eq] at hi ⊢
      omega
    case hit =>
      rintro i W h0 h1 ⟨m, rfl⟩
      exact clsHit i _ w2.heap.size w.heap.size A c xs a0 HCL2.out hcr (Kd.C_drewN HC.out m) h0 h1
    rintro e w3 ⟨k, rfl, hk, hlo, hhi, ⟨m, rfl⟩⟩
    have HLO := Aside0.mk hlo
    have HHI := Aside0.mk hhi
    clear hlo hhi
    have hlo' : ∀ m : Nat, m < k → (xs.getD m z128).f1 < a0 := fun m hm => by have := HLO.out m hm; simp only [decide_eq_false_iff_not] at this; omega
    by_cases hkl : k < xs.length
    · have hhi' : a0 ≤ (xs.getD k z128).f1 := by have := HHI.out hkl; simpa using this
      obtain ⟨ad, e, c0, c1, c2⟩ := at_T128 HC.out (k : Int) (by omega) (by omega)
      cases e
      have e0 : rd_T128 xs (k : Int) = xs.getD k z128 := rfl
      rw [e0] at c0 c1 c2
      simp only [Int.toNat_natCast] at c0 c1 c2
      clear e0
      have hd1 : decide (k < xs.length) = true := decide_eq_true hkl
      by_cases hf : (xs.getD k z128).f0 ≤ a0
      · have hh := find_hit a0 k hlo' hkl hhi' hf
        have hres : clsOf a0 = (xs.getD k z128).f2 := by rw [HCL.out, hh]
        have HRES := Aside0.mk hres
        have HN := Aside0.mk hlo'
        clear hh hres hhi' hlo' HC
        generalize (xs.getD k z128) = row at *
        have hd2 : decide (row.f0 ≤ a0) = true := decide_eq_true hf
        go_wp2_with fail
        go_quiet (fail)
        go_wp2
        go_ret
        exact ⟨ret_cls HRES.out, by first | exact below_cls1 HBB.out | exact below_cls HBB.out⟩
      · have hf' : a0 < (xs.getD k z128).f0 := by omega
        have hh := find_miss HRI.out a0 k hlo' (fun _ => hf')
        have hres : clsOf a0 = 1 := by rw [HCL.out, hh]
        have HRES := Aside0.mk hres
        clear hh hres hhi' hlo' HC
        generalize (xs.getD k z128) = row at *
        have hd2 : decide (row.f0 ≤ a0) = false := decide_eq_false hf
        go_wp2_with fail
        go_quiet (fail)
        go_wp2
        go_ret
        exact ⟨ret_cls HRES.out, by first | exact below_cls1 HBB.out | exact below_cls HBB.out⟩
    · have hh := find_miss HRI.out a0 k hlo' (fun h => absurd h hkl)
      have hres : clsOf a0 = 1 := by rw [HCL.out, hh]
      have HRES := Aside0.mk hres
      clear hh hres hlo' HC
      have hd1 : decide (k < xs.length) = false := decide_eq_false hkl
      go_wp2_with fail
      go_quiet (fail)
      go_wp2
      go_ret
      exact ⟨ret_cls HRES.out, by first | exact below_cls1 HBB.out | exact below_cls HBB.out⟩
end Go.Proofs.Ytenjldfflkinkaa.F

namespace Go.Proofs.Ytenjldfflkinkaa.Rop
set_option linter.unusedVariables false
set_option linter.unusedSimpArgs false
open Go.RowKit Go.Proofs.Ytenjldfflkinkaa.F Go.Proofs.YtenjldfflkinkaaW.PrintWords Go.Proofs.YtenjldfflkinkaaW.PrintLast Go.Proofs.YtenjldfflkinkaaW.PrintMore

/-- is it a separator? -/
def sep (c : Int) : Bool := decide (clsOf c = 11)
/-- A pointer to a tree, in blocks below n. -/
def NodeAt (n : Nat) (W : World) : Option Addr → RT → Prop
  | p, .nil => p = none
  | p, .node l c r => ∃ (b : Nat) (pl pr : Option Addr), p = some ⟨b, 0, none⟩ ∧ b < n ∧ W.cell? ⟨b, 0, none⟩ = some (.int .i32 c) ∧ W.cell? ⟨b, 1, none⟩ = some (.pointer pl) ∧ W.cell? ⟨b, 2, none⟩ = some (.pointer pr) ∧
      W.cell? ⟨b, 3, none⟩ = some (.int .i64 ((RT.node l c r).sz : Int)) ∧ W.cell? ⟨b, 4, none⟩ = some (.int .i64 ((RT.node l c r).dp : Int)) ∧ W.cell? ⟨b, 5, none⟩ = some (.int .i64 ((RT.node l c r).bk sep : Int)) ∧ NodeAt n W pl l ∧ NodeAt n W pr r
theorem NodeAt.below {n : Nat} {A B : World} (h : Below n A B) : ∀ {p : Option Addr} {t : RT}, NodeAt n A p t → NodeAt n B p t
  | _, .nil, ht => ht
  | _, .node _ _ _, ⟨b, pl, pr, hp, hb, h0, h1, h2, h3, h4, h5, hl, hr⟩ => ⟨b, pl, pr, hp, hb, (h.cell (p := ⟨b, 0, none⟩) hb).trans h0, (h.cell (p := ⟨b, 1, none⟩) hb).trans h1, (h.cell (p := ⟨b, 2, none⟩) hb).trans h2, (h.cell (p := ⟨b, 3, none⟩) hb).trans h3, (h.cell (p := ⟨b, 4, none⟩) hb).trans h4, (h.cell (p := ⟨b, 5, none⟩) hb).trans h5, hl.below h, hr.below h⟩
theorem NodeAt.mono {n m : Nat} {W : World} (h : n ≤ m) : ∀ {p : Option Addr} {t : RT}, NodeAt n W p t → NodeAt m W p t
  | _, .nil, ht => ht
  | _, .node _ _ _, ⟨b, pl, pr, hp, hb, h0, h1, h2, h3, h4, h5, hl, hr⟩ => ⟨b, pl, pr, hp, Nat.lt_of_lt_of_le hb h, h0, h1, h2, h3, h4, h5, hl.mono h, hr.mono h⟩
/-- A pointer to a tree, in the world as it stands. -/
def Nd (W : World) (p : Option Addr) (t : RT) : Prop := NodeAt W.heap.size W p t
theorem Nd.below {A B : World} {p : Option Addr} {t : RT} (ht : Nd A p t) (h : Below A.heap.size A B) : Nd B p t := (NodeAt.below h ht).mono h.size
theorem Nd.nil (W : World) : Nd W none .nil := rfl
theorem size_calls {w : World} {p : Option Addr} {t : RT} (h : Nd w p t) : Calls Try.prog 46 #[.pointer p] w fun e w' => e = .returned (.int .i64 (t.sz : Int)) ∧ w = w' := by
  cases t with
  | nil =>
    obtain rfl : p = none := h
    go_enter Try.func46, Try.ntmps46
    go_wp2
    go_ret
    exact ⟨rfl, rfl⟩
  | node l c r =>
    obtain ⟨b, pl, pr, rfl, hb, h0, h1, h2, h3, h4, h5, hl, hr⟩ := h
    go_enter Try.func46, Try.ntmps46
    go_wp2
    go_ret
    exact ⟨rfl, rfl⟩
theorem deep_calls {w : World} {p : Option Addr} {t : RT} (h : Nd w p t) : Calls Try.prog 53 #[.pointer p] w fun e w' => e = .returned (.int .i64 (t.dp : Int)) ∧ w = w' := by
  cases t with
  | nil =>
    obtain rfl : p = none := h
    go_enter Try.func53, Try.ntmps53
    go_wp2
    go_ret
    exact ⟨rfl, rfl⟩
  | node l c r =>
    obtain ⟨b, pl, pr, rfl, hb, h0, h1, h2, h3, h4, h5, hl, hr⟩ := h
    go_enter Try.func53, Try.ntmps53
    go_wp2
    go_ret
    exact ⟨rfl, rfl⟩
theorem breaks_calls {w : World} {p : Option Addr} {t : RT} (h : Nd w p t) : Calls Try.prog 50 #[.pointer p] w fun e w' => e = .returned (.int .i64 (t.bk sep : Int)) ∧ w = w' := by
  cases t with
  | nil =>
    obtain rfl : p = none := h
    go_enter Try.func50, Try.ntmps50
    go_wp2
    go_ret
    exact ⟨rfl, rfl⟩
  | node l c r =>
    obtain ⟨b, pl, pr, rfl, hb, h0, h1, h2, h3, h4, h5, hl, hr⟩ := h
    go_enter Try.func50, Try.ntmps50
    go_wp2
    go_ret
    exact ⟨rfl, rfl⟩
theorem cell_off {W : World} {b o o' : Nat} {v : Value} (h : o ≠ o') : (W.setCell ⟨b, o, none⟩ v).cell? ⟨b, o', none⟩ = W.cell? ⟨b, o', none⟩ :=
  World.cell?_setCell_other _ _ _ _ (by intro e; injection e with _ e2 _; exact h e2)
theorem Nd.mk {W : World} {b : Nat} {pl pr : Option Addr} {l r : RT} {c : Int} (hb : b < W.heap.size) (h0 : W.cell? ⟨b, 0, none⟩ = some (.int .i32 c)) (h1 : W.cell? ⟨b, 1, none⟩ = some (.pointer pl)) (h2 : W.cell? ⟨b, 2, none⟩ = some (.pointer pr))
    (h3 : W.cell? ⟨b, 3, none⟩ = some (.int .i64 ((RT.node l c r).sz : Int))) (h4 : W.cell? ⟨b, 4, none⟩ = some (.int .i64 ((RT.node l c r).dp : Int))) (h5 : W.cell? ⟨b, 5, none⟩ = some (.int .i64 ((RT.node l c r).bk sep : Int))) (hl : Nd W pl l) (hr : Nd W pr r) : Nd W (some ⟨b, 0, none⟩) (.node l c r) :=
  ⟨b, pl, pr, rfl, hb, h0, h1, h2, h3, h4, h5, hl, hr⟩
set_option maxHeartbeats 2000000 in
theorem made_calls {w : World} {pl pr : Option Addr} {l r : RT} {c : Int} (hl : Nd w pl l) (hr : Nd w pr r) (hs : l.sz + r.sz ≤ 1000000000000000) :
    Calls Try.prog 59 #[.pointer pl, .int .i32 c, .pointer pr] w fun e w' => ∃ p, e = .returned (.pointer p) ∧ Nd w' p (.node l c r) ∧ Below w.heap.size w w' := by
  have b1 := RT.dp_le l
  have b2 := RT.dp_le r
  have b3 := RT.bk_le sep l
  have b4 := RT.bk_le sep r
  have hcl : ucd_Class.f c = some (clsOf c) := rfl
  obtain ⟨d, hd⟩ : ∃ d : Nat, 1 + max l.dp r.dp = d := ⟨_, rfl⟩
  obtain ⟨q, hq⟩ : ∃ q : Int, clsOf c = q := ⟨_, rfl⟩
  have hbk : (RT.node l c r).bk sep = l.bk sep + r.bk sep + if q = 11 then 1 else 0 := by
    rw [← hq]
    simp [RT.bk, sep]
  have HBK := Aside0.mk hbk
  have HD := Aside0.mk hd
  rw [hq] at hcl
  have HQ := Aside0.mk hq
  have HL := Aside0.mk hl
  have HR := Aside0.mk hr
  clear hl hr hbk hq hd
  by_cases hlt : l.dp < r.dp
  all_goals
    by_cases h11 : q = 11
    · subst h11
      go_enter Try.func59, Try.ntmps59
      go_wp2_with (first
        | (go_at_call 46; (first | (with_reducible refine (size_calls HL.out).mono ?_) | (with_reducible refine (size_calls HR.out).mono ?_)); rintro e w' ⟨rfl, rfl⟩)
        | (go_at_call 53; (first | (with_reducible refine (deep_calls HL.out).mono ?_) | (with_reducible refine (deep_calls HR.out).mono ?_)); rintro e w' ⟨rfl, rfl⟩)
        | (go_at_call 50; (first | (with_reducible refine (breaks_calls HL.out).mono ?_) | (with_reducible refine (breaks_calls HR.out).mono ?_)); rintro e w' ⟨rfl, rfl⟩)
        | (go_at_call 67; refine (ucd_Class.calls _ _ _ hcl).mono ?_; rintro e w2 ⟨rfl, hb2⟩
           have hc5 := hb2.cell (p := ⟨w.heap.size, 5, none⟩) (by simp)
           have hf5 := hb2.frozen (p := ⟨w.heap.size, 5, none⟩) (by simp)
           simp at hc5 hf5))
      go_ret
      have hb := ((Below.refl w.heap.size w).alloc (Nat.le_refl _) _).trans (hb2.mono (by simp))
      have hb3 := hb.setCell (p := ⟨w.heap.size, 5, none⟩) (Nat.le_refl _) (.int .i64 ((l.bk sep : Int) + (r.bk sep : Int) + 1))
      refine ⟨_, rfl, Nd.mk (b := w.heap.size) (by have := hb2.size; simp at this; first | omega | (simp; omega)) ?_ ?_ ?_ ?_ ?_ ?_ (HL.out.below hb3) (HR.out.below hb3), hb3⟩
      · rw [cell_off (by decide)]
        exact (hb2.cell (p := ⟨w.heap.size, 0, none⟩) (by simp)).trans (by simp)
      · rw [cell_off (by decide)]
        exact (hb2.cell (p := ⟨w.heap.size, 1, none⟩) (by simp)).trans (by simp)
      · rw [cell_off (by decide)]
        exact (hb2.cell (p := ⟨w.heap.size, 2, none⟩) (by simp)).trans (by simp)
      · rw [cell_off (by decide)]
        refine (hb2.cell (p := ⟨w.heap.size, 3, none⟩) (by simp)).trans ?_
        simp [RT.sz]
      · rw [cell_off (by decide)]
        refine (hb2.cell (p := ⟨w.heap.size, 4, none⟩) (by simp)).trans ?_
        simp [RT.dp]
        omega
      · rw [World.cell?_setCell_same _ _ _ hc5, HBK.out]
        simp
    · have hq1 : (q == 11) = false := by simpa using h11
      go_enter Try.func59, Try.ntmps59
      go_wp2_with (first
        | (go_at_call 46; (first | (with_reducible refine (size_calls HL.out).mono ?_) | (with_reducible refine (size_calls HR.out).mono ?_)); rintro e w' ⟨rfl, rfl⟩)
        | (go_at_call 53; (first | (with_reducible refine (deep_calls HL.out).mono ?_) | (with_reducible refine (deep_calls HR.out).mono ?_)); rintro e w' ⟨rfl, rfl⟩)
        | (go_at_call 50; (first | (with_reducible refine (breaks_calls HL.out).mono ?_) | (with_reducible refine (breaks_calls HR.out).mono ?_)); rintro e w' ⟨rfl, rfl⟩)
        | (go_at_call 67; refine (ucd_Class.calls _ _ _ hcl).mono ?_; rintro e w2 ⟨rfl, hb2⟩))
      go_ret
      have hb := ((Below.refl w.heap.size w).alloc (Nat.le_refl _) _).trans (hb2.mono (by simp))
      refine ⟨_, rfl, Nd.mk (b := w.heap.size) (by have := hb2.size; simp at this; first | omega | (simp; omega)) ((hb2.cell (p := ⟨w.heap.size, 0, none⟩) (by simp)).trans (by simp)) ((hb2.cell (p := ⟨w.heap.size, 1, none⟩) (by simp)).trans (by simp)) ((hb2.cell (p := ⟨w.heap.size, 2, none⟩) (by simp)).trans (by simp)) ?_ ?_ ?_ (HL.out.below hb) (HR.out.below hb), hb⟩
      · refine (hb2.cell (p := ⟨w.heap.size, 3, none⟩) (by simp)).trans ?_
        simp [RT.sz]
      · refine (hb2.cell (p := ⟨w.heap.size, 4, none⟩) (by simp)).trans ?_
        simp [RT.dp]
        omega
      · refine (hb2.cell (p := ⟨w.heap.size, 5, none⟩) (by simp)).trans ?_
        rw [HBK.out, if_neg h11]
        simp
end Go.Proofs.Ytenjldfflkinkaa.Rop

namespace Go.Proofs.Ytenjldfflkinkaa.Rop
set_option linter.unusedVariables false
set_option linter.unusedSimpArgs false
open Go.RowKit Go.Proofs.Ytenjldfflkinkaa.F Go.Proofs.YtenjldfflkinkaaW.PrintWords Go.Proofs.YtenjldfflkinkaaW.PrintLast Go.Proofs.YtenjldfflkinkaaW.PrintMore

theorem Nd.drewN {w : World} {p : Option Addr} {t : RT} (h : Nd w p t) (n : Nat) : Nd (w.drewN n) p t := h.below (pw_below_drewN (Below.refl _ _) n)
theorem deep_q {w : World} {p : Option Addr} {t : RT} (h : Nd w p t) {n : Nat} : Calls Try.prog 53 #[.pointer p] (w.drewN n) fun e w'' => e = .returned (.int .i64 (t.dp : Int)) ∧ ∃ m, w'' = w.drewN m :=
  (deep_calls (h.drewN n)).mono fun _ _ ⟨he, hw⟩ => ⟨he, n, hw.symm⟩
def Gives (t : RT) (w : World) (e : Ending) (w' : World) : Prop := ∃ p, e = .returned (.pointer p) ∧ Nd w' p t ∧ Below w.heap.size w w'
set_option maxRecDepth 100000 in
set_option maxHeartbeats 4000000 in
/-- the left one is too deep, its left part is not less deep than its right one -/
theorem even_a {w : World} {pl pr : Option Addr} {ll lr r : RT} {lc c : Int} (hl : Nd w pl (RT.node ll lc lr)) (hr : Nd w pr r) (hs : ll.sz + lr.sz + r.sz ≤ 900000000000000) (h1 : r.dp + 1 < (RT.node ll lc lr).dp) (h2 : lr.dp ≤ ll.dp) :
    Calls Try.prog 73 #[.pointer pl, .int .i32 c, .pointer pr] w (Gives (RT.node ll lc (RT.node lr c r)) w) := by
  have b1 := RT.dp_le r
  have b4 := RT.dp_le (RT.node ll lc lr)
  have e1 : (RT.node ll lc lr).sz = ll.sz + (lr).sz + 1 := rfl
  obtain ⟨d, hd⟩ : ∃ d, (RT.node ll lc lr).dp = d := ⟨_, rfl⟩
  have HN := Aside0.mk hl
  have HR := Aside0.mk hr
  rw [hd] at h1 b4
  have hdb : d ≤ 1000000000000000 := by (try simp only [RT.sz] at *); omega
  have h1' : ((r.dp : Nat) : Int) + 1 < (d : Int) := by omega
  have b2 := RT.dp_le ll
  have b3 := RT.dp_le lr
  have h2' : ((lr.dp : Nat) : Int) ≤ (ll.dp : Int) := by omega
  obtain ⟨b, qa, qb, rfl, hb, c0, c1, c2, c3, c4, c5, hll, hlr⟩ := hl
  have HLL := Aside0.mk (show Nd w qa ll from hll)
  have HLR := Aside0.mk (show Nd w qb lr from hlr)
  have hdl : Calls Try.prog 53 #[.pointer (some ⟨b, 0, none⟩)] w fun e w' => e = .returned (.int .i64 (d : Int)) ∧ w = w' := by
    have := deep_calls HN.out
    rw [hd] at this
    exact this
  have hdr := deep_calls HR.out
  clear hr hd hll hlr c3 c4 c5 e1
  go_enter Try.func73, Try.ntmps73
  go_wp2_with (go_at_call 53; (first | (with_reducible refine hdl.mono ?_) | (with_reducible refine hdr.mono ?_)); rintro e w' ⟨rfl, rfl⟩)
  go_quiet ((go_at_call 53; first | exact deep_q HLL.out | exact deep_q HLR.out))
  go_wp2
  go_region_held3 (fun W' => W'.cell? ⟨b, 0, none⟩ = some (.int .i32 lc) ∧ W'.cell? ⟨b, 1, none⟩ = some (.pointer qa) ∧ W'.cell? ⟨b, 2, none⟩ = some (.pointer qb) ∧ Below w.heap.size w W')
    (((try dsimp only); (repeat' apply And.intro); all_goals (first | assumption | exact Below.refl _ _ | exact below_drew1 (pw_below_drewN (Below.refl _ _) _) | exact below_drew1 (by assumption) | exact below_step (by assumption) (by assumption) | go_keep)))
    (first
      | (go_at_call 59; (with_reducible refine (made_calls (l := lr) (r := r) (HLR.out.below (by (first | assumption | exact Below.refl _ _ | exact pw_below_drewN (Below.refl _ _) _ | exact below_drew1 (pw_below_drewN (Below.refl _ _) _) | exact below_drew1 (Below.refl _ _) | exact pw_below_drewN (by assumption) _ | exact below_drew1 (by assumption)))) (HR.out.below (by (first | assumption | exact Below.refl _ _ | exact pw_below_drewN (Below.refl _ _) _ | exact below_drew1 (pw_below_drewN (Below.refl _ _) _) | exact below_drew1 (Below.refl _ _) | exact pw_below_drewN (by assumption) _ | exact below_drew1 (by assumption)))) (by (try simp only [RT.sz]); omega)).mono ?_); rintro e w1 ⟨p1, rfl, hn1, hb1⟩; have hbt1 := below_step (w := w) (by (first | assumption | exact Below.refl _ _ | exact pw_below_drewN (Below.refl _ _) _ | exact below_drew1 (pw_below_drewN (Below.refl _ _) _) | exact below_drew1 (Below.refl _ _) | exact pw_below_drewN (by assumption) _ | exact below_drew1 (by assumption))) hb1; have k1_0 := (hbt1.cell (p := ⟨b, 0, none⟩) hb).trans c0; have k1_1 := (hbt1.cell (p := ⟨b, 1, none⟩) hb).trans c1; have k1_2 := (hbt1.cell (p := ⟨b, 2, none⟩) hb).trans c2)
      | (go_at_call 59; (with_reducible refine (made_calls (l := ll) (r := RT.node lr c r) (HLL.out.below hbt1) hn1 (by (try simp only [RT.sz]); omega)).mono ?_); rintro e w2 ⟨p2, rfl, hn2, hb2⟩; have hbt2 := below_step (w := w) hbt1 hb2; have k2_0 := (hbt2.cell (p := ⟨b, 0, none⟩) hb).trans c0; have k2_1 := (hbt2.cell (p := ⟨b, 1, none⟩) hb).trans c1; have k2_2 := (hbt2.cell (p := ⟨b, 2, none⟩) hb).trans c2))
  go_wp2
  go_ret
  exact ⟨p2, rfl, hn2, hbt2⟩
set_option maxRecDepth 100000 in
set_option maxHeartbeats 4000000 in
/-- the left one is too deep, its right part is deeper than its left one -/
theorem even_b {w : World} {pl pr : Option Addr} {ll lx ly r : RT} {lc m c : Int} (hl : Nd w pl (RT.node ll lc (RT.node lx m ly))) (hr : Nd w pr r) (hs : ll.sz + (lx.sz + ly.sz) + r.sz ≤ 900000000000000) (h1 : r.dp + 1 < (RT.node ll lc (RT.node lx m ly)).dp) (h2 : ll.dp < (RT.node lx m ly).dp) :
    Calls Try.prog 73 #[.pointer pl, .int .i32 c, .pointer pr] w (Gives (RT.node (RT.node ll lc lx) m (RT.node ly c r)) w) := by
  have b1 := RT.dp_le r
  have b4 := RT.dp_le (RT.node ll lc (RT.node lx m ly))
  have e1 : (RT.node ll lc (RT.node lx m ly)).sz = ll.sz + ((RT.node lx m ly)).sz + 1 := rfl
  obtain ⟨d, hd⟩ : ∃ d, (RT.node ll lc (RT.node lx m ly)).dp = d := ⟨_, rfl⟩
  have HN := Aside0.mk hl
  have HR := Aside0.mk hr
  rw [hd] at h1 b4
  have hdb : d ≤ 1000000000000000 := by (try simp only [RT.sz] at *); omega
  have h1' : ((r.dp : Nat) : Int) + 1 < (d : Int) := by omega
  have e2 : (RT.node lx m ly).sz = lx.sz + ly.sz + 1 := rfl
  have b2 := RT.dp_le ll
  have b3 := RT.dp_le (RT.node lx m ly)
  obtain ⟨d2, hd2⟩ : ∃ d, (RT.node lx m ly).dp = d := ⟨_, rfl⟩
  rw [hd2] at h2 b3
  have h2' : ((ll.dp : Nat) : Int) < (d2 : Int) := by omega
  obtain ⟨b, qa, qb, rfl, hb, c0, c1, c2, c3, c4, c5, hll, hlr⟩ := hl
  have HLL := Aside0.mk (show Nd w qa ll from hll)
  have HM := Aside0.mk (show Nd w qb (RT.node lx m ly) from hlr)
  obtain ⟨g, qx, qy, rfl, hg, g0, g1, g2, g3, g4, g5, hlx, hly⟩ := hlr
  have HLX := Aside0.mk (show Nd w qx lx from hlx)
  have HLY := Aside0.mk (show Nd w qy ly from hly)
  have hdl : Calls Try.prog 53 #[.pointer (some ⟨b, 0, none⟩)] w fun e w' => e = .returned (.int .i64 (d : Int)) ∧ w = w' := by
    have := deep_calls HN.out
    rw [hd] at this
    exact this
  have hdr := deep_calls HR.out
  have hdm : ∀ n, Calls Try.prog 53 #[.pointer (some ⟨g, 0, none⟩)] (w.drewN n) fun e w'' => e = .returned (.int .i64 (d2 : Int)) ∧ ∃ k, w'' = w.drewN k := fun n => by
    have := deep_q HM.out (n := n)
    rw [hd2] at this
    exact this
  clear hr hd hd2 hll hlx hly c3 c4 c5 g3 g4 g5 e1 e2
  go_enter Try.func73, Try.ntmps73
  go_wp2_with (go_at_call 53; (first | (with_reducible refine hdl.mono ?_) | (with_reducible refine hdr.mono ?_)); rintro e w' ⟨rfl, rfl⟩)
  go_quiet ((go_at_call 53; first | exact deep_q HLL.out | exact hdm _))
  go_wp2
  go_region_held3 (fun W' => W'.cell? ⟨b, 0, none⟩ = some (.int .i32 lc) ∧ W'.cell? ⟨b, 1, none⟩ = some (.pointer qa) ∧ W'.cell? ⟨g, 0, none⟩ = some (.int .i32 m) ∧ W'.cell? ⟨g, 1, none⟩ = some (.pointer qx) ∧ W'.cell? ⟨g, 2, none⟩ = some (.pointer qy) ∧ Below w.heap.size w W')
    (((try dsimp only); (repeat' apply And.intro); all_goals (first | assumption | exact Below.refl _ _ | exact below_drew1 (pw_below_drewN (Below.refl _ _) _) | exact below_drew1 (by assumption) | exact below_step (by assumption) (by assumption) | go_keep)))
    (first
      | (go_at_call 59; (with_reducible refine (made_calls (l := ll) (r := lx) (HLL.out.below (by (first | assumption | exact Below.refl _ _ | exact pw_below_drewN (Below.refl _ _) _ | exact below_drew1 (pw_below_drewN (Below.refl _ _) _) | exact below_drew1 (Below.refl _ _) | exact pw_below_drewN (by assumption) _ | exact below_drew1 (by assumption)))) (HLX.out.below (by (first | assumption | exact Below.refl _ _ | exact pw_below_drewN (Below.refl _ _) _ | exact below_drew1 (pw_below_drewN (Below.refl _ _) _) | exact below_drew1 (Below.refl _ _) | exact pw_below_drewN (by assumption) _ | exact below_drew1 (by assumption)))) (by (try simp only [RT.sz]); omega)).mono ?_); rintro e w1 ⟨p1, rfl, hn1, hb1⟩; have hbt1 := below_step (w := w) (by (first | assumption | exact Below.refl _ _ | exact pw_below_drewN (Below.refl _ _) _ | exact below_drew1 (pw_below_drewN (Below.refl _ _) _) | exact below_drew1 (Below.refl _ _) | exact pw_below_drewN (by assumption) _ | exact below_drew1 (by assumption))) hb1; have k1_0 := (hbt1.cell (p := ⟨b, 0, none⟩) hb).trans c0; have k1_1 := (hbt1.cell (p := ⟨b, 1, none⟩) hb).trans c1; have k1_2 := (hbt1.cell (p := ⟨g, 0, none⟩) hg).trans g0; have k1_3 := (hbt1.cell (p := ⟨g, 1, none⟩) hg).trans g1; have k1_4 := (hbt1.cell (p := ⟨g, 2, none⟩) hg).trans g2)
      | (go_at_call 59; (with_reducible refine (made_calls (l := ly) (r := r) (HLY.out.below hbt1) (HR.out.below hbt1) (by (try simp only [RT.sz]); omega)).mono ?_); rintro e w2 ⟨p2, rfl, hn2, hb2⟩; have hbt2 := below_step (w := w) hbt1 hb2; have k2_0 := (hbt2.cell (p := ⟨b, 0, none⟩) hb).trans c0; have k2_1 := (hbt2.cell (p := ⟨b, 1, none⟩) hb).trans c1; have k2_2 := (hbt2.cell (p := ⟨g, 0, none⟩) hg).trans g0; have k2_3 := (hbt2.cell (p := ⟨g, 1, none⟩) hg).trans g1; have k2_4 := (hbt2.cell (p := ⟨g, 2, none⟩) hg).trans g2)
      | (go_at_call 59; (with_reducible refine (made_calls (l := RT.node ll lc lx) (r := RT.node ly c r) (hn1.below hb2) hn2 (by (try simp only [RT.sz]); omega)).mono ?_); rintro e w3 ⟨p3, rfl, hn3, hb3⟩; have hbt3 := below_step (w := w) hbt2 hb3; have k3_0 := (hbt3.cell (p := ⟨b, 0, none⟩) hb).trans c0; have k3_1 := (hbt3.cell (p := ⟨b, 1, none⟩) hb).trans c1; have k3_2 := (hbt3.cell (p := ⟨g, 0, none⟩) hg).trans g0; have k3_3 := (hbt3.cell (p := ⟨g, 1, none⟩) hg).trans g1; have k3_4 := (hbt3.cell (p := ⟨g, 2, none⟩) hg).trans g2))
  go_wp2
  go_ret
  exact ⟨p3, rfl, hn3, hbt3⟩
set_option maxRecDepth 100000 in
set_option maxHeartbeats 4000000 in
/-- the right one is too deep, its right part is not less deep than its left one -/
theorem even_c {w : World} {pl pr : Option Addr} {l rl rr : RT} {rc c : Int} (hl : Nd w pl l) (hr : Nd w pr (RT.node rl rc rr)) (hs : l.sz + rl.sz + rr.sz ≤ 900000000000000) (h1 : l.dp + 1 < (RT.node rl rc rr).dp) (h2 : rl.dp ≤ rr.dp) :
    Calls Try.prog 73 #[.pointer pl, .int .i32 c, .pointer pr] w (Gives (RT.node (RT.node l c rl) rc rr) w) := by
  have b1 := RT.dp_le l
  have b4 := RT.dp_le (RT.node rl rc rr)
  have e1 : (RT.node rl rc rr).sz = (rl).sz + rr.sz + 1 := rfl
  obtain ⟨d, hd⟩ : ∃ d, (RT.node rl rc rr).dp = d := ⟨_, rfl⟩
  have HN := Aside0.mk hr
  have HL := Aside0.mk hl
  rw [hd] at h1 b4
  have hdb : d ≤ 1000000000000000 := by (try simp only [RT.sz] at *); omega
  have h1' : ((l.dp : Nat) : Int) + 1 < (d : Int) := by omega
  have h0' : ((l.dp : Nat) : Int) ≤ (d : Int) + 1 := by omega
  have b2 := RT.dp_le rl
  have b3 := RT.dp_le rr
  have h2' : ((rl.dp : Nat) : Int) ≤ (rr.dp : Int) := by omega
  obtain ⟨b, qa, qb, rfl, hb, c0, c1, c2, c3, c4, c5, hrl, hrr⟩ := hr
  have HRL := Aside0.mk (show Nd w qa rl from hrl)
  have HRR := Aside0.mk (show Nd w qb rr from hrr)
  have hdr : Calls Try.prog 53 #[.pointer (some ⟨b, 0, none⟩)] w fun e w' => e = .returned (.int .i64 (d : Int)) ∧ w = w' := by
    have := deep_calls HN.out
    rw [hd] at this
    exact this
  have hdl := deep_calls HL.out
  clear hl hd hrl hrr c3 c4 c5 e1
  go_enter Try.func73, Try.ntmps73
  go_wp2_with (go_at_call 53; (first | (with_reducible refine hdl.mono ?_) | (with_reducible refine hdr.mono ?_)); rintro e w' ⟨rfl, rfl⟩)
  go_quiet ((go_at_call 53; first | exact deep_q HRL.out | exact deep_q HRR.out))
  go_wp2
  go_region_held3 (fun W' => W'.cell? ⟨b, 0, none⟩ = some (.int .i32 rc) ∧ W'.cell? ⟨b, 1, none⟩ = some (.pointer qa) ∧ W'.cell? ⟨b, 2, none⟩ = some (.pointer qb) ∧ Below w.heap.size w W')
    (((try dsimp only); (repeat' apply And.intro); all_goals (first | assumption | exact Below.refl _ _ | exact below_drew1 (pw_below_drewN (Below.refl _ _) _) | exact below_drew1 (by assumption) | exact below_step (by assumption) (by assumption) | go_keep)))
    (first
      | (go_at_call 59; (with_reducible refine (made_calls (l := l) (r := rl) (HL.out.below (by (first | assumption | exact Below.refl _ _ | exact pw_below_drewN (Below.refl _ _) _ | exact below_drew1 (pw_below_drewN (Below.refl _ _) _) | exact below_drew1 (Below.refl _ _) | exact pw_below_drewN (by assumption) _ | exact below_drew1 (by assumption)))) (HRL.out.below (by (first | assumption | exact Below.refl _ _ | exact pw_below_drewN (Below.refl _ _) _ | exact below_drew1 (pw_below_drewN (Below.refl _ _) _) | exact below_drew1 (Below.refl _ _) | exact pw_below_drewN (by assumption) _ | exact below_drew1 (by assumption)))) (by (try simp only [RT.sz]); omega)).mono ?_); rintro e w1 ⟨p1, rfl, hn1, hb1⟩; have hbt1 := below_step (w := w) (by (first | assumption | exact Below.refl _ _ | exact pw_below_drewN (Below.refl _ _) _ | exact below_drew1 (pw_below_drewN (Below.refl _ _) _) | exact below_drew1 (Below.refl _ _) | exact pw_below_drewN (by assumption) _ | exact below_drew1 (by assumption))) hb1; have k1_0 := (hbt1.cell (p := ⟨b, 0, none⟩) hb).trans c0; have k1_1 := (hbt1.cell (p := ⟨b, 1, none⟩) hb).trans c1; have k1_2 := (hbt1.cell (p := ⟨b, 2, none⟩) hb).trans c2)
      | (go_at_call 59; (with_reducible refine (made_calls (l := RT.node l c rl) (r := rr) hn1 (HRR.out.below hbt1) (by (try simp only [RT.sz]); omega)).mono ?_); rintro e w2 ⟨p2, rfl, hn2, hb2⟩; have hbt2 := below_step (w := w) hbt1 hb2; have k2_0 := (hbt2.cell (p := ⟨b, 0, none⟩) hb).trans c0; have k2_1 := (hbt2.cell (p := ⟨b, 1, none⟩) hb).trans c1; have k2_2 := (hbt2.cell (p := ⟨b, 2, none⟩) hb).trans c2))
  go_wp2
  go_ret
  exact ⟨p2, rfl, hn2, hbt2⟩
set_option maxRecDepth 100000 in
set_option maxHeartbeats 4000000 in
/-- the right one is too deep, its left part is deeper than its right one -/
theorem even_d {w : World} {pl pr : Option Addr} {l rx ry rr : RT} {rc m c : Int} (hl : Nd w pl l) (hr : Nd w pr (RT.node (RT.node rx m ry) rc rr)) (hs : l.sz + (rx.sz + ry.sz) + rr.sz ≤ 900000000000000) (h1 : l.dp + 1 < (RT.node (RT.node rx m ry) rc rr).dp) (h2 : rr.dp < (RT.node rx m ry).dp) :
    Calls Try.prog 73 #[.pointer pl, .int .i32 c, .pointer pr] w (Gives (RT.node (RT.node l c rx) m (RT.node ry rc rr)) w) := by
  have b1 := RT.dp_le l
  have b4 := RT.dp_le (RT.node (RT.node rx m ry) rc rr)
  have e1 : (RT.node (RT.node rx m ry) rc rr).sz = ((RT.node rx m ry)).sz + rr.sz + 1 := rfl
  obtain ⟨d, hd⟩ : ∃ d, (RT.node (RT.node rx m ry) rc rr).dp = d := ⟨_, rfl⟩
  have HN := Aside0.mk hr
  have HL := Aside0.mk hl
  rw [hd] at h1 b4
  have hdb : d ≤ 1000000000000000 := by (try simp only [RT.sz] at *); omega
  have h1' : ((l.dp : Nat) : Int) + 1 < (d : Int) := by omega
  have h0' : ((l.dp : Nat) : Int) ≤ (d : Int) + 1 := by omega
  have e2 : (RT.node rx m ry).sz = rx.sz + ry.sz + 1 := rfl
  have b2 := RT.dp_le rr
  have b3 := RT.dp_le (RT.node rx m ry)
  obtain ⟨d2, hd2⟩ : ∃ d, (RT.node rx m ry).dp = d := ⟨_, rfl⟩
  rw [hd2] at h2 b3
  have h2' : ((rr.dp : Nat) : Int) < (d2 : Int) := by omega
  obtain ⟨b, qa, qb, rfl, hb, c0, c1, c2, c3, c4, c5, hrl, hrr⟩ := hr
  have HRR := Aside0.mk (show Nd w qb rr from hrr)
  have HM := Aside0.mk (show Nd w qa (RT.node rx m ry) from hrl)
  obtain ⟨g, qx, qy, rfl, hg, g0, g1, g2, g3, g4, g5, hrx, hry⟩ := hrl
  have HRX := Aside0.mk (show Nd w qx rx from hrx)
  have HRY := Aside0.mk (show Nd w qy ry from hry)
  have hdr : Calls Try.prog 53 #[.pointer (some ⟨b, 0, none⟩)] w fun e w' => e = .returned (.int .i64 (d : Int)) ∧ w = w' := by
    have := deep_calls HN.out
    rw [hd] at this
    exact this
  have hdl := deep_calls HL.out
  have hdm : ∀ n, Calls Try.prog 53 #[.pointer (some ⟨g, 0, none⟩)] (w.drewN n) fun e w'' => e = .returned (.int .i64 (d2 : Int)) ∧ ∃ k, w'' = w.drewN k := fun n => by
    have := deep_q HM.out (n := n)
    rw [hd2] at this
    exact this
  clear hl hd hd2 hrr hrx hry c3 c4 c5 g3 g4 g5 e1 e2
  go_enter Try.func73, Try.ntmps73
  go_wp2_with (go_at_call 53; (first | (with_reducible refine hdl.mono ?_) | (with_reducible refine hdr.mono ?_)); rintro e w' ⟨rfl, rfl⟩)
  go_quiet ((go_at_call 53; first | exact hdm _ | exact deep_q HRR.out))
  go_wp2
  go_region_held3 (fun W' => W'.cell? ⟨b, 0, none⟩ = some (.int .i32 rc) ∧ W'.cell? ⟨b, 2, none⟩ = some (.pointer qb) ∧ W'.cell? ⟨g, 0, none⟩ = some (.int .i32 m) ∧ W'.cell? ⟨g, 1, none⟩ = some (.pointer qx) ∧ W'.cell? ⟨g, 2, none⟩ = some (.pointer qy) ∧ Below w.heap.size w W')
    (((try dsimp only); (repeat' apply And.intro); all_goals (first | assumption | exact Below.refl _ _ | exact below_drew1 (pw_below_drewN (Below.refl _ _) _) | exact below_drew1 (by assumption) | exact below_step (by assumption) (by assumption) | go_keep)))
    (first
      | (go_at_call 59; (with_reducible refine (made_calls (l := l) (r := rx) (HL.out.below (by (first | assumption | exact Below.refl _ _ | exact pw_below_drewN (Below.refl _ _) _ | exact below_drew1 (pw_below_drewN (Below.refl _ _) _) | exact below_drew1 (Below.refl _ _) | exact pw_below_drewN (by assumption) _ | exact below_drew1 (by assumption)))) (HRX.out.below (by (first | assumption | exact Below.refl _ _ | exact pw_below_drewN (Below.refl _ _) _ | exact below_drew1 (pw_below_drewN (Below.refl _ _) _) | exact below_drew1 (Below.refl _ _) | exact pw_below_drewN (by assumption) _ | exact below_drew1 (by assumption)))) (by (try simp only [RT.sz]); omega)).mono ?_); rintro e w1 ⟨p1, rfl, hn1, hb1⟩; have hbt1 := below_step (w := w) (by (first | assumption | exact Below.refl _ _ | exact pw_below_drewN (Below.refl _ _) _ | exact below_drew1 (pw_below_drewN (Below.refl _ _) _) | exact below_drew1 (Below.refl _ _) | exact pw_below_drewN (by assumption) _ | exact below_drew1 (by assumption))) hb1; have k1_0 := (hbt1.cell (p := ⟨b, 0, none⟩) hb).trans c0; have k1_1 := (hbt1.cell (p := ⟨b, 2, none⟩) hb).trans c2; have k1_2 := (hbt1.cell (p := ⟨g, 0, none⟩) hg).trans g0; have k1_3 := (hbt1.cell (p := ⟨g, 1, none⟩) hg).trans g1; have k1_4 := (hbt1.cell (p := ⟨g, 2, none⟩) hg).trans g2)
      | (go_at_call 59; (with_reducible refine (made_calls (l := ry) (r := rr) (HRY.out.below hbt1) (HRR.out.below hbt1) (by (try simp only [RT.sz]); omega)).mono ?_); rintro e w2 ⟨p2, rfl, hn2, hb2⟩; have hbt2 := below_step (w := w) hbt1 hb2; have k2_0 := (hbt2.cell (p := ⟨b, 0, none⟩) hb).trans c0; have k2_1 := (hbt2.cell (p := ⟨b, 2, none⟩) hb).trans c2; have k2_2 := (hbt2.cell (p := ⟨g, 0, none⟩) hg).trans g0; have k2_3 := (hbt2.cell (p := ⟨g, 1, none⟩) hg).trans g1; have k2_4 := (hbt2.cell (p := ⟨g, 2, none⟩) hg).trans g2)
      | (go_at_call 59; (with_reducible refine (made_calls (l := RT.node l c rx) (r := RT.node ry rc rr) (hn1.below hb2) hn2 (by (try simp only [RT.sz]); omega)).mono ?_); rintro e w3 ⟨p3, rfl, hn3, hb3⟩; have hbt3 := below_step (w := w) hbt2 hb3; have k3_0 := (hbt3.cell (p := ⟨b, 0, none⟩) hb).trans c0; have k3_1 := (hbt3.cell (p := ⟨b, 2, none⟩) hb).trans c2; have k3_2 := (hbt3.cell (p := ⟨g, 0, none⟩) hg).trans g0; have k3_3 := (hbt3.cell (p := ⟨g, 1, none⟩) hg).trans g1; have k3_4 := (hbt3.cell (p := ⟨g, 2, none⟩) hg).trans g2))
  go_wp2
  go_ret
  exact ⟨p3, rfl, hn3, hbt3⟩
set_option maxRecDepth 100000 in
set_option maxHeartbeats 4000000 in
/-- none of the two is too deep -/
theorem even_e {w : World} {pl pr : Option Addr} {l r : RT} {c : Int} (hl : Nd w pl l) (hr : Nd w pr r) (hs : l.sz + r.sz ≤ 900000000000000) (h1 : l.dp ≤ r.dp + 1) (h2 : r.dp ≤ l.dp + 1) :
    Calls Try.prog 73 #[.pointer pl, .int .i32 c, .pointer pr] w (Gives (RT.node l c r) w) := by
  have b1 := RT.dp_le l
  have b2 := RT.dp_le r
  have HL := Aside0.mk hl
  have HR := Aside0.mk hr
  clear hl hr
  have h1' : ((l.dp : Nat) : Int) ≤ (r.dp : Int) + 1 := by omega
  have h2' : ((r.dp : Nat) : Int) ≤ (l.dp : Int) + 1 := by omega
  go_enter Try.func73, Try.ntmps73
  go_wp2_with (first
    | (go_at_call 53; (first | (with_reducible refine (deep_calls HL.out).mono ?_) | (with_reducible refine (deep_calls HR.out).mono ?_)); rintro e w' ⟨rfl, rfl⟩)
    | (go_at_call 59; refine (made_calls HL.out HR.out (by omega)).mono ?_; rintro e w1 ⟨p1, rfl, hn1, hb1⟩))
  go_ret
  exact ⟨p1, rfl, hn1, hb1⟩
theorem even_calls {w : World} {pl pr : Option Addr} {l r : RT} {c : Int} (hl : Nd w pl l) (hr : Nd w pr r) (hs : l.sz + r.sz ≤ 900000000000000) :
    Calls Try.prog 73 #[.pointer pl, .int .i32 c, .pointer pr] w (Gives (RT.even l c r) w) := by
  unfold RT.even
  by_cases h1 : r.dp + 1 < l.dp
  · rw [if_pos h1]
    cases l with
    | nil => simp [RT.dp] at h1
    | node ll lc lr =>
      simp only [RT.sz] at hs
      simp only []
      by_cases h2 : lr.dp ≤ ll.dp
      · rw [if_pos h2]
        exact even_a hl hr (by omega) h1 h2
      · rw [if_neg h2]
        cases lr with
        | nil => simp [RT.dp] at h2
        | node a m b =>
          simp only [RT.sz] at hs
          exact even_b hl hr (by omega) h1 (by omega)
  · rw [if_neg h1]
    by_cases h2 : l.dp + 1 < r.dp
    · rw [if_pos h2]
      cases r with
      | nil => simp [RT.dp] at h2
      | node rl rc rr =>
        simp only [RT.sz] at hs
        simp only []
        by_cases h3 : rl.dp ≤ rr.dp
        · rw [if_pos h3]
          exact even_c hl hr (by omega) h2 h3
        · rw [if_neg h3]
          cases rl with
          | nil => simp [RT.dp] at h3
          | node a m b =>
            simp only [RT.sz] at hs
            exact even_d hl hr (by omega) h2 (by omega)
    · rw [if_neg h2]
      exact even_e hl hr hs (by omega) (by omega)
end Go.Proofs.Ytenjldfflkinkaa.Rop

namespace Go.Proofs.Ytenjldfflkinkaa.Rop
set_option linter.unusedVariables false
set_option linter.unusedSimpArgs false
open Go.RowKit Go.Proofs.Ytenjldfflkinkaa.F Go.Proofs.YtenjldfflkinkaaW.PrintWords Go.Proofs.YtenjldfflkinkaaW.PrintLast Go.Proofs.YtenjldfflkinkaaW.PrintMore

set_option maxRecDepth 100000 in
set_option maxHeartbeats 4000000 in
/-- the left one is deeper -/
theorem join_a {w : World} {pl pr : Option Addr} {ll lr r : RT} {lc c : Int} (hl : Nd w pl (RT.node ll lc lr)) (hr : Nd w pr r) (hs : ll.sz + lr.sz + r.sz ≤ 800000000000000) (h1 : r.dp + 1 < (RT.node ll lc lr).dp)
    (ih : ∀ {w : World} {pl pr : Option Addr}, Nd w pl lr → Nd w pr r → Calls Try.prog 64 #[.pointer pl, .int .i32 c, .pointer pr] w (Gives (RT.join lr c r) w)) :
    Calls Try.prog 64 #[.pointer pl, .int .i32 c, .pointer pr] w (Gives (RT.even ll lc (RT.join lr c r)) w) := by
  have b1 := RT.dp_le r
  have b4 := RT.dp_le (RT.node ll lc lr)
  have e1 : (RT.node ll lc lr).sz = ll.sz + lr.sz + 1 := rfl
  have e2 := RT.sz_join lr c r
  have hsj : ll.sz + (RT.join lr c r).sz ≤ 900000000000000 := by omega
  obtain ⟨d, hd⟩ : ∃ d, (RT.node ll lc lr).dp = d := ⟨_, rfl⟩
  have HN := Aside0.mk hl
  have HR := Aside0.mk hr
  rw [hd] at h1 b4
  have h1' : ((r.dp : Nat) : Int) + 1 < (d : Int) := by omega
  obtain ⟨b, qa, qb, rfl, hb, c0, c1, c2, c3, c4, c5, hll, hlr⟩ := hl
  have HLL := Aside0.mk (show Nd w qa ll from hll)
  have HLR := Aside0.mk (show Nd w qb lr from hlr)
  have hdl : Calls Try.prog 53 #[.pointer (some ⟨b, 0, none⟩)] w fun e w' => e = .returned (.int .i64 (d : Int)) ∧ w = w' := by
    have := deep_calls HN.out
    rw [hd] at this
    exact this
  have hdr := deep_calls HR.out
  clear hr hd hll hlr c3 c4 c5 e1 e2
  go_enter Try.func64, Try.ntmps64
  go_wp2_with (go_at_call 53; (first | (with_reducible refine hdl.mono ?_) | (with_reducible refine hdr.mono ?_)); rintro e w' ⟨rfl, rfl⟩)
  go_region_held3 (fun W' => W'.cell? ⟨b, 0, none⟩ = some (.int .i32 lc) ∧ W'.cell? ⟨b, 1, none⟩ = some (.pointer qa) ∧ W'.cell? ⟨b, 2, none⟩ = some (.pointer qb) ∧ Below w.heap.size w W')
    (((try dsimp only); (repeat' apply And.intro); all_goals (first | assumption | exact Below.refl _ _ | exact below_drew1 (pw_below_drewN (Below.refl _ _) _) | exact below_drew1 (Below.refl _ _) | exact below_drew1 (by assumption) | exact below_step (by assumption) (by assumption) | go_keep)))
    (first
      | (go_at_call 64; (with_reducible refine (ih (HLR.out.below (by (first | assumption | exact Below.refl _ _ | exact pw_below_drewN (Below.refl _ _) _ | exact below_drew1 (pw_below_drewN (Below.refl _ _) _) | exact below_drew1 (Below.refl _ _) | exact pw_below_drewN (by assumption) _ | exact below_drew1 (by assumption)))) (HR.out.below (by (first | assumption | exact Below.refl _ _ | exact pw_below_drewN (Below.refl _ _) _ | exact below_drew1 (pw_below_drewN (Below.refl _ _) _) | exact below_drew1 (Below.refl _ _) | exact pw_below_drewN (by assumption) _ | exact below_drew1 (by assumption))))).mono ?_); rintro e w1 ⟨p1, rfl, hn1, hb1⟩; have hbt1 := below_step (w := w) (by (first | assumption | exact Below.refl _ _ | exact pw_below_drewN (Below.refl _ _) _ | exact below_drew1 (pw_below_drewN (Below.refl _ _) _) | exact below_drew1 (Below.refl _ _) | exact pw_below_drewN (by assumption) _ | exact below_drew1 (by assumption))) hb1; have k1_0 := (hbt1.cell (p := ⟨b, 0, none⟩) hb).trans c0; have k1_1 := (hbt1.cell (p := ⟨b, 1, none⟩) hb).trans c1; have k1_2 := (hbt1.cell (p := ⟨b, 2, none⟩) hb).trans c2)
      | (go_at_call 73; (with_reducible refine (even_calls (l := ll) (HLL.out.below hbt1) hn1 hsj).mono ?_); rintro e w2 ⟨p2, rfl, hn2, hb2⟩; have hbt2 := below_step (w := w) hbt1 hb2; have k2_0 := (hbt2.cell (p := ⟨b, 0, none⟩) hb).trans c0; have k2_1 := (hbt2.cell (p := ⟨b, 1, none⟩) hb).trans c1; have k2_2 := (hbt2.cell (p := ⟨b, 2, none⟩) hb).trans c2))
  go_wp2
  go_ret
  exact ⟨p2, rfl, hn2, hbt2⟩
set_option maxRecDepth 100000 in
set_option maxHeartbeats 4000000 in
/-- the right one is deeper -/
theorem join_b {w : World} {pl pr : Option Addr} {l rl rr : RT} {rc c : Int} (hl : Nd w pl l) (hr : Nd w pr (RT.node rl rc rr)) (hs : l.sz + rl.sz + rr.sz ≤ 800000000000000) (h1 : l.dp + 1 < (RT.node rl rc rr).dp)
    (ih : ∀ {w : World} {pl pr : Option Addr}, Nd w pl l → Nd w pr rl → Calls Try.prog 64 #[.pointer pl, .int .i32 c, .pointer pr] w (Gives (RT.join l c rl) w)) :
    Calls Try.prog 64 #[.pointer pl, .int .i32 c, .pointer pr] w (Gives (RT.even (RT.join l c rl) rc rr) w) := by
  have b1 := RT.dp_le l
  have b4 := RT.dp_le (RT.node rl rc rr)
  have e1 : (RT.node rl rc rr).sz = rl.sz + rr.sz + 1 := rfl
  have e2 := RT.sz_join l c rl
  have hsj : (RT.join l c rl).sz + rr.sz ≤ 900000000000000 := by omega
  obtain ⟨d, hd⟩ : ∃ d, (RT.node rl rc rr).dp = d := ⟨_, rfl⟩
  have HN := Aside0.mk hr
  have HL := Aside0.mk hl
  rw [hd] at h1 b4
  have hdb : d ≤ 1000000000000000 := by omega
  have h1' : ((l.dp : Nat) : Int) + 1 < (d : Int) := by omega
  have h0' : ((l.dp : Nat) : Int) ≤ (d : Int) + 1 := by omega
  obtain ⟨b, qa, qb, rfl, hb, c0, c1, c2, c3, c4, c5, hrl, hrr⟩ := hr
  have HRL := Aside0.mk (show Nd w qa rl from hrl)
  have HRR := Aside0.mk (show Nd w qb rr from hrr)
  have hdr : Calls Try.prog 53 #[.pointer (some ⟨b, 0, none⟩)] w fun e w' => e = .returned (.int .i64 (d : Int)) ∧ w = w' := by
    have := deep_calls HN.out
    rw [hd] at this
    exact this
  have hdl := deep_calls HL.out
  clear hl hd hrl hrr c3 c4 c5 e1 e2
  go_enter Try.func64, Try.ntmps64
  go_wp2_with (go_at_call 53; (first | (with_reducible refine hdl.mono ?_) | (with_reducible refine hdr.mono ?_)); rintro e w' ⟨rfl, rfl⟩)
  go_region_held3 (fun W' => W'.cell? ⟨b, 0, none⟩ = some (.int .i32 rc) ∧ W'.cell? ⟨b, 1, none⟩ = some (.pointer qa) ∧ W'.cell? ⟨b, 2, none⟩ = some (.pointer qb) ∧ Below w.heap.size w W')
    (((try dsimp only); (repeat' apply And.intro); all_goals (first | assumption | exact Below.refl _ _ | exact below_drew1 (pw_below_drewN (Below.refl _ _) _) | exact below_drew1 (Below.refl _ _) | exact below_drew1 (by assumption) | exact below_step (by assumption) (by assumption) | go_keep)))
    (first
      | (go_at_call 64; (with_reducible refine (ih (HL.out.below (by (first | assumption | exact Below.refl _ _ | exact pw_below_drewN (Below.refl _ _) _ | exact below_drew1 (pw_below_drewN (Below.refl _ _) _) | exact below_drew1 (Below.refl _ _) | exact pw_below_drewN (by assumption) _ | exact below_drew1 (by assumption)))) (HRL.out.below (by (first | assumption | exact Below.refl _ _ | exact pw_below_drewN (Below.refl _ _) _ | exact below_drew1 (pw_below_drewN (Below.refl _ _) _) | exact below_drew1 (Below.refl _ _) | exact pw_below_drewN (by assumption) _ | exact below_drew1 (by assumption))))).mono ?_); rintro e w1 ⟨p1, rfl, hn1, hb1⟩; have hbt1 := below_step (w := w) (by (first | assumption | exact Below.refl _ _ | exact pw_below_drewN (Below.refl _ _) _ | exact below_drew1 (pw_below_drewN (Below.refl _ _) _) | exact below_drew1 (Below.refl _ _) | exact pw_below_drewN (by assumption) _ | exact below_drew1 (by assumption))) hb1; have k1_0 := (hbt1.cell (p := ⟨b, 0, none⟩) hb).trans c0; have k1_1 := (hbt1.cell (p := ⟨b, 1, none⟩) hb).trans c1; have k1_2 := (hbt1.cell (p := ⟨b, 2, none⟩) hb).trans c2)
      | (go_at_call 73; (with_reducible refine (even_calls (r := rr) hn1 (HRR.out.below hbt1) hsj).mono ?_); rintro e w2 ⟨p2, rfl, hn2, hb2⟩; have hbt2 := below_step (w := w) hbt1 hb2; have k2_0 := (hbt2.cell (p := ⟨b, 0, none⟩) hb).trans c0; have k2_1 := (hbt2.cell (p := ⟨b, 1, none⟩) hb).trans c1; have k2_2 := (hbt2.cell (p := ⟨b, 2, none⟩) hb).trans c2))
  go_wp2
  go_ret
  exact ⟨p2, rfl, hn2, hbt2⟩
set_option maxRecDepth 100000 in
set_option maxHeartbeats 4000000 in
theorem join_c {w : World} {pl pr : Option Addr} {l r : RT} {c : Int} (hl : Nd w pl l) (hr : Nd w pr r) (hs : l.sz + r.sz ≤ 900000000000000) (h1 : l.dp ≤ r.dp + 1) (h2 : r.dp ≤ l.dp + 1) :
    Calls Try.prog 64 #[.pointer pl, .int .i32 c, .pointer pr] w (Gives (RT.node l c r) w) := by
  have b1 := RT.dp_le l
  have b2 := RT.dp_le r
  have HL := Aside0.mk hl
  have HR := Aside0.mk hr
  clear hl hr
  have h1' : ((l.dp : Nat) : Int) ≤ (r.dp : Int) + 1 := by omega
  have h2' : ((r.dp : Nat) : Int) ≤ (l.dp : Int) + 1 := by omega
  go_enter Try.func64, Try.ntmps64
  go_wp2_with (first
    | (go_at_call 53; (first | (with_reducible refine (deep_calls HL.out).mono ?_) | (with_reducible refine (deep_calls HR.out).mono ?_)); rintro e w' ⟨rfl, rfl⟩)
    | (go_at_call 59; refine (made_calls HL.out HR.out (by omega)).mono ?_; rintro e w1 ⟨p1, rfl, hn1, hb1⟩))
  go_ret
  exact ⟨p1, rfl, hn1, hb1⟩
theorem join_n (c : Int) (n : Nat) : ∀ (l r : RT), l.sz + r.sz ≤ n → l.sz + r.sz ≤ 800000000000000 → ∀ {w : World} {pl pr : Option Addr}, Nd w pl l → Nd w pr r → Calls Try.prog 64 #[.pointer pl, .int .i32 c, .pointer pr] w (Gives (RT.join l c r) w) := by
  induction n with
  | zero =>
    intro l r h hs w pl pr hl hr
    have b1 := RT.dp_le l
    have b2 := RT.dp_le r
    rw [RT.join_mid (by omega) (by omega)]
    exact join_c hl hr (by omega) (by omega) (by omega)
  | succ n ih =>
    intro l r h hs w pl pr hl hr
    by_cases h1 : r.dp + 1 < l.dp
    · cases l with
      | nil => simp [RT.dp] at h1
      | node ll lc lr =>
        simp only [RT.sz] at h hs
        rw [RT.join_left h1]
        exact join_a hl hr (by omega) h1 (ih lr r (by omega) (by omega))
    · by_cases h2 : l.dp + 1 < r.dp
      · cases r with
        | nil => simp [RT.dp] at h2
        | node rl rc rr =>
          simp only [RT.sz] at h hs
          rw [RT.join_right h2]
          exact join_b hl hr (by omega) h2 (ih l rl (by omega) (by omega))
      · rw [RT.join_mid (by omega) (by omega)]
        exact join_c hl hr (by omega) (by omega) (by omega)
theorem join_calls {w : World} {pl pr : Option Addr} {l r : RT} {c : Int} (hl : Nd w pl l) (hr : Nd w pr r) (hs : l.sz + r.sz ≤ 800000000000000) :
    Calls Try.prog 64 #[.pointer pl, .int .i32 c, .pointer pr] w (Gives (RT.join l c r) w) := join_n c _ l r (Nat.le_refl _) hs hl hr
/-! ### cut -/
def Gives2 (t u : RT) (w : World) (e : Ending) (w' : World) : Prop := ∃ p q, e = .returned (.tuple #[.pointer p, .pointer q]) ∧ Nd w' p t ∧ Nd w' q u ∧ Below w.heap.size w w'
set_option maxRecDepth 100000 in
set_option maxHeartbeats 4000000 in
theorem cut_nil {w : World} {i : Int} : Calls Try.prog 42 #[.pointer none, .int .i64 i] w (Gives2 .nil .nil w) := by
  go_enter Try.func42, Try.ntmps42
  go_wp2
  go_ret2
  exact ⟨none, none, rfl, Nd.nil _, Nd.nil _, Below.refl _ _⟩
set_option maxRecDepth 100000 in
set_option maxHeartbeats 4000000 in
theorem cut_a {w : World} {p : Option Addr} {l r : RT} {c i : Int} (h : Nd w p (RT.node l c r)) (hs : l.sz + r.sz ≤ 800000000000000) (hi : i ≤ (l.sz : Int)) 
    (ih : ∀ {w : World} {p : Option Addr}, Nd w p l → Calls Try.prog 42 #[.pointer p, .int .i64 i] w (Gives2 (RT.cut l i).1 (RT.cut l i).2 w)) :
    Calls Try.prog 42 #[.pointer p, .int .i64 i] w (Gives2 (RT.cut l i).1 (RT.join (RT.cut l i).2 c r) w) := by
  have hsum := RT.cut_sum l i
  have hsj : (RT.cut l i).2.sz + r.sz ≤ 800000000000000 := by omega
  clear hsum
  obtain ⟨b, qa, qb, rfl, hb, c0, c1, c2, c3, c4, c5, hl, hr⟩ := h
  have HL := Aside0.mk (show Nd w qa l from hl)
  have HR := Aside0.mk (show Nd w qb r from hr)
  have hsz := size_calls HL.out
  clear c3 c4 c5 hl hr
  go_enter Try.func42, Try.ntmps42
  go_wp2_with (first
    | (go_at_call 46; (with_reducible refine hsz.mono ?_); rintro e w' ⟨rfl, rfl⟩)
    | (go_at_call 42; (with_reducible refine (ih HL.out).mono ?_); rintro e w1 ⟨p1, q1, rfl, hn1, hm1, hb1⟩; have k1_0 := (hb1.cell (p := ⟨b, 0, none⟩) hb).trans c0; have k1_1 := (hb1.cell (p := ⟨b, 1, none⟩) hb).trans c1; have k1_2 := (hb1.cell (p := ⟨b, 2, none⟩) hb).trans c2))
  have hw1 : w1.heap.size ≤ w1.heap.size := Nat.le_refl _
  have hb' : b < w1.heap.size := Nat.lt_of_lt_of_le hb hb1.size
  have HB1 := Aside0.mk hb1
  clear hb1
  go_region_held3 (fun W' => W'.cell? ⟨b, 0, none⟩ = some (.int .i32 c) ∧ W'.cell? ⟨b, 2, none⟩ = some (.pointer qb) ∧ Below w1.heap.size w1 W')
    (((try dsimp only); (repeat' apply And.intro); all_goals (first | assumption | exact Below.refl _ _ | exact below_drew1 (Below.refl _ _) | exact below_drew1 (by assumption) | exact below_step (by assumption) (by assumption) | go_keep)))
    (first
      | (go_at_call 64; (with_reducible refine (join_calls (hm1.below (by (first | assumption | exact Below.refl _ _ | exact pw_below_drewN (Below.refl _ _) _ | exact below_drew1 (pw_below_drewN (Below.refl _ _) _) | exact below_drew1 (Below.refl _ _) | exact pw_below_drewN (by assumption) _ | exact below_drew1 (by assumption)))) ((HR.out.below HB1.out).below (by (first | assumption | exact Below.refl _ _ | exact pw_below_drewN (Below.refl _ _) _ | exact below_drew1 (pw_below_drewN (Below.refl _ _) _) | exact below_drew1 (Below.refl _ _) | exact pw_below_drewN (by assumption) _ | exact below_drew1 (by assumption)))) hsj).mono ?_); rintro e w2 ⟨p2, rfl, hn2, hb2⟩; have hbt2 := below_step (w := w1) (by (first | assumption | exact Below.refl _ _ | exact pw_below_drewN (Below.refl _ _) _ | exact below_drew1 (pw_below_drewN (Below.refl _ _) _) | exact below_drew1 (Below.refl _ _) | exact pw_below_drewN (by assumption) _ | exact below_drew1 (by assumption))) hb2; have k2_0 := (hbt2.cell (p := ⟨b, 0, none⟩) hb').trans k1_0; have k2_2 := (hbt2.cell (p := ⟨b, 2, none⟩) hb').trans k1_2))
  go_wp2
  go_ret2
  exact ⟨p1, p2, rfl, hn1.below hbt2, hn2, below_step HB1.out hbt2⟩
set_option maxRecDepth 100000 in
set_option maxHeartbeats 4000000 in
theorem cut_b {w : World} {p : Option Addr} {l r : RT} {c i : Int} (h : Nd w p (RT.node l c r)) (hs : l.sz + r.sz ≤ 800000000000000) (hi : (l.sz : Int) < i) (hi2 : i ≤ 1000000000000000)
    (ih : ∀ {w : World} {p : Option Addr}, Nd w p r → Calls Try.prog 42 #[.pointer p, .int .i64 (i - (l.sz : Int) - 1)] w (Gives2 (RT.cut r (i - (l.sz : Int) - 1)).1 (RT.cut r (i - (l.sz : Int) - 1)).2 w)) :
    Calls Try.prog 42 #[.pointer p, .int .i64 i] w (Gives2 (RT.join l c (RT.cut r (i - (l.sz : Int) - 1)).1) (RT.cut r (i - (l.sz : Int) - 1)).2 w) := by
  have hsum := RT.cut_sum r (i - (l.sz : Int) - 1)
  have hsj : l.sz + (RT.cut r (i - (l.sz : Int) - 1)).1.sz ≤ 800000000000000 := by omega
  clear hsum
  obtain ⟨b, qa, qb, rfl, hb, c0, c1, c2, c3, c4, c5, hl, hr⟩ := h
  have HL := Aside0.mk (show Nd w qa l from hl)
  have HR := Aside0.mk (show Nd w qb r from hr)
  have hsz := size_calls HL.out
  clear c3 c4 c5 hl hr
  go_enter Try.func42, Try.ntmps42
  go_wp2_with (first
    | (go_at_call 46; (with_reducible refine hsz.mono ?_); rintro e w' ⟨rfl, rfl⟩)
    | (go_at_call 42; (with_reducible refine (ih HR.out).mono ?_); rintro e w1 ⟨p1, q1, rfl, hn1, hm1, hb1⟩; have k1_0 := (hb1.cell (p := ⟨b, 0, none⟩) hb).trans c0; have k1_1 := (hb1.cell (p := ⟨b, 1, none⟩) hb).trans c1; have k1_2 := (hb1.cell (p := ⟨b, 2, none⟩) hb).trans c2))
  have hb' : b < w1.heap.size := Nat.lt_of_lt_of_le hb hb1.size
  have HB1 := Aside0.mk hb1
  clear hb1
  go_region_held3 (fun W' => W'.cell? ⟨b, 0, none⟩ = some (.int .i32 c) ∧ W'.cell? ⟨b, 1, none⟩ = some (.pointer qa) ∧ Below w1.heap.size w1 W')
    (((try dsimp only); (repeat' apply And.intro); all_goals (first | assumption | exact Below.refl _ _ | exact below_drew1 (Below.refl _ _) | exact below_drew1 (by assumption) | exact below_step (by assumption) (by assumption) | go_keep)))
    (first
      | (go_at_call 64; (with_reducible refine (join_calls ((HL.out.below HB1.out).below (by (first | assumption | exact Below.refl _ _ | exact pw_below_drewN (Below.refl _ _) _ | exact below_drew1 (pw_below_drewN (Below.refl _ _) _) | exact below_drew1 (Below.refl _ _) | exact pw_below_drewN (by assumption) _ | exact below_drew1 (by assumption)))) (hn1.below (by (first | assumption | exact Below.refl _ _ | exact pw_below_drewN (Below.refl _ _) _ | exact below_drew1 (pw_below_drewN (Below.refl _ _) _) | exact below_drew1 (Below.refl _ _) | exact pw_below_drewN (by assumption) _ | exact below_drew1 (by assumption)))) hsj).mono ?_); rintro e w2 ⟨p2, rfl, hn2, hb2⟩; have hbt2 := below_step (w := w1) (by (first | assumption | exact Below.refl _ _ | exact pw_below_drewN (Below.refl _ _) _ | exact below_drew1 (pw_below_drewN (Below.refl _ _) _) | exact below_drew1 (Below.refl _ _) | exact pw_below_drewN (by assumption) _ | exact below_drew1 (by assumption))) hb2; have k2_0 := (hbt2.cell (p := ⟨b, 0, none⟩) hb').trans k1_0; have k2_2 := (hbt2.cell (p := ⟨b, 1, none⟩) hb').trans k1_1))
  go_wp2
  go_ret2
  exact ⟨p2, q1, rfl, hn2, hm1.below hbt2, below_step HB1.out hbt2⟩
theorem cut_calls : ∀ (t : RT) (i : Int), t.sz ≤ 800000000000000 → 0 ≤ i → i ≤ 1000000000000000 → ∀ {w : World} {p : Option Addr}, Nd w p t → Calls Try.prog 42 #[.pointer p, .int .i64 i] w (Gives2 (RT.cut t i).1 (RT.cut t i).2 w)
  | .nil, i, _, _, _, w, p, h => by
    obtain rfl : p = none := h
    exact cut_nil
  | .node l c r, i, hs, h0, h1, w, p, h => by
    simp only [RT.sz] at hs
    unfold RT.cut
    by_cases hi : i ≤ (l.sz : Int)
    · rw [if_pos hi]
      exact cut_a h (by omega) hi (cut_calls l i (by omega) h0 h1)
    · rw [if_neg hi]
      exact cut_b h (by omega) (by omega) h1 (cut_calls r _ (by omega) (by omega) (by omega))
/-! ### glue -/
set_option maxRecDepth 100000 in
set_option maxHeartbeats 4000000 in
theorem glue_calls {w : World} {pa pb : Option Addr} {a b : RT} (ha : Nd w pa a) (hb : Nd w pb b) (hs : a.sz + b.sz ≤ 800000000000000) :
    Calls Try.prog 43 #[.pointer pa, .pointer pb] w (Gives (RT.glue a b) w) := by
  cases a with
  | nil =>
    obtain rfl : pa = none := ha
    have HB := Aside0.mk hb
    clear hb
    go_enter Try.func43, Try.ntmps43
    go_wp2
    go_ret
    exact ⟨pb, rfl, HB.out, Below.refl _ _⟩
  | node l c r =>
    have HA := Aside0.mk ha
    have HB := Aside0.mk hb
    obtain ⟨g1, g2⟩ := RT.last_one (t := RT.node l c r) (fun h => by cases h)
    have g3 := RT.cut_sum (RT.node l c r) (((RT.node l c r).sz : Int) - 1)
    have hpos : 0 < (RT.node l c r).sz := by simp only [RT.sz]; omega
    obtain ⟨n, hn⟩ : ∃ n, (RT.node l c r).sz = n := ⟨_, rfl⟩
    obtain ⟨g, qa, qb, rfl, hg, c0, c1, c2, c3, c4, c5, hl, hr⟩ := ha
    have hcut := cut_calls (RT.node l c r) (((RT.node l c r).sz : Int) - 1) (by omega) (by omega) (by omega) HA.out
    have hglue : RT.glue (RT.node l c r) b = RT.join (RT.cut (RT.node l c r) (((RT.node l c r).sz : Int) - 1)).1 (RT.top (RT.cut (RT.node l c r) (((RT.node l c r).sz : Int) - 1)).2) b := rfl
    rw [hglue]
    rw [hn] at c3 hcut g1 g3 hpos hs ⊢
    have hn0 : (1 : Int) ≤ (n : Int) := by omega
    have hn1 : (n : Int) ≤ 800000000000000 := by omega
    obtain ⟨x, y, hxy⟩ : ∃ x y, RT.cut (RT.node l c r) ((n : Int) - 1) = (x, y) := ⟨_, _, rfl⟩
    rw [hxy] at hcut g1 g3 ⊢
    simp only at hcut g1 g3 ⊢
    have hsj : x.sz + b.sz ≤ 800000000000000 := by omega
    clear c0 c1 c2 c4 c5 hl hr hxy hglue g2 g3 hpos hb
    cases y with
    | nil => simp [RT.sz] at g1
    | node yl yc yr =>
      clear g1 hn hs
      have htop : RT.top (RT.node yl yc yr) = yc := rfl
      rw [htop]
      clear htop
      go_enter Try.func43, Try.ntmps43
      go_wp2_with (first
        | (go_at_call 42; (with_reducible refine hcut.mono ?_); rintro e w1 ⟨p1, q1, rfl, hn1, hm1, hb1⟩; have HB1 := Aside0.mk hb1; have HX := Aside0.mk hn1; have HY := Aside0.mk hm1; obtain ⟨v, va, vb, rfl, hv, v0, v1, v2, v3, v4, v5, hvl, hvr⟩ := hm1; clear v1 v2 v3 v4 v5 hvl hvr hb1 hn1)
        | (go_at_call 64; (with_reducible refine (join_calls HX.out (HB.out.below HB1.out) hsj).mono ?_); rintro e w2 ⟨p2, rfl, hn2, hb2⟩))
      go_ret
      exact ⟨p2, rfl, hn2, below_step HB1.out hb2⟩
end Go.Proofs.Ytenjldfflkinkaa.Rop

namespace Go.Proofs.Ytenjldfflkinkaa.Rop
set_option linter.unusedVariables false
set_option linter.unusedSimpArgs false
open Go.RowKit Go.Proofs.Ytenjldfflkinkaa.F Go.Proofs.YtenjldfflkinkaaW.PrintWords Go.Proofs.YtenjldfflkinkaaW.PrintLast Go.Proofs.YtenjldfflkinkaaW.PrintMore

theorem rune_at {w : World} {A : Option Addr} {zs : List Int} (h : Kd.C (Kd.int .i32) w A zs.length zs) (k : Nat) (hk : k < zs.length) : ∃ ad, A = some ad ∧ w.cell? (ad.add k) = some (.int .i32 (zs.getD k 0)) := by
  obtain ⟨ad, c, e, hc1, hK, hc0⟩ := Kd.C_get h 0 (k : Int) (by omega) (by omega)
  have hK' : c = [.int .i32 (zs.getD k 0)] := hK
  subst hK'
  have := hc0 0 _ rfl
  refine ⟨ad, e, ?_⟩
  have h1 : (k : Int).toNat * (Kd.int .i32).sz + 0 = k := by show k * 1 + 0 = k; omega
  rw [h1] at this
  exact this
set_option maxRecDepth 100000 in
set_option maxHeartbeats 4000000 in
theorem grown_step {w : World} {ad : Addr} {n h c : Nat} {x : Int} {B : Option Addr} {t u : RT} (hn : 0 < n) (hh : (n : Int) / 2 = (h : Int)) (hc : n ≤ c) (hB : B = if c = h + 1 then some ad else some (ad.add (h + 1))) (hx : w.cell? (ad.add h) = some (.int .i32 x)) (hm : c ≤ 9223372036854775807)
    (g1 : ∀ W, Below w.heap.size w W → Calls Try.prog 34 #[.slice (some ad) h c] W (Gives t W))
    (g2 : ∀ W, Below w.heap.size w W → Calls Try.prog 34 #[.slice B (n - (h + 1)) (c - (h + 1))] W (Gives u W)) (hs : t.sz + u.sz ≤ 800000000000000) :
    Calls Try.prog 34 #[.slice (some ad) n c] w (Gives (RT.node t x u) w) := by
  have hlt := World.block_lt_of_cell? w _ hx
  have hlen : ((n : Int) == 0) = false := by simp; omega
  have h1 : (h : Int) < (n : Int) := by omega
  have h2 : (0 : Int) ≤ (h : Int) := by omega
  have h3 : (h : Int) ≤ (c : Int) := by omega
  have h4 : (h : Int) + 1 ≤ (n : Int) := by omega
  obtain ⟨i0, hi, hz0, hz1, hz2⟩ := info_parts info21
  have hw : IntKind.i64.wrap ((h : Int) + 1) = (h : Int) + 1 := by rw [IntWalk.i64_in _ (by omega)]
  have hcut1 : ∀ W : World, (Instr.slice 23 (.slice (some ad) n c) none (some (.int .i64 (h : Int))) none).run Try.prog W = .ok (.slice (some ad) h c) W := fun W => by
    have := cut_to 23 21 .i64 Try.underlying23 hi (some ad) n c (h : Int) h2 (by omega) hc W
    simpa using this
  have hcut2 : ∀ W : World, (Instr.slice 23 (.slice (some ad) n c) (some (.int .i64 ((h : Int) + 1))) none none).run Try.prog W = .ok (.slice B (n - (h + 1)) (c - (h + 1))) W := fun W => by
    have := cut_from 23 21 .i64 Try.underlying23 hi 1 hz1 (some ad) n c ((h : Int) + 1) (by omega) (by omega) W
    rw [this, hB]
    have e1 : ((h : Int) + 1).toNat = h + 1 := by omega
    rw [e1]
    by_cases hc1 : c = h + 1 <;> simp [hc1]
  clear hB
  have hx0 : (0 : Int) ≤ (h : Int) := h2
  have G1 := Aside0.mk g1
  have G2 := Aside0.mk g2
  clear g1 g2 hi hz0 hz1 hz2
  go_enter Try.func34, Try.ntmps34
  go_wp2
  go_region_held3 (fun W' => W'.cell? (ad.add h) = some (.int .i32 x) ∧ Below w.heap.size w W')
    (((try dsimp only); (repeat' apply And.intro); all_goals (first | assumption | exact Below.refl _ _ | exact below_drew1 (Below.refl _ _) | exact below_drew1 (by assumption) | exact below_step (by assumption) (by assumption) | go_keep)))
    (first
      | (go_at_call 34; (with_reducible refine (G1.out _ (by (first | assumption | exact Below.refl _ _ | exact pw_below_drewN (Below.refl _ _) _ | exact below_drew1 (pw_below_drewN (Below.refl _ _) _) | exact below_drew1 (Below.refl _ _) | exact pw_below_drewN (by assumption) _ | exact below_drew1 (by assumption)))).mono ?_); rintro e w1 ⟨p1, rfl, hn1, hb1⟩; have hbt1 := below_step (w := w) (by (first | assumption | exact Below.refl _ _ | exact pw_below_drewN (Below.refl _ _) _ | exact below_drew1 (pw_below_drewN (Below.refl _ _) _) | exact below_drew1 (Below.refl _ _) | exact pw_below_drewN (by assumption) _ | exact below_drew1 (by assumption))) hb1; have k1 := (hbt1.cell (p := ad.add h) hlt).trans hx)
      | (go_at_call 34; (with_reducible refine (G2.out _ (by assumption)).mono ?_); rintro e w2 ⟨p2, rfl, hn2, hb2⟩; have hbt2 := below_step (w := w) hbt1 hb2; have k2 := (hbt2.cell (p := ad.add h) hlt).trans hx)
      | (go_at_call 59; (with_reducible refine (made_calls (l := t) (r := u) (hn1.below hb2) hn2 (by omega)).mono ?_); rintro e w3 ⟨p3, rfl, hn3, hb3⟩; have hbt3 := below_step (w := w) hbt2 hb3; have k3 := (hbt3.cell (p := ad.add h) hlt).trans hx))
  go_wp2
  go_ret
  exact ⟨p3, rfl, hn3, hbt3⟩
theorem grown_nil {w : World} {A : Option Addr} {c : Nat} : Calls Try.prog 34 #[.slice A 0 c] w (Gives .nil w) := by
  go_enter Try.func34, Try.ntmps34
  go_wp2
  go_ret
  exact ⟨none, rfl, Nd.nil _, Below.refl _ _⟩
theorem grown_n : ∀ (k : Nat) (zs : List Int), zs.length ≤ k → zs.length ≤ 800000000000000 → ∀ {w : World} {A : Option Addr} {c : Nat}, Kd.C (Kd.int .i32) w A zs.length zs → zs.length ≤ c → c ≤ 9223372036854775807 → Calls Try.prog 34 #[.slice A zs.length c] w (Gives (RT.grown k zs) w)
  | 0, zs, h, _, w, A, c, _, _, _ => by
    have : zs.length = 0 := by omega
    rw [this]
    exact grown_nil
  | k + 1, zs, h, hb, w, A, c, hC, hc, hm => by
    unfold RT.grown
    by_cases h0 : zs.length = 0
    · rw [if_pos h0, h0]
      exact grown_nil
    · rw [if_neg h0]
      obtain ⟨ad, rfl, hx⟩ := rune_at hC (zs.length / 2) (by omega)
      have hl1 : (zs.take (zs.length / 2)).length = zs.length / 2 := by rw [List.length_take]; omega
      have hl2 : (zs.drop (zs.length / 2 + 1)).length = zs.length - (zs.length / 2 + 1) := by rw [List.length_drop]
      have hC1 := Kd.C_take hC (m := zs.length / 2) (by omega)
      have hC2 := Kd.C_drop hC (m := zs.length / 2 + 1) (by omega) hc
      have s1 : (RT.grown k (zs.take (zs.length / 2))).sz = zs.length / 2 := by rw [← RT.toL_len, RT.grown_toL k _ (by omega), hl1]
      have s2 : (RT.grown k (zs.drop (zs.length / 2 + 1))).sz = zs.length - (zs.length / 2 + 1) := by rw [← RT.toL_len, RT.grown_toL k _ (by omega), hl2]
      refine grown_step (h := zs.length / 2) (by omega) (by omega) hc rfl hx hm (fun W hW => ?_) (fun W hW => ?_) (by omega)
      · have := grown_n k (zs.take (zs.length / 2)) (by omega) (by omega) (w := W) (c := c) (Kd.C_below hC1 hW) (by omega) hm
        rw [hl1] at this
        exact this
      · have := grown_n k (zs.drop (zs.length / 2 + 1)) (by omega) (by omega) (w := W) (c := c - (zs.length / 2 + 1)) (Kd.C_below hC2 hW) (by omega) (by omega)
        rw [hl2] at this
        have e : (if c = zs.length / 2 + 1 then some ad else Option.map (fun x => x.add ((zs.length / 2 + 1) * (Kd.int IntKind.i32).sz)) (some ad)) = (if c = zs.length / 2 + 1 then some ad else some (ad.add (zs.length / 2 + 1))) := by
          show (if c = zs.length / 2 + 1 then some ad else some (ad.add ((zs.length / 2 + 1) * 1))) = _
          rw [Nat.mul_one]
        rw [e] at this
        exact this
theorem grown_calls {zs : List Int} {w : World} {A : Option Addr} {c : Nat} (hC : Kd.C (Kd.int .i32) w A zs.length zs) (hc : zs.length ≤ c) (hm : c ≤ 9223372036854775807) (hb : zs.length ≤ 800000000000000) : Calls Try.prog 34 #[.slice A zs.length c] w (Gives (RT.of zs) w) :=
  grown_n _ zs (Nat.le_refl _) hb hC hc hm
/-! ### ropes -/
/-- a rope that a call made -/
def IsR (W : World) (p : Option Addr) (t : RT) : Prop := ∃ (b : Nat) (q : Option Addr), p = some ⟨b, 0, none⟩ ∧ b < W.heap.size ∧ W.cell? ⟨b, 0, none⟩ = some (.bool true) ∧ W.cell? ⟨b, 1, none⟩ = some (.pointer q) ∧ Nd W q t
theorem IsR.below {A B : World} {p : Option Addr} {t : RT} (h : IsR A p t) (hb : Below A.heap.size A B) : IsR B p t := by
  obtain ⟨b, q, rfl, h1, h2, h3, h4⟩ := h
  exact ⟨b, q, rfl, Nat.lt_of_lt_of_le h1 hb.size, (hb.cell (p := ⟨b, 0, none⟩) h1).trans h2, (hb.cell (p := ⟨b, 1, none⟩) h1).trans h3, h4.below hb⟩
/-- a rope that is nil, or that no call made -/
def NoR (W : World) (p : Option Addr) : Prop := p = none ∨ ∃ b, p = some ⟨b, 0, none⟩ ∧ b < W.heap.size ∧ W.cell? ⟨b, 0, none⟩ = some (.bool false)
theorem NoR.below {A B : World} {p : Option Addr} (h : NoR A p) (hb : Below A.heap.size A B) : NoR B p := by
  rcases h with h | ⟨b, rfl, h1, h2⟩
  · exact .inl h
  · exact .inr ⟨b, rfl, Nat.lt_of_lt_of_le h1 hb.size, (hb.cell (p := ⟨b, 0, none⟩) h1).trans h2⟩
def GivesR (t : RT) (w : World) (e : Ending) (w' : World) : Prop := ∃ p, e = .returned (.pointer p) ∧ IsR w' p t ∧ Below w.heap.size w w'
theorem of_calls {w : World} {p : Option Addr} {t : RT} (h : Nd w p t) : Calls Try.prog 33 #[.pointer p] w (GivesR t w) := by
  have H := Aside0.mk h
  clear h
  go_enter Try.func33, Try.ntmps33
  go_wp2
  go_ret
  have hb := (Below.refl w.heap.size w).alloc (Nat.le_refl _) (.cells #[.bool true, .pointer p] 74)
  exact ⟨_, rfl, ⟨w.heap.size, p, rfl, by simp, by simp, by simp, H.out.below hb⟩, hb⟩
theorem New_calls {zs : List Int} {w : World} {A : Option Addr} {c : Nat} (hC : Kd.C (Kd.int .i32) w A zs.length zs) (hc : zs.length ≤ c) (hm : c ≤ 9223372036854775807) (hb : zs.length ≤ 800000000000000) : Calls Try.prog 10 #[.slice A zs.length c] w (GivesR (RT.of zs) w) := by
  have hg := grown_calls hC hc hm hb
  clear hC hc hm hb
  go_enter Try.func10, Try.ntmps10
  go_wp2_with (first
    | (go_at_call 34; (with_reducible refine hg.mono ?_); rintro e w1 ⟨p1, rfl, hn1, hb1⟩)
    | (go_at_call 33; (with_reducible refine (of_calls hn1).mono ?_); rintro e w2 ⟨p2, rfl, hn2, hb2⟩))
  go_ret
  exact ⟨p2, rfl, hn2, below_step hb1 hb2⟩
theorem none_no {w : World} {p : Option Addr} {t : RT} (h : IsR w p t) : Calls Try.prog 45 #[.pointer p] w fun e w' => e = .returned (.bool false) ∧ w = w' := by
  obtain ⟨b, q, rfl, h1, h2, h3, h4⟩ := h
  go_enter Try.func45, Try.ntmps45
  go_wp2
  go_ret
  exact ⟨rfl, rfl⟩
end Go.Proofs.Ytenjldfflkinkaa.Rop

namespace Go.Proofs.Ytenjldfflkinkaa.Rop
set_option linter.unusedVariables false
set_option linter.unusedSimpArgs false
open Go.RowKit Go.Proofs.Ytenjldfflkinkaa.F Go.Proofs.YtenjldfflkinkaaW.PrintWords Go.Proofs.YtenjldfflkinkaaW.PrintLast Go.Proofs.YtenjldfflkinkaaW.PrintMore

section
variable {w : World} {p : Option Addr} {t : RT}
theorem Len_calls (h : IsR w p t) : Calls Try.prog 17 #[.pointer p] w fun e w' => e = .returned (.int .i64 (t.sz : Int)) ∧ w = w' := by
  have hno := none_no h
  obtain ⟨b, q, rfl, h1, h2, h3, h4⟩ := h
  have hs := size_calls h4
  clear h4
  go_enter Try.func17, Try.ntmps17
  go_wp2_with (first
    | (go_at_call 45; (with_reducible refine hno.mono ?_); rintro e w' ⟨rfl, rfl⟩)
    | (go_at_call 46; (with_reducible refine hs.mono ?_); rintro e w' ⟨rfl, rfl⟩))
  go_ret
  exact ⟨rfl, rfl⟩
theorem Breaks_calls (h : IsR w p t) : Calls Try.prog 23 #[.pointer p] w fun e w' => e = .returned (.int .i64 (t.bk sep : Int)) ∧ w = w' := by
  have hno := none_no h
  obtain ⟨b, q, rfl, h1, h2, h3, h4⟩ := h
  have hs := breaks_calls h4
  clear h4
  go_enter Try.func23, Try.ntmps23
  go_wp2_with (first
    | (go_at_call 45; (with_reducible refine hno.mono ?_); rintro e w' ⟨rfl, rfl⟩)
    | (go_at_call 50; (with_reducible refine hs.mono ?_); rintro e w' ⟨rfl, rfl⟩))
  go_ret
  exact ⟨rfl, rfl⟩
/-- what is wrong with places -/
def spanE (n a b : Int) : Int := if a < 0 ∨ n < b ∨ b < a then 4 else 0
theorem span_calls (h : IsR w p t) (a b : Int) : Calls Try.prog 41 #[.pointer p, .int .i64 a, .int .i64 b] w fun e w' => e = .returned (.int .i64 (spanE (t.sz : Int) a b)) ∧ w = w' := by
  have hno := none_no h
  have hlen := Len_calls h
  clear h
  unfold spanE
  by_cases h1 : a < 0
  · rw [if_pos (.inl h1)]
    have h1' : decide (a < 0) = true := decide_eq_true h1
    go_enter Try.func41, Try.ntmps41
    go_wp2_with (first
      | (go_at_call 45; (with_reducible refine hno.mono ?_); rintro e w' ⟨rfl, rfl⟩)
      | (go_at_call 17; (with_reducible refine hlen.mono ?_); rintro e w' ⟨rfl, rfl⟩))
    go_ret
    exact ⟨rfl, rfl⟩
  · have h1' : decide (a < 0) = false := decide_eq_false h1
    by_cases h2 : (t.sz : Int) < b
    · rw [if_pos (.inr (.inl h2))]
      have h2' : decide ((t.sz : Int) < b) = true := decide_eq_true h2
      go_enter Try.func41, Try.ntmps41
      go_wp2_with (first
        | (go_at_call 45; (with_reducible refine hno.mono ?_); rintro e w' ⟨rfl, rfl⟩)
        | (go_at_call 17; (with_reducible refine hlen.mono ?_); rintro e w' ⟨rfl, rfl⟩))
      go_ret
      exact ⟨rfl, rfl⟩
    · have h2' : decide ((t.sz : Int) < b) = false := decide_eq_false h2
      by_cases h3 : b < a
      · rw [if_pos (.inr (.inr h3))]
        have h3' : decide (b < a) = true := decide_eq_true h3
        go_enter Try.func41, Try.ntmps41
        go_wp2_with (first
          | (go_at_call 45; (with_reducible refine hno.mono ?_); rintro e w' ⟨rfl, rfl⟩)
          | (go_at_call 17; (with_reducible refine hlen.mono ?_); rintro e w' ⟨rfl, rfl⟩))
        go_ret
        exact ⟨rfl, rfl⟩
      · rw [if_neg (by omega)]
        have h3' : decide (b < a) = false := decide_eq_false h3
        go_enter Try.func41, Try.ntmps41
        go_wp2_with (first
          | (go_at_call 45; (with_reducible refine hno.mono ?_); rintro e w' ⟨rfl, rfl⟩)
          | (go_at_call 17; (with_reducible refine hlen.mono ?_); rintro e w' ⟨rfl, rfl⟩))
        go_ret
        exact ⟨rfl, rfl⟩
/-! ### Insert -/
def GivesE (t : RT) (w : World) (e : Ending) (w' : World) : Prop := ∃ p, e = .returned (.tuple #[.pointer p, .int .i64 0]) ∧ IsR w' p t ∧ Below w.heap.size w w'
def insT (t u : RT) (i : Int) : RT := RT.glue (RT.glue (RT.cut t i).1 u) (RT.cut t i).2
def delT (t : RT) (a b : Int) : RT := RT.glue (RT.cut t a).1 (RT.cut (RT.cut t a).2 (b - a)).2
set_option maxRecDepth 100000 in
set_option maxHeartbeats 2000000 in
theorem Insert_calls {zs : List Int} {A : Option Addr} {c : Nat} (h : IsR w p t) (hC : Kd.C (Kd.int .i32) w A zs.length zs) (hc : zs.length ≤ c) (hm : c ≤ 9223372036854775807) (i : Int) (h0 : 0 ≤ i) (h1 : i ≤ (t.sz : Int)) (hs : t.sz + zs.length ≤ 800000000000000) :
    Calls Try.prog 14 #[.pointer p, .int .i64 i, .slice A zs.length c] w (GivesE (insT t (RT.of zs) i) w) := by
  have hsp := span_calls h i i
  have e0 : spanE (t.sz : Int) i i = 0 := by unfold spanE; rw [if_neg (by omega)]
  rw [e0] at hsp
  obtain ⟨b, q, rfl, k1, k2, k3, k4⟩ := h
  have hcut := cut_calls t i (by omega) h0 (by omega) k4
  have hsum := RT.cut_sum t i
  have hof := RT.of_sz zs
  have hgs := RT.glue_sz (RT.cut t i).1 (RT.of zs)
  unfold insT
  generalize RT.cut t i = xy at hcut hsum hgs ⊢
  obtain ⟨x, y⟩ := xy
  simp only at hcut hsum hgs ⊢
  have hs1 : x.sz + (RT.of zs).sz ≤ 800000000000000 := by omega
  have hs2 : (RT.glue x (RT.of zs)).sz + y.sz ≤ 800000000000000 := by omega
  have HC := Aside0.mk hC
  have hs3 : zs.length ≤ 800000000000000 := by omega
  clear e0 k4 hsum hof hgs hC h0 h1 hs
  go_enter Try.func14, Try.ntmps14
  go_wp2_with (first
    | (go_at_call 41; (with_reducible refine hsp.mono ?_); rintro e w' ⟨rfl, rfl⟩)
    | (go_at_call 42; (with_reducible refine hcut.mono ?_); rintro e w1 ⟨p1, q1, rfl, hn1, hm1, hb1⟩)
    | (go_at_call 34; (with_reducible refine (grown_calls (Kd.C_below HC.out hb1) hc hm hs3).mono ?_); rintro e w2 ⟨p2, rfl, hn2, hb2⟩; have hbt2 := below_step hb1 hb2)
    | (go_at_call 43; (with_reducible refine (glue_calls (hn1.below hb2) hn2 hs1).mono ?_); rintro e w3 ⟨p3, rfl, hn3, hb3⟩; have hbt3 := below_step hbt2 hb3; have hm3 := (hm1.below hb2).below hb3)
    | (go_at_call 43; (with_reducible refine (glue_calls hn3 hm3 hs2).mono ?_); rintro e w4 ⟨p4, rfl, hn4, hb4⟩; have hbt4 := below_step hbt3 hb4)
    | (go_at_call 33; (with_reducible refine (of_calls hn4).mono ?_); rintro e w5 ⟨p5, rfl, hn5, hb5⟩))
  go_ret2
  exact ⟨p5, rfl, hn5, below_step hbt4 hb5⟩
set_option maxRecDepth 100000 in
set_option maxHeartbeats 2000000 in
theorem Delete_calls (h : IsR w p t) (a b : Int) (h0 : 0 ≤ a) (h1 : a ≤ b) (h2 : b ≤ (t.sz : Int)) (hs : t.sz ≤ 800000000000000) :
    Calls Try.prog 13 #[.pointer p, .int .i64 a, .int .i64 b] w (GivesE (delT t a b) w) := by
  have hsp := span_calls h a b
  have e0 : spanE (t.sz : Int) a b = 0 := by unfold spanE; rw [if_neg (by omega)]
  rw [e0] at hsp
  obtain ⟨g, q, rfl, k1, k2, k3, k4⟩ := h
  have hcut := cut_calls t a (by omega) h0 (by omega) k4
  have hsum := RT.cut_sum t a
  unfold delT
  generalize RT.cut t a = xy at hcut hsum ⊢
  obtain ⟨x, y⟩ := xy
  simp only at hcut hsum ⊢
  have hcut2 := fun w q => cut_calls y (b - a) (by omega) (by omega) (by omega) (w := w) (p := q)
  have hsum2 := RT.cut_sum y (b - a)
  generalize RT.cut y (b - a) = uv at hcut2 hsum2 ⊢
  obtain ⟨u, v⟩ := uv
  simp only at hcut2 hsum2 ⊢
  have hs1 : x.sz + v.sz ≤ 800000000000000 := by omega
  have hb1 : b ≤ 1000000000000000 := by omega
  have HC2 := Aside0.mk hcut2
  clear e0 k4 hsum hsum2 hs hcut2
  go_enter Try.func13, Try.ntmps13
  go_wp2_with (first
    | (go_at_call 41; (with_reducible refine hsp.mono ?_); rintro e w' ⟨rfl, rfl⟩)
    | (go_at_call 42; (with_reducible refine hcut.mono ?_); rintro e w1 ⟨p1, q1, rfl, hn1, hm1, hb1⟩)
    | (go_at_call 42; (with_reducible refine (HC2.out _ _ hm1).mono ?_); rintro e w2 ⟨p2, q2, rfl, hn2, hm2, hb2⟩; have hbt2 := below_step hb1 hb2)
    | (go_at_call 43; (with_reducible refine (glue_calls (hn1.below hb2) hm2 hs1).mono ?_); rintro e w4 ⟨p4, rfl, hn4, hb4⟩; have hbt4 := below_step hbt2 hb4)
    | (go_at_call 33; (with_reducible refine (of_calls hn4).mono ?_); rintro e w5 ⟨p5, rfl, hn5, hb5⟩))
  go_ret2
  exact ⟨p5, rfl, hn5, below_step hbt4 hb5⟩
end
end Go.Proofs.Ytenjldfflkinkaa.Rop

namespace Go.Proofs.Ytenjldfflkinkaa.Rop
set_option linter.unusedVariables false
set_option linter.unusedSimpArgs false
open Go.RowKit Go.Proofs.Ytenjldfflkinkaa.F Go.Proofs.YtenjldfflkinkaaW.PrintWords Go.Proofs.YtenjldfflkinkaaW.PrintLast Go.Proofs.YtenjldfflkinkaaW.PrintMore

section
variable {w : World} {p : Option Addr} {t : RT}
/-! ### find, At -/
/-! ### ahead, least, Para -/
/-- how many separators stand ahead of a place -/
def cnt (l : List Int) (i : Nat) : Nat := (l.take i).countP sep
theorem cnt_mono (l : List Int) {i j : Nat} (h : i ≤ j) : cnt l i ≤ cnt l j := by
  unfold cnt
  have e : l.take i = (l.take j).take i := by rw [List.take_take, Nat.min_eq_left h]
  rw [e]
  exact List.Sublist.countP_le (List.take_sublist _ _)
theorem cnt_le (l : List Int) (i : Nat) : cnt l i ≤ l.length := by
  unfold cnt
  exact Nat.le_trans List.countP_le_length (by simp; omega)
def Counts (n : Nat) (w : World) (e : Ending) (w' : World) : Prop := e = .returned (.int .i64 (n : Int)) ∧ Below w.heap.size w w'
theorem ahead_calls (h : IsR w p t) (i : Nat) (hi : i ≤ t.sz) (hs : t.sz ≤ 800000000000000) : Calls Try.prog 51 #[.pointer p, .int .i64 (i : Int)] w (Counts (cnt t.toL i) w) := by
  obtain ⟨g, q, rfl, k1, k2, k3, k4⟩ := h
  have hcut := cut_calls t (i : Int) (by omega) (by omega) (by omega) k4
  have hc : cnt t.toL i = (RT.cut t (i : Int)).1.bk sep := by rw [RT.bk_count, (RT.cut_toL t i hi).1]; rfl
  rw [hc]
  generalize RT.cut t (i : Int) = xy at hcut ⊢
  obtain ⟨x, y⟩ := xy
  simp only at hcut ⊢
  clear k4 hc
  go_enter Try.func51, Try.ntmps51
  go_wp2_with (first
    | (go_at_call 42; (with_reducible refine hcut.mono ?_); rintro e w1 ⟨p1, q1, rfl, hn1, hm1, hb1⟩)
    | (go_at_call 50; (with_reducible refine (breaks_calls hn1).mono ?_); rintro e w2 ⟨rfl, rfl⟩))
  go_ret
  exact ⟨rfl, hb1⟩
def Leasts (l : List Int) (n : Nat) (want : Int) (w : World) (e : Ending) (w' : World) : Prop := ∃ k : Nat, e = .returned (.int .i64 (k : Int)) ∧ k ≤ n ∧ (∀ m, m < k → (cnt l m : Int) < want) ∧ (k < n → want ≤ (cnt l k : Int)) ∧ Below w.heap.size w w'
set_option maxRecDepth 100000 in
set_option maxHeartbeats 2000000 in
theorem least_calls (h : IsR w p t) (want : Int) (hs : t.sz ≤ 800000000000000) : Calls Try.prog 52 #[.int .i64 (t.sz : Int), .func (.func 51) #[.pointer p] #[], .int .i64 want] w (Leasts t.toL t.sz want w) := by
  have HR := Aside0.mk h
  clear h
  obtain ⟨n, hn⟩ : ∃ n, t.sz = n := ⟨_, rfl⟩
  rw [hn]
  rw [hn] at hs
  have HN := Aside0.mk hn
  clear hn
  go_enter Try.func52, Try.ntmps52
  go_wp2
  go_loopw [0, 7] (fun j i wr => ∃ lo hi : Nat, i = .int .i64 (lo : Int) ∧ j = .int .i64 (hi : Int) ∧ lo ≤ hi ∧ hi ≤ n ∧ Aside0 (∀ m, m < lo → (cnt t.toL m : Int) < want) ∧ Aside0 (hi < n → want ≤ (cnt t.toL hi : Int)) ∧ Aside0 (Below w.heap.size w wr)) (fun j i _ => (intOf j - intOf i).toNat)
  case atStart => exact ⟨0, n, rfl, rfl, by omega, by omega, ⟨fun m h => by omega⟩, ⟨fun h => by omega⟩, ⟨Below.refl _ _⟩⟩
  case round =>
    obtain ⟨lo, hi, rfl, rfl, h1, h2, A1, A2, HB⟩ := hrel
    by_cases hlt : lo < hi
    · have hb1 : ((lo : Int) + hi) / 2 < hi := by omega
      have hb2 : (lo : Int) ≤ ((lo : Int) + hi) / 2 := by omega
      obtain ⟨m, hm⟩ : ∃ m : Nat, ((lo : Int) + hi) / 2 = (m : Int) := ⟨(((lo : Int) + hi) / 2).toNat, by omega⟩
      have hm1 : m < hi := by omega
      have hm2 : lo ≤ m := by omega
      have hlt' : (lo : Int) < (hi : Int) := by omega
      have hlob : (lo : Int) ≤ 800000000000000 := by omega
      have hhib : (hi : Int) ≤ 800000000000000 := by omega
      have hcall := fun W (hW : Below w.heap.size w W) => ahead_calls (HR.out.below hW) m (by have := HN.out; omega) (by have := HN.out; omega)
      have HC := Aside0.mk hcall
      clear hcall hb1 hb2
      obtain ⟨k, hk⟩ : ∃ k, cnt t.toL m = k := ⟨_, rfl⟩
      have HK := Aside0.mk hk
      by_cases hw : want ≤ (k : Int)
      · have hw' : decide (want ≤ (k : Int)) = true := decide_eq_true hw
        clear hk
        go_wp2_with (first
          | (go_at_call 51; (with_reducible refine (HC.out _ HB.out).mono ?_); rintro e w2 ⟨rfl, hb2⟩; rw [HK.out]))
        go_roundw
        case rel => exact ⟨lo, m, rfl, rfl, hm2, by omega, A1, ⟨fun _ => by rw [HK.out]; exact hw⟩, ⟨below_step HB.out hb2⟩⟩
        case measure => simp [intOf] <;> omega
      · have hw' : decide (want ≤ (k : Int)) = false := decide_eq_false hw
        clear hk
        go_wp2_with (first
          | (go_at_call 51; (with_reducible refine (HC.out _ HB.out).mono ?_); rintro e w2 ⟨rfl, hb2⟩; rw [HK.out]))
        go_roundw
        case rel => exact ⟨m + 1, hi, by simp, rfl, by omega, h2, ⟨fun j hj => by
          have := cnt_mono t.toL (i := j) (j := m) (by omega)
          rw [HK.out] at this
          omega⟩, A2, ⟨below_step HB.out hb2⟩⟩
        case measure => simp [intOf] <;> omega
    · have hge : ¬ (lo : Int) < (hi : Int) := by omega
      obtain rfl : lo = hi := by omega
      go_wp2_with fail
      go_ret
      exact ⟨lo, rfl, h2, A1.out, A2.out, HB.out⟩
/-- the number and the places of a place's paragraph -/
def IsPara (l : List Int) (i : Nat) (n a b : Nat) : Prop := n = cnt l i ∧ a ≤ l.length ∧ (∀ m, m < a → cnt l m < n) ∧ (a < l.length → n ≤ cnt l a) ∧ b ≤ l.length ∧ (∀ m, m < b → cnt l m ≤ n) ∧ (b < l.length → n + 1 ≤ cnt l b)
def GivesP (l : List Int) (i : Nat) (w : World) (e : Ending) (w' : World) : Prop := ∃ n a b : Nat, e = .returned (.tuple #[.int .i64 (n : Int), .int .i64 (a : Int), .int .i64 (b : Int), .int .i64 0]) ∧ IsPara l i n a b ∧ Below w.heap.size w w'
set_option maxRecDepth 100000 in
set_option maxHeartbeats 2000000 in
theorem Para_calls (h : IsR w p t) (i : Nat) (hi : i ≤ t.sz) (hs : t.sz ≤ 800000000000000) : Calls Try.prog 24 #[.pointer p, .int .i64 (i : Int)] w (GivesP t.toL i w) := by
  have hsp := span_calls h (i : Int) (i : Int)
  have e0 : spanE (t.sz : Int) (i : Int) (i : Int) = 0 := by unfold spanE; rw [if_neg (by omega)]
  rw [e0] at hsp
  have hah := ahead_calls h i hi hs
  have hcb := cnt_le t.toL i
  rw [RT.toL_len] at hcb
  have HR := Aside0.mk h
  obtain ⟨n, hn⟩ : ∃ n, cnt t.toL i = n := ⟨_, rfl⟩
  rw [hn] at hah hcb
  have HN := Aside0.mk hn
  have hnb : (n : Int) ≤ 800000000000000 := by omega
  clear e0 h hn
  go_enter Try.func24, Try.ntmps24
  go_wp2_with (first
    | (go_at_call 41; (with_reducible refine hsp.mono ?_); rintro e w' ⟨rfl, rfl⟩)
    | (go_at_call 51; (with_reducible refine hah.mono ?_); rintro e w1 ⟨rfl, hb1⟩; have HR1 := Aside0.mk (HR.out.below hb1))
    | (go_at_call 17; (first | (with_reducible refine (Len_calls HR1.out).mono ?_) | (with_reducible refine (Len_calls HR2.out).mono ?_)); rintro e w' ⟨rfl, rfl⟩)
    | (go_at_call 52; (with_reducible refine (least_calls HR1.out (n : Int) hs).mono ?_); rintro e w2 ⟨a, rfl, ha1, ha2, ha3, hb2⟩; have HR2 := Aside0.mk (HR1.out.below hb2); have HA2 := Aside0.mk ha2; have HA3 := Aside0.mk ha3; clear ha2 ha3)
    | (go_at_call 52; (with_reducible refine (least_calls HR2.out ((n : Int) + 1) hs).mono ?_); rintro e w3 ⟨b, rfl, ha4, ha5, ha6, hb3⟩; have HA5 := Aside0.mk ha5; have HA6 := Aside0.mk ha6; clear ha5 ha6))
  refine bodyPost_ret (v := .tuple #[.int .i64 (n : Int), .int .i64 (a : Int), .int .i64 (b : Int), .int .i64 0]) (by simp [results, Try.results24, go_sem]) rfl ?_
  have ht := RT.toL_len t
  refine ⟨n, a, b, rfl, ⟨HN.out.symm, by omega, fun m hm => by have := HA2.out m hm; omega, fun h => by have := HA3.out (by omega); omega, by omega, fun m hm => by have := HA5.out m hm; omega, fun h => by have := HA6.out (by omega); omega⟩, below_step (below_step hb1 hb2) hb3⟩
end
end Go.Proofs.Ytenjldfflkinkaa.Rop

namespace Go.Proofs.Ytenjldfflkinkaa.Rop
set_option linter.unusedVariables false
set_option linter.unusedSimpArgs false
open Go.RowKit Go.Shelf Go.Proofs.Ytenjldfflkinkaa.F Go.Proofs.YtenjldfflkinkaaW.PrintWords Go.Proofs.YtenjldfflkinkaaW.PrintLast Go.Proofs.YtenjldfflkinkaaW.PrintMore
attribute [local go_sem] Oper.semAt_some

/-- places and numbers, from a place on -/
def idx (k : Int) : List Int → List (Int × Int)
  | [] => []
  | c :: l => (k, c) :: idx (k + 1) l
theorem idx_app : ∀ (k : Int) (l m : List Int), idx k (l ++ m) = idx k l ++ idx (k + (l.length : Int)) m
  | k, [], m => by simp [idx]
  | k, c :: l, m => by
    simp only [List.cons_append, idx, idx_app (k + 1) l m, List.length_cons]
    have e : k + 1 + (l.length : Int) = k + ((l.length + 1 : Nat) : Int) := by omega
    rw [e]
theorem idx_len : ∀ (k : Int) (l : List Int), (idx k l).length = l.length
  | _, [] => rfl
  | k, c :: l => by simp [idx, idx_len (k + 1) l]
theorem idx_node (k : Int) (l r : RT) (c : Int) : idx k (RT.node l c r).toL = idx k l.toL ++ (k + (l.sz : Int), c) :: idx (k + (l.sz : Int) + 1) r.toL := by
  simp only [RT.toL]
  rw [idx_app, RT.toL_len]
  rfl
theorem hdd_ : ∀ k : Nat, (Fence.wide.depth.isSome = true → 1 ≤ k) := fun k h => by cases h
def encR (x : Int × Int) : Array Value := #[.int .i64 x.1, .int .i32 x.2]
/-- what lies in the blocks of S lies as it lay -/
def KeepS (S : Nat → Prop) (W W' : World) : Prop := ∀ k, S k → W'.heap[k]? = W.heap[k]?
theorem KeepS.refl (S : Nat → Prop) (W : World) : KeepS S W W := fun _ _ => rfl
theorem KeepS.trans {S : Nat → Prop} {A B C : World} (h : KeepS S A B) (k : KeepS S B C) : KeepS S A C := fun j hj => (k j hj).trans (h j hj)
theorem KeepS.cell {S : Nat → Prop} {A B : World} (h : KeepS S A B) {b o : Nat} (hb : S b) : B.cell? ⟨b, o, none⟩ = A.cell? ⟨b, o, none⟩ := by
  simp only [World.cell?, h b hb]
theorem KeepS.of_below {S : Nat → Prop} {n : Nat} {A B : World} (h : Below n A B) (hS : ∀ k, S k → k < n) : KeepS S A B := fun k hk => h.block k (hS k hk)
/-- A pointer to a tree, in blocks of S. -/
def NodeIn (S : Nat → Prop) (W : World) : Option Addr → RT → Prop
  | p, .nil => p = none
  | p, .node l c r => ∃ (b : Nat) (pl pr : Option Addr), p = some ⟨b, 0, none⟩ ∧ S b ∧ W.cell? ⟨b, 0, none⟩ = some (.int .i32 c) ∧ W.cell? ⟨b, 1, none⟩ = some (.pointer pl) ∧ W.cell? ⟨b, 2, none⟩ = some (.pointer pr) ∧
      W.cell? ⟨b, 3, none⟩ = some (.int .i64 ((RT.node l c r).sz : Int)) ∧ W.cell? ⟨b, 4, none⟩ = some (.int .i64 ((RT.node l c r).dp : Int)) ∧ W.cell? ⟨b, 5, none⟩ = some (.int .i64 ((RT.node l c r).bk sep : Int)) ∧ NodeIn S W pl l ∧ NodeIn S W pr r
theorem NodeIn.keep {S : Nat → Prop} {A B : World} (h : KeepS S A B) : ∀ {p : Option Addr} {t : RT}, NodeIn S A p t → NodeIn S B p t
  | _, .nil, ht => ht
  | _, .node _ _ _, ⟨b, pl, pr, hp, hb, h0, h1, h2, h3, h4, h5, hl, hr⟩ => ⟨b, pl, pr, hp, hb, (h.cell hb).trans h0, (h.cell hb).trans h1, (h.cell hb).trans h2, (h.cell hb).trans h3, (h.cell hb).trans h4, (h.cell hb).trans h5, hl.keep h, hr.keep h⟩
theorem NodeIn.nd {S : Nat → Prop} {W : World} : ∀ {p : Option Addr} {t : RT}, NodeIn S W p t → Nd W p t
  | _, .nil, ht => ht
  | _, .node _ _ _, ⟨b, pl, pr, hp, hb, h0, h1, h2, h3, h4, h5, hl, hr⟩ => ⟨b, pl, pr, hp, World.block_lt_of_cell? W _ h0, h0, h1, h2, h3, h4, h5, hl.nd, hr.nd⟩
theorem NodeAt.inS {S : Nat → Prop} {W : World} (hS : ∀ b pl, b < W.heap.size → W.cell? ⟨b, 1, none⟩ = some (.pointer pl) → S b) {n : Nat} (hn : n ≤ W.heap.size) : ∀ {p : Option Addr} {t : RT}, NodeAt n W p t → NodeIn S W p t
  | _, .nil, ht => ht
  | _, .node _ _ _, ⟨b, pl, pr, hp, hb, h0, h1, h2, h3, h4, h5, hl, hr⟩ => ⟨b, pl, pr, hp, hS b pl (Nat.lt_of_lt_of_le hb hn) h1, h0, h1, h2, h3, h4, h5, hl.inS hS hn, hr.inS hS hn⟩
theorem keepS_t {S : Nat → Prop} {A B C : World} (h : KeepS S A B) (k : KeepS S B C) : KeepS S A C := h.trans k
theorem keepS_b {S : Nat → Prop} {w : World} (hS : ∀ k, S k → k < w.heap.size) (W : World) (l : Nat) (o o' : Obj) (hl : w.heap.size ≤ l) (h : W.heap[l]? = some o) (h1 : o.isCells = false) (h2 : o.isWalk = false) : KeepS S W (W.putObj l o') :=
  fun k hk => (grownBy_putObj' W l o').block k (by have := (Array.getElem?_eq_some_iff.1 h).1; have := hS k hk; omega) (by have := hS k hk; simp; omega)
theorem YieldAt.anyDepthW {m : Nat} (m' : Nat) {P : Program} {l : Nat} {args : Array Value} {W : World} {R : Ending → World → Prop} (h : YieldAt Fence.wide m P l args W R) : YieldAt Fence.wide m' P l args W R := by
  obtain ⟨fn, tmps, assign, body, hy, hR⟩ := h
  exact ⟨fn, tmps, assign, body, hy, ⟨hR.1, fun c cs _ => hR.2 c cs (fun d h => by cases h)⟩⟩

set_option maxRecDepth 100000 in
set_option maxHeartbeats 4000000 in
theorem walk_in (S : Nat → Prop) (lp N : Nat) (J Jx : List (Int × Int) → World → Prop)
    (hY : ∀ m pre x W, J pre W → pre.length < N → YieldAt Fence.wide m Try.prog lp (encR x) W fun e W' =>
      (e = .returned (.bool true) ∧ J (pre ++ [x]) W' ∧ KeepS S W W') ∨ (e = .returned (.bool false) ∧ Jx (pre ++ [x]) W')) (t : RT) :
    ∀ (n : Nat) (p : Option Addr) (k : Int) (pre : List (Int × Int)) (W : World), NodeIn S W p t → J pre W → pre.length + t.sz ≤ N → 0 ≤ k → k + (t.sz : Int) ≤ 1000000000000000 →
      CallsIn Fence.wide n Try.prog 49 #[.pointer p, .int .i64 k, .func (.yield lp) #[] #[]] W fun e W' =>
        (e = .returned (.bool true) ∧ J (pre ++ idx k t.toL) W' ∧ KeepS S W W') ∨ (e = .returned (.bool false) ∧ ∃ q, q <+: idx k t.toL ∧ Jx (pre ++ q) W') := by
  induction t with
  | nil =>
    intro n p k pre W ht hJ _ _ _
    obtain rfl : p = none := ht
    refine callsIn_of_wp Try.func49 rfl trivial ?_ rfl
    simp only [Try.ntmps49, List.size_toArray, List.length_cons, List.length_nil, Nat.reduceAdd, Nat.reduceSub, Array.replicate_succ, Array.replicate_zero, List.push_toArray, List.append_toArray, List.nil_append, List.cons_append]
    gi_wp2
    go_ret
    exact .inl ⟨rfl, by simpa [RT.toL, idx] using hJ, KeepS.refl _ _⟩
  | node tl v tr ihl ihr =>
    intro n p k pre W ht hJ hN hk0 hk1
    obtain ⟨b, pl, pr, rfl, hb, c0, c1, c2, c3, c4, c5, hl, hr⟩ := ht
    have hnode := idx_node k tl tr v
    have hsz := size_calls hl.nd
    have hil := idx_len k tl.toL
    have hil2 := RT.toL_len tl
    simp only [RT.sz] at hN hk1
    have hat : (k : Int) + (tl.sz : Int) ≤ 1000000000000000 := by omega
    have hat0 : 0 ≤ (k : Int) + (tl.sz : Int) := by omega
    have hkl : (tl.sz : Int) ≤ 1000000000000000 := by omega
    have hy2 : ∀ W1, J (pre ++ idx k tl.toL) W1 → KeepS S W W1 → YieldAt Fence.wide (n - 1) Try.prog lp #[.int .i64 (k + (tl.sz : Int)), .int .i32 v] W1 fun e W2 =>
        (e = .returned (.bool true) ∧ J (pre ++ idx k tl.toL ++ [(k + (tl.sz : Int), v)]) W2 ∧ KeepS S W W2 ∧ W2.cell? ⟨b, 2, none⟩ = some (.pointer pr) ∧ NodeIn S W2 pr tr) ∨ (e = .returned (.bool false) ∧ Jx (pre ++ idx k tl.toL ++ [(k + (tl.sz : Int), v)]) W2) := fun W1 hJ1 hb1 =>
      YieldAt.mono (hY (n - 1) _ (k + (tl.sz : Int), v) W1 hJ1 (by simp [hil, hil2]; omega)) fun e W2 h => h.elim
        (fun ⟨he, hj, hb2⟩ => .inl ⟨he, hj, hb1.trans hb2, ((hb1.trans hb2).cell hb).trans c2, hr.keep (hb1.trans hb2)⟩) .inr
    have ih1 := (ihl (n - 1) pl k pre W hl hJ (by omega) hk0 (by omega)).mono (R' := fun e W1 =>
        (e = .returned (.bool true) ∧ W1.cell? ⟨b, 0, none⟩ = some (.int .i32 v) ∧ YieldAt Fence.wide (n - 1) Try.prog lp #[.int .i64 (k + (tl.sz : Int)), .int .i32 v] W1 fun e W2 =>
          (e = .returned (.bool true) ∧ J (pre ++ idx k tl.toL ++ [(k + (tl.sz : Int), v)]) W2 ∧ KeepS S W W2 ∧ W2.cell? ⟨b, 2, none⟩ = some (.pointer pr) ∧ NodeIn S W2 pr tr) ∨ (e = .returned (.bool false) ∧ Jx (pre ++ idx k tl.toL ++ [(k + (tl.sz : Int), v)]) W2)) ∨
        (e = .returned (.bool false) ∧ ∃ q, q <+: idx k tl.toL ∧ Jx (pre ++ q) W1))
      (fun e W1 h => h.elim (fun ⟨he, hj, hb1⟩ => .inl ⟨he, (hb1.cell hb).trans c0, hy2 W1 hj hb1⟩) .inr)
    clear hy2 ihl
    have HN := Aside0.mk hnode
    have HIL := Aside0.mk hil
    have HIL2 := Aside0.mk hil2
    clear hnode hil hil2 c3 c4 c5
    refine callsIn_of_wp Try.func49 rfl trivial ?_ rfl
    simp only [Try.ntmps49, List.size_toArray, List.length_cons, List.length_nil, Nat.reduceAdd, Nat.reduceSub, Array.replicate_succ, Array.replicate_zero, List.push_toArray, List.append_toArray, List.nil_append, List.cons_append]
    gi_wp2_with (first
      | ((try refine ⟨trivial, ?_⟩); (try refine ⟨hdd_ _, ?_⟩); gi_at_call 46; (with_reducible refine (callsIn_wide.2 hsz).mono ?_); rintro e w1 ⟨rfl, rfl⟩)
      | ((try refine ⟨trivial, ?_⟩); (try refine ⟨hdd_ _, ?_⟩); gi_at_call 49; refine ih1.mono ?_; clear ih1; rintro e W1 (⟨rfl, c0', fn, tmps, assign, body, hy, hR⟩ | ⟨rfl, q, hq, hx1⟩))
      | ((try refine ⟨trivial, ?_⟩); (try refine ⟨hdd_ _, ?_⟩); refine hR.mono ?_; clear hR; rintro e W2 (⟨rfl, hJ2, hb2, c2', hr2⟩ | ⟨rfl, hx2⟩))
      | ((try refine ⟨trivial, ?_⟩); (try refine ⟨hdd_ _, ?_⟩); gi_at_call 49; refine (ihr (n - 1) pr (k + (tl.sz : Int) + 1) _ _ hr2 hJ2 (by simp [HIL.out, HIL2.out]; omega) (by omega) (by omega)).mono ?_; rintro e W3 (⟨rfl, hJ3, hb3⟩ | ⟨rfl, q, hq, hx3⟩)))
    · go_ret
      exact .inl ⟨rfl, by rw [HN.out]; simpa [List.append_assoc] using hJ3, hb2.trans hb3⟩
    · go_ret
      obtain ⟨r, hr'⟩ := hq
      exact .inr ⟨rfl, idx k tl.toL ++ (k + (tl.sz : Int), v) :: q, ⟨r, by rw [HN.out, ← hr']; simp⟩, by simpa [List.append_assoc] using hx3⟩
    · refine ⟨trivial, ?_⟩
      gi_wp2
      go_ret
      exact .inr ⟨rfl, idx k tl.toL ++ [(k + (tl.sz : Int), v)], ⟨idx (k + (tl.sz : Int) + 1) tr.toL, by rw [HN.out]; simp⟩, by simpa [List.append_assoc] using hx2⟩
    · refine ⟨fun _ h => (by cases h), ?_⟩
      gi_wp2
      refine ⟨trivial, ?_⟩
      gi_wp2
      go_ret
      exact .inr ⟨rfl, q, hq.trans (by rw [HN.out]; exact List.prefix_append _ _), hx1⟩
set_option maxHeartbeats 2000000 in
theorem all1_in (S : Nat → Prop) (n lp Bt : Nat) (g : Nat) (q : Option Addr) (t : RT) (J Jx : List (Int × Int) → World → Prop)
    (hY : ∀ pre x W, J pre W → pre.length < t.sz → YieldAt Fence.wide (n - 1) Try.prog lp (encR x) W fun e W' =>
      (e = .returned (.bool true) ∧ J (pre ++ [x]) W' ∧ KeepS S W W') ∨ (e = .returned (.bool false) ∧ Jx (pre ++ [x]) W'))
    (W : World) (hBt : W.cell? ⟨Bt, 0, none⟩ = some (.pointer (some ⟨g, 0, none⟩))) (hg0 : W.cell? ⟨g, 0, none⟩ = some (.bool true)) (hg1 : W.cell? ⟨g, 1, none⟩ = some (.pointer q)) (hN : NodeIn S W q t) (hs : t.sz ≤ 800000000000000) (h0 : J [] W) :
    CallsIn Fence.wide n Try.prog 48 #[.func (.yield lp) #[] #[], .pointer (some ⟨Bt, 0, none⟩)] W fun e W' => (∃ v, e = .returned v) ∧
      ((∃ ys, ys = idx 0 t.toL ∧ J ys W') ∨ (∃ pre, pre <+: idx 0 t.toL ∧ Jx pre W')) := by
  have hno : Calls Try.prog 45 #[.pointer (some ⟨g, 0, none⟩)] W fun e w' => e = .returned (.bool false) ∧ W = w' := none_no (t := t) ⟨g, q, rfl, World.block_lt_of_cell? W _ hg0, hg0, hg1, hN.nd⟩
  have hp := walk_in S lp t.sz J Jx (fun m pre x W hj hl => YieldAt.anyDepthW m (hY pre x W hj hl)) t (n - 1) q 0 [] W hN h0 (by simp) (by omega) (by omega)
  clear hN
  refine callsIn_of_wp Try.func48 rfl trivial ?_ rfl
  simp only [Try.ntmps48, List.size_toArray, List.length_cons, List.length_nil, Nat.reduceAdd, Nat.reduceSub, Array.replicate_succ, Array.replicate_zero, List.push_toArray, List.append_toArray, List.nil_append, List.cons_append]
  gi_wp2_with (first
    | ((try refine ⟨trivial, ?_⟩); (try refine ⟨hdd_ _, ?_⟩); gi_at_call 45; (with_reducible refine (callsIn_wide.2 hno).mono ?_); rintro e w1 ⟨rfl, rfl⟩)
    | ((try refine ⟨trivial, ?_⟩); (try refine ⟨hdd_ _, ?_⟩); gi_at_call 49; refine hp.mono ?_; clear hp; rintro e W1 (⟨rfl, hJ1, _⟩ | ⟨rfl, q, hq, hx⟩)))
  · go_end0
    exact ⟨⟨_, rfl⟩, .inl ⟨_, rfl, by simpa using hJ1⟩⟩
  · go_end0
    exact ⟨⟨_, rfl⟩, .inr ⟨q, hq, by simpa using hx⟩⟩
theorem All_in (n : Nat) (p : Option Addr) (w : World) :
    CallsIn Fence.wide n Try.prog 21 #[.pointer p] w fun e w' => e = .returned (.func (.func 48) #[] #[.pointer (some ⟨w.heap.size, 0, none⟩)]) ∧ w' = w.alloc (.cells #[.pointer p] 27) := by
  refine callsIn_of_wp Try.func21 rfl trivial ?_ rfl
  simp only [Try.ntmps21, List.size_toArray, List.length_cons, List.length_nil, Nat.reduceAdd, Nat.reduceSub, Array.replicate_succ, Array.replicate_zero, List.push_toArray, List.append_toArray, List.nil_append, List.cons_append]
  gi_wp2
  go_ret
  exact ⟨rfl, rfl⟩
/-- What All hands back: the places with their numbers, in their order; or as many as a loop would have. -/
theorem All_stops (S : Nat → Prop) (n : Nat) (Bt g : Nat) (q : Option Addr) (t : RT) (w : World) (hBt : w.cell? ⟨Bt, 0, none⟩ = some (.pointer (some ⟨g, 0, none⟩))) (hg0 : w.cell? ⟨g, 0, none⟩ = some (.bool true)) (hg1 : w.cell? ⟨g, 1, none⟩ = some (.pointer q)) (hN : NodeIn S w q t) (hS : ∀ k, S k → k < w.heap.size) (hs : t.sz ≤ 800000000000000) :
    SeqStopsK Fence.wide n Try.prog 48 #[.pointer (some ⟨Bt, 0, none⟩)] encR (KeepS S) (fun ys => ys = idx 0 t.toL) (fun pre => pre <+: idx 0 t.toL) t.sz w := fun l J Jx W hW _ _ hY h0 =>
  all1_in S n l Bt g q t J Jx hY W ((hW.cell (p := ⟨Bt, 0, none⟩) (World.block_lt_of_cell? w _ hBt)).trans hBt) ((hW.cell (p := ⟨g, 0, none⟩) (World.block_lt_of_cell? w _ hg0)).trans hg0) ((hW.cell (p := ⟨g, 1, none⟩) (World.block_lt_of_cell? w _ hg1)).trans hg1) (hN.keep (KeepS.of_below hW hS)) hs h0
end Go.Proofs.Ytenjldfflkinkaa.Rop

namespace Go.Proofs.Ytenjldfflkinkaa.Rop
set_option linter.unusedVariables false
set_option linter.unusedSimpArgs false
open Go.RowKit Go.Shelf Go.Proofs.Ytenjldfflkinkaa.F Go.Proofs.YtenjldfflkinkaaW.PrintWords Go.Proofs.YtenjldfflkinkaaW.PrintLast Go.Proofs.YtenjldfflkinkaaW.PrintMore
attribute [local go_sem] Oper.semAt_some

theorem own_size {β : Type} {B n : Nat} : OwnFrom B (fun (_ : β) W => n ≤ W.heap.size) := fun _ _ _ _ hs hg _ => Nat.le_trans hs hg.size
theorem made_one (x : Value) (n : Nat) : ∀ (i : Nat) (v : Value), (madeCells #[x] n)[i]? = some v → v = x := by
  intro i v h
  simp only [madeCells, Array.getElem?_map, Option.map_eq_some_iff] at h
  obtain ⟨j, _, rfl⟩ := h
  have : j % (#[x] : Array Value).size = 0 := by show j % 1 = 0; omega
  rw [this]
  rfl
def encI (x : Int × Int) : Value := .int .i32 x.2
theorem encs_map (pre : List (Int × Int)) : pre.map encI = encs (Value.int .i32) (pre.map Prod.snd) := by
  simp [encs, encI, List.map_map, Function.comp]
theorem idx_snd : ∀ (k : Int) (l : List Int), (idx k l).map Prod.snd = l
  | _, [] => rfl
  | k, c :: l => by simp [idx, idx_snd (k + 1) l]
def GivesL (zs : List Int) (w : World) (e : Ending) (w' : World) : Prop := ∃ v : Value, e = .returned (.tuple #[v, .int .i64 0]) ∧ Kd.R (Kd.int .i32) 21 w' w.heap.size (fun _ => True) v zs ∧ Below w.heap.size w w'
set_option maxRecDepth 100000 in
set_option maxHeartbeats 4000000 in
theorem Slice_calls {w : World} {p : Option Addr} {t : RT} (h : IsR w p t) (a b : Nat) (h1 : a ≤ b) (h2 : b ≤ t.sz) (hs : t.sz ≤ 1000000) : Calls Try.prog 16 #[.pointer p, .int .i64 (a : Int), .int .i64 (b : Int)] w (GivesL ((t.toL.drop a).take (b - a)) w) := by
  have hsp := span_calls h (a : Int) (b : Int)
  have e0 : spanE (t.sz : Int) (a : Int) (b : Int) = 0 := by unfold spanE; rw [if_neg (by omega)]
  rw [e0] at hsp
  obtain ⟨i0, hi, hz0, hz1, hz2⟩ := info_parts info21
  obtain ⟨g, q, rfl, k1, k2, k3, k4⟩ := h
  have hcut := fun W q => cut_calls t (a : Int) (by omega) (by omega) (by omega) (w := W) (p := q)
  have hc1 := RT.cut_toL t a (by omega)
  have hc2 := RT.cut_sz t a (by omega)
  generalize RT.cut t (a : Int) = xy at hcut hc1 hc2
  obtain ⟨x, y⟩ := xy
  simp only at hcut hc1 hc2
  have hcut2 := fun W q => cut_calls y ((b : Int) - (a : Int)) (by omega) (by omega) (by omega) (w := W) (p := q)
  have eba : (b : Int) - (a : Int) = ((b - a : Nat) : Int) := by omega
  have hd1 := RT.cut_toL y (b - a) (by omega)
  rw [← eba] at hd1
  have hd2 := RT.cut_sz y (b - a) (by omega)
  rw [← eba] at hd2
  generalize RT.cut y ((b : Int) - (a : Int)) = uv at hcut2 hd1 hd2
  obtain ⟨u, v⟩ := uv
  simp only at hcut2 hd1 hd2
  have hres : (t.toL.drop a).take (b - a) = u.toL := by rw [hd1.1, hc1.2]
  rw [hres]
  have hus : u.sz ≤ 1000000 := by omega
  have hm : b - a ≤ 1000000 := by omega
  have HC := Aside0.mk hcut
  have HC2 := Aside0.mk hcut2
  have HN := Aside0.mk k4
  have hab : (a : Int) ≤ (b : Int) := by omega
  have hbb : (b : Int) ≤ 1000000 := by omega
  clear e0 hcut hcut2 hc1 hc2 hd1 hd2 hres k4 eba
  obtain ⟨cur, hcur⟩ : ∃ cur, madeCells (Value.int .i32 0).cells ((b - a) * 1) = cur := ⟨_, rfl⟩
  have hcs : cur.size = (b - a) * 1 := by rw [← hcur, size_madeCells]
  have hcv : ∀ (i : Nat) (v : Value), cur[i]? = some v → v = Value.int .i32 0 := by rw [← hcur]; exact made_one _ _
  have hmk : ∀ W : World, (Instr.makeSlice 23 (.int .i64 0) (.int .i64 ((b : Int) - (a : Int)))).run Try.prog W = .ok (.slice (some ⟨W.heap.size, 0, none⟩) 0 (b - a)) (W.alloc (.cells cur 21)) := fun W => by
    have hr := run_make (P := Try.prog) W 23 21 i0 (.int .i32 0) Try.underlying23 hi hz0 .i64 .i64 0 ((b : Int) - (a : Int)) (by omega) (by omega) (by rw [hz2]; omega) (by omega)
    rw [hz1, show ((b : Int) - (a : Int)).toNat = b - a by omega, hcur] at hr
    exact hr
  have hrow0 : (w.alloc (.cells cur 21)).ownsRow w.heap.size 21 1 (.slice (some ⟨w.heap.size, 0, none⟩) 0 (b - a)) 0 [] := World.ownsRow_made w cur (b - a) (Nat.le_refl _) (by simp [maxLen]; omega) hcs
  have hb1 : Below w.heap.size w (w.alloc (.cells cur 21)) := (Below.refl _ w).alloc (Nat.le_refl _) _
  have hb0 := below_alloc hb1 (.cells #[.slice (some ⟨w.heap.size, 0, none⟩) 0 (b - a)] 23)
  have kk := (hb1.cell (p := ⟨g, 1, none⟩) k1).trans k3
  have kk2 := (hb0.cell (p := ⟨g, 1, none⟩) k1).trans k3
  have HB0 := Aside0.mk hb0
  have HCV := Aside0.mk hcv
  clear hcur hb1 hb0 hcv
  refine (callsIn_wide (n := 5)).1 ?_
  refine callsIn_of_wp_marks Try.func16 rfl trivial ?_ rfl
  simp only [Try.ntmps16, List.size_toArray, List.length_cons, List.length_nil, Nat.reduceAdd, Nat.reduceSub, Array.replicate_succ, Array.replicate_zero, List.push_toArray, List.append_toArray, List.nil_append, List.cons_append]
  gi_wp2_with (first
    | (refine ⟨trivial, ?_⟩; gi_at_call 41; (with_reducible refine (callsIn_wide.2 hsp).mono ?_); rintro e w' ⟨rfl, rfl⟩)
    | (refine ⟨trivial, ?_⟩; gi_at_call 42; (with_reducible refine (callsIn_wide.2 (HC.out _ _ (HN.out.below HB0.out))).mono ?_); rintro e w2 ⟨p1, q1, rfl, hx1, hy1, hb2⟩; have HY1 := Aside0.mk hy1; have HB2 := Aside0.mk hb2; clear hx1 hy1 hb2)
    | (refine ⟨trivial, ?_⟩; gi_at_call 42; (with_reducible refine (callsIn_wide.2 (HC2.out _ _ HY1.out)).mono ?_); rintro e w3 ⟨p2, q2, rfl, hu1, hv1, hb3⟩; have HU1 := Aside0.mk hu1; have HB3 := Aside0.mk hb3; clear hu1 hv1 hb3)
    | (refine ⟨trivial, ?_⟩; gi_at_call 33; (with_reducible refine (callsIn_wide.2 (of_calls HU1.out)).mono ?_); rintro e w4 ⟨p3, rfl, hr4, hb4⟩; have HR4 := Aside0.mk hr4; have HB4 := Aside0.mk hb4; clear hr4 hb4)
    | (refine ⟨trivial, ?_⟩; gi_at_call 21; refine (All_in _ _ _).mono ?_; rintro e w' ⟨rfl, rfl⟩))
  obtain ⟨W1, hW1⟩ : ∃ W1, (w.alloc (.cells cur 21)).alloc (.cells #[.slice (some ⟨w.heap.size, 0, none⟩) 0 (b - a)] 23) = W1 := ⟨_, rfl⟩
  have hbx : Boxed W1 (w.heap.size + 1) 23 (.slice (some ⟨w.heap.size, 0, none⟩) 0 (b - a)) := by
    have := Boxed.new (w.alloc (.cells cur 21)) 23 (.slice (some ⟨w.heap.size, 0, none⟩) 0 (b - a))
    rw [hW1, World.size_alloc] at this
    exact this
  have hrow1 : W1.ownsRow w.heap.size 21 1 (.slice (some ⟨w.heap.size, 0, none⟩) 0 (b - a)) 0 [] := by
    rw [← hW1]
    exact hrow0.alloc _
  have hrh : W1.heap[w.heap.size]? = some (.cells cur 21 (0, 0)) := by
    rw [← hW1]
    exact (Below.heap_alloc _ _ _ (by simp)).trans (World.alloc_heap_new w _)
  rw [hW1] at HB0 HB2
  have hb24 : Below W1.heap.size W1 w4 := below_step (below_step HB2.out HB3.out) HB4.out
  have hb25 := below_alloc hb24 (.cells #[.pointer p3] 27)
  have hbb5 := Boxed.new w4 27 (.pointer p3)
  obtain ⟨W0, hW0⟩ : ∃ W0, w4.alloc (.cells #[.pointer p3] 27) = W0 := ⟨_, rfl⟩
  rw [hW0] at hb25 hbb5 ⊢
  have hbx0 : Boxed W0 (w.heap.size + 1) 23 (.slice (some ⟨w.heap.size, 0, none⟩) 0 (b - a)) := (hb25.block _ hbx.lt).trans hbx
  have hrow2 : W0.ownsRow w.heap.size 21 1 (.slice (some ⟨w.heap.size, 0, none⟩) 0 (b - a)) 0 [] := hrow1.kept (grown_of_below hb25 none) (.inr (by simp [Value.ownBlock]))
  have hrh0 : W0.heap[w.heap.size]? = some (.cells cur 21 (0, 0)) := (hb25.block _ (by have := hbx.lt; omega)).trans hrh
  obtain ⟨g3, q3, rfl, m1, m2, m3, m4⟩ := HR4.out.below (show Below w4.heap.size w4 W0 by rw [← hW0]; exact (Below.refl _ _).alloc (Nat.le_refl _) _)
  have hBW : Below w.heap.size w W0 := below_step HB0.out hb25
  obtain ⟨S, hS⟩ : ∃ S : Nat → Prop, S = fun k => k < W0.heap.size ∧ k ≠ w.heap.size + 1 ∧ k ≠ w.heap.size := ⟨_, rfl⟩
  have hSin : NodeIn S W0 q3 u := NodeAt.inS (fun k pl hk hc => by
    rw [hS]
    refine ⟨hk, ?_, ?_⟩
    · intro e
      subst e
      simp [World.cell?, show W0.heap[w.heap.size + 1]? = _ from hbx0] at hc
    · intro e
      subst e
      simp only [World.cell?, hrh0] at hc
      have := HCV.out 1 _ (by simpa using hc)
      cases this) (Nat.le_refl _) m4
  have hSl : ∀ k, S k → k < W0.heap.size := fun k hk => by rw [hS] at hk; exact hk.1
  have hSb : ∀ k, S k → k ≠ w.heap.size + 1 := fun k hk => by rw [hS] at hk; exact hk.2.1
  have hSr : ∀ k, S k → k ≠ w.heap.size := fun k hk => by rw [hS] at hk; exact hk.2.2
  have hlen := idx_len 0 u.toL
  rw [RT.toL_len] at hlen
  have hws : w.heap.size + 2 ≤ W0.heap.size := hbx0.lt
  have hbo : (w.alloc (.cells cur 21)).heap.size = w.heap.size + 1 := by simp
  clear hS HB2 HB3 HB4 HB0 hrow0 hrow1 hrh HU1 HY1 HC HC2 HN kk kk2 hb24 hb25 hmk hsp k1 k2 k3 HR4 hbx
  refine wpIn_rangeFunc_ownG rfl (by omega) (gf := 48) (lb := #[.pointer (some ⟨w4.heap.size, 0, none⟩)]) rfl trivial (enters_of Try.func48 (by kernel_rfl) rfl)
    (All_stops S _ w4.heap.size g3 q3 u W0 hbb5.cell m2 m3 hSin hSl (by omega)) keepS_t (keepS_b hSl) (Below.refl _ _) (fun _ => rfl)
    (fun pre W => (∃ v, Boxed W (w.heap.size + 1) 23 v ∧ W.ownsRow w.heap.size 21 1 v pre.length (pre.map encI) ∧ (∀ k, S k → some k ≠ v.ownBlock)) ∧ (W0.heap.size ≤ W.heap.size ∧ Below w.heap.size w W))
    (fun _ _ _ => False)
    (OwnFrom.and (Own.from (holdsRow_own w.heap.size (w.heap.size + 1) 23 21 1 (fun (pre : List (Int × Int)) => pre.length) (fun (pre : List (Int × Int)) => pre.map encI) (fun _ v => ∀ k, S k → some k ≠ v.ownBlock)) _) (OwnFrom.and own_size (ownFrom_below (Nat.le_refl _) (by omega))))
    (fun _ _ _ _ _ hs _ _ => hs)
    ⟨⟨_, hbx0, hrow2, fun k hk e => hSr k hk (by simpa [Value.ownBlock] using e)⟩, Nat.le_refl _, hBW⟩
    (fun x => { tmps := #[.pointer (some ⟨g, 0, none⟩), .int .i64 (a : Int), .int .i64 (b : Int), undef, undef, undef, .slice none 0 0, .int .i64 0, .int .i64 0, .pointer (some ⟨w.heap.size + 1, 0, none⟩), .pointer p1, .pointer q1, .pointer p2, .pointer q2, undef, .int .i32 x.2, .pointer (some ⟨g, 0, none⟩), .int .i64 (a : Int), .int .i64 (b : Int), .int .i64 0, .int .i64 0, .bool false, undef, .int .i64 (b : Int), .int .i64 (a : Int), .int .i64 ((b : Int) - (a : Int)), .slice (some ⟨w.heap.size, 0, none⟩) 0 (b - a), .tuple #[.pointer p1, .pointer q1], .pointer (some ⟨g, 0, none⟩), .pointer (some ⟨g, 0, none⟩), .pointer (some ⟨g, 1, none⟩), .pointer q, .int .i64 (a : Int), .tuple #[.pointer p1, .pointer q1], .pointer p1, .pointer q1, .tuple #[.pointer p2, .pointer q2], .pointer q1, .int .i64 (b : Int), .int .i64 (a : Int), .int .i64 ((b : Int) - (a : Int)), .tuple #[.pointer p2, .pointer q2], .pointer p2, .pointer q2, .pointer p2, .pointer (some ⟨g3, 0, none⟩), .func (.func 48) #[] #[.pointer (some ⟨w4.heap.size, 0, none⟩)], .int .i64 x.1, .int .i32 x.2, undef, undef, undef, undef, undef], defers := [] }) ?assign ?body ?done ?stop
  case assign =>
    intro l x W K hK
    dsimp only [encR]
    gi_wp2
    exact hK
  case body =>
    rintro l pre x W ⟨⟨v, hv, hrow, hvS⟩, hW0, hB⟩ hlt
    have hcv := hv.cell
    have hlt2 : pre.length < 1000000 := by omega
    gi_wp2_with (gi_at_builtin; refine wpListIn_append_own_at _ rfl _ _ 23 rfl w.heap.size 21 i0 (.int .i32 0) 1 4 Try.underlying23 hi hz0 hz1 hz2 rfl (by decide) v pre.length (pre.map encI) rfl (hrow.alloc _) ⟨W.heap.size, 0, none⟩ 1 1 [.int .i32 x.2] rfl rfl (cell_one_new _ _ _) (by simp [Value.oneCell']) (by simp [maxLen]; omega) (by omega) (by have := hB.size; simp; omega) ?_; intro v' w5 hown' hgrow _ hat; obtain ⟨g', cap', rfl⟩ := ownsRow_succ hown'; obtain ⟨hv1, hv2, hr2, hk2, hb2⟩ := hv.appended (by decide) hrow hB.size (Nat.le_succ _) hown' hgrow; have hc1 := hv1.cell; have hf1 := hv1.frozen)
    refine ⟨hk2.from _, ?_, ⟨_, hv2, ?_, ?_⟩, ?_, hB.trans hb2⟩
    · intro k hk
      have hkl : k < W.heap.size := Nat.lt_of_lt_of_le (hSl k hk) hW0
      have e1 := hgrow.block k (by simp; omega) (hvS k hk)
      have e2 := Below.heap_alloc W (.cells #[.int .i32 x.2] 21) k hkl
      have e3 := (grownBy_setCell' w5 (w.heap.size + 1) (.slice (some ⟨g', 0, none⟩) (pre.length + 1) cap')).block k (Nat.lt_of_lt_of_le (Nat.lt_succ_of_lt hkl) (by have := hgrow.size; simpa using this)) (fun e => hSb k hk (by injection e))
      exact e3.trans (e1.trans e2)
    · rw [List.map_append, List.length_append, List.length_singleton]
      exact hr2
    · intro k hk e
      have hkl : k < W.heap.size := Nat.lt_of_lt_of_le (hSl k hk) hW0
      rcases hat with h | h
      · exact hvS k hk (e.trans h)
      · rw [h] at e
        have : k = (W.alloc (.cells #[.int .i32 x.2] 21)).heap.size := by injection e
        simp at this
        omega
    · have := hgrow.size
      simp at this
      simp
      omega
  case done =>
    rintro D ys W hD rfl ⟨⟨v, hv, hrow, hvS⟩, hW0, hB⟩ hK
    have hcv := hv.cell
    gi_wp2
    refine ⟨by simp, .inl ⟨_, _, rfl, run_takeDeferred hK, ?_⟩⟩
    refine ⟨_, results_tmp2 rfl _ _ _, v, rfl, ?_, hB.trans (belowK_b (w := w) (Nat.le_refl _) W D _ _ (by omega) hK rfl rfl)⟩
    have hr3 := ownsRow_putObj hrow (.deferred none) hK rfl
    have e1 : (idx 0 u.toL).map encI = encs (Value.int .i32) u.toL := by rw [encs_map, idx_snd]
    rw [e1, idx_len] at hr3
    exact Kd.R_of_own hr3 (fun _ _ => trivial)
  case stop =>
    rintro D c pre W _ _ h _
    exact h.elim
end Go.Proofs.Ytenjldfflkinkaa.Rop

namespace Go.Proofs.Ytenjldfflkinkaa.Rop
set_option linter.unusedVariables false
set_option linter.unusedSimpArgs false
open Go.RowKit Go.Proofs.Ytenjldfflkinkaa.F Go.Proofs.YtenjldfflkinkaaW.PrintWords Go.Proofs.YtenjldfflkinkaaW.PrintLast Go.Proofs.YtenjldfflkinkaaW.PrintMore

theorem IsR.some {W : World} {p : Option Addr} {t : RT} (h : IsR W p t) : ∃ b, p = some ⟨b, 0, none⟩ := by
  obtain ⟨b, q, rfl, _⟩ := h
  exact ⟨b, rfl⟩
theorem C_lit {W : World} {g : Nat} {zs : List Int} (hz : zs.length ≤ 1000) (h : ∀ j, j < zs.length → W.cell? ⟨g, j, none⟩ = some (.int .i32 (zs.getD j 0))) : Kd.C (Kd.int .i32) W (some ⟨g, 0, none⟩) zs.length zs :=
  Kd.C_of_reads (d := (0 : Int)) (h1 := fun _ => rfl) ⟨rfl, by omega, fun _ => ⟨_, rfl, fun j hj => by rw [add_plain]; exact h j hj⟩⟩
end Go.Proofs.Ytenjldfflkinkaa.Rop

namespace Go.Proofs.Ytenjldfflkinkaa.F
open Go.RowKit Go.Proofs.YtenjldfflkinkaaW.PrintWords Go.Proofs.YtenjldfflkinkaaW.PrintLast Go.Proofs.YtenjldfflkinkaaW.PrintMore
attribute [local go_sem] max2_int min2_int max_two min_two max_three min_three max_four min_four   -- for this text's walks alone
set_option linter.unusedVariables false
set_option linter.unusedSimpArgs false

-- GIVEN: function 67 (ucd_Class)

-- NOT PRINTED: function 59 (rope_made)

-- NOT PRINTED: function 34 (rope_grown)

-- NOT PRINTED: function 10 (rope_New)

-- NOT PRINTED: function 45 (rope_Rope_none)

-- NOT PRINTED: function 17 (rope_Rope_Len)

-- NOT PRINTED: function 21 (rope_Rope_All)

-- NOT PRINTED: function 23 (rope_Rope_Breaks)

/-! ### colophonref01_Size: function 83 -/
def colophonref01_Size.j0 : Nat → Int → Bool → Option (Int)
  | 0, _, _ => none
  | k + 1, x3, x19 => if x19 = true then (some 0) else (if x3 < 128 then (some 1) else (if x3 < 2048 then (some 2) else (if x3 < 65536 then (some 3) else (some 4))))
def colophonref01_Size.f (k : Nat) (a0 : Int) : Option (Int) := if (wrap64 (a0)) < 0 then (colophonref01_Size.j0 k (wrap64 (a0)) true) else (if (wrap64 (a0)) > 1114111 then (colophonref01_Size.j0 k (wrap64 (a0)) true) else (if (wrap64 (a0)) ≥ 55296 then (colophonref01_Size.j0 k (wrap64 (a0)) (decide ((wrap64 (a0)) ≤ 57343))) else (colophonref01_Size.j0 k (wrap64 (a0)) false)))
theorem colophonref01_Size.mono_l : ∀ k, (∀ y0 y1, LeO (colophonref01_Size.j0 k y0 y1) (colophonref01_Size.j0 (k + 1) y0 y1))
  | 0 => fun _ _ r h => by simp [colophonref01_Size.j0] at h
  | k + 1 => by
    have ih0 := colophonref01_Size.mono_l k
    · intro y0 y1
      unfold colophonref01_Size.j0
      repeat' first
      | (with_reducible exact ih0 _ _)
      | (with_reducible exact LeO.refl _)
      | (with_reducible exact LeO.none _)
      | (with_reducible refine LeO.ite ?_ ?_)
      | (with_reducible refine LeO.bind ?_ (fun _ => ?_))
      | exact ih0 _ _
      | exact LeO.none _
      | refine LeO.ite ?_ ?_
      | refine LeO.bind ?_ (fun _ => ?_)
theorem colophonref01_Size.mono : ∀ a0 k, LeO (colophonref01_Size.f k a0) (colophonref01_Size.f (k + 1) a0) := by
  intro a0 k
  have ih0 := colophonref01_Size.mono_l k
  unfold colophonref01_Size.f
  repeat' first
      | (with_reducible exact ih0 _ _)
      | (with_reducible exact LeO.refl _)
      | (with_reducible exact LeO.none _)
      | (with_reducible refine LeO.ite ?_ ?_)
      | (with_reducible refine LeO.bind ?_ (fun _ => ?_))
      | exact ih0 _ _
      | exact LeO.none _
      | refine LeO.ite ?_ ?_
      | refine LeO.bind ?_ (fun _ => ?_)
set_option maxHeartbeats 8000000 in
set_option maxRecDepth 100000 in
theorem colophonref01_Size.calls (k : Nat) (a0 : Int) (r : Int) (w : World) (h : colophonref01_Size.f k a0 = some r) :
    Calls Try.prog 83 #[.int .i32 a0] w fun e w' => e = .returned (.int .i64 r) ∧ Drawn0 w w' := by
  have H : (if (wrap64 (a0)) < 0 then (colophonref01_Size.j0 k (wrap64 (a0)) true) else (if (wrap64 (a0)) > 1114111 then (colophonref01_Size.j0 k (wrap64 (a0)) true) else (if (wrap64 (a0)) ≥ 55296 then (colophonref01_Size.j0 k (wrap64 (a0)) (decide ((wrap64 (a0)) ≤ 57343))) else (colophonref01_Size.j0 k (wrap64 (a0)) false)))) = some r := h
  clear h
  have HC2 := Aside0.mk H
  clear H
  go_enter Try.func83, Try.ntmps83
  go_upto_region 2 with (fail)
  go_cut [19] (fun v19 wc => ∃ (kq : Nat) (x19_1 : Bool), v19 = .bool x19_1 ∧ Aside0 (colophonref01_Size.j0 kq (wrap64 (a0)) x19_1 = some r) ∧ Aside0 (kq ≤ k) ∧ Drawn0 w wc)
  case first =>
    have H := HC2.out
    clear HC2
    by_cases c3 : (wrap64 (a0)) < 0
    · rw [if_pos c3] at H
      have c3b0 : decide ((wrap64 (a0)) < 0) = true := decide_eq_true c3
      clear c3
      (first | rw [c3b0] | (simp only [i64_w, i32_w]; rw [c3b0]) | skip)
      have H' := Aside0.mk H
      clear H
      go_wp2
      go_meet
      case rel => exact ⟨_, (true), (by first | rfl | (simp; done) | (simp [*]; done)), H', ⟨by first | omega | exact Nat.le_refl _⟩, by repeat (first | exact Drawn0.refl _ | apply Drawn0.step)⟩
    · rw [if_neg c3] at H
      have c3b0 : decide ((wrap64 (a0)) < 0) = false := decide_eq_false c3
      clear c3
      (first | rw [c3b0] | (simp only [i64_w, i32_w]; rw [c3b0]) | skip)
      by_cases c4 : (wrap64 (a0)) > 1114111
      · rw [if_pos c4] at H
        have c4b0 : decide (1114111 < (wrap64 (a0))) = true := decide_eq_true c4
        clear c4
        have H' := Aside0.mk H
        clear H
        go_wp2
        go_meet
        case rel => exact ⟨_, (true), (by first | rfl | (simp; done) | (simp [*]; done)), H', ⟨by first | omega | exact Nat.le_refl _⟩, by repeat (first | exact Drawn0.refl _ | apply Drawn0.step)⟩
      · rw [if_neg c4] at H
        have c4b0 : decide (1114111 < (wrap64 (a0))) = false := decide_eq_false c4
        clear c4
        by_cases c5 : (wrap64 (a0)) ≥ 55296
        · rw [if_pos c5] at H
          have c5b0 : decide (55296 ≤ (wrap64 (a0))) = true := decide_eq_true c5
          clear c5
          have H' := Aside0.mk H
          clear H
          go_wp2
          go_meet
          case rel => exact ⟨_, (decide ((wrap64 (a0)) ≤ 57343)), (by first | rfl | (simp; done) | (simp [*]; done)), H', ⟨by first | omega | exact Nat.le_refl _⟩, by repeat (first | exact Drawn0.refl _ | apply Drawn0.step)⟩
        · rw [if_neg c5] at H
          have c5b0 : decide (55296 ≤ (wrap64 (a0))) = false := decide_eq_false c5
          clear c5
          have H' := Aside0.mk H
          clear H
          go_wp2
          go_meet
          case rel => exact ⟨_, (false), (by first | rfl | (simp; done) | (simp [*]; done)), H', ⟨by first | omega | exact Nat.le_refl _⟩, by repeat (first | exact Drawn0.refl _ | apply Drawn0.step)⟩
  case rest =>
    clear HC2
    try clear p2
    try clear c3
    try clear c3b0
    try clear c4
    try clear c4b0
    try clear c5
    try clear c5b0
    obtain ⟨kq, x19_1, rfl, HA, HJ1, ⟨mc1, rfl⟩⟩ := hcut
    cases kq with
    | zero => exact absurd HA.out (by simp [colophonref01_Size.j0])
    | succ kj1 =>
      have H := HA.out
      clear HA
      simp only [colophonref01_Size.j0] at H
      by_cases c6 : x19_1 = true
      · subst c6
        have H1 : (some 0) = some r := by rw [if_pos rfl] at H; exact H
        clear H
        have H := H1
        clear H1
        obtain rfl := Option.some.inj H
        go_wp2
        go_ret
        exact ⟨by first | rfl | (simp; done) | (simp [*]; done), by repeat (first | exact Drawn0.refl _ | apply Drawn0.step)⟩
      · replace c6 := Bool.eq_false_iff.mpr c6
        subst c6
        have H1 : (if (wrap64 (a0)) < 128 then (some 1) else (if (wrap64 (a0)) < 2048 then (some 2) else (if (wrap64 (a0)) < 65536 then (some 3) else (some 4)))) = some r := by rw [if_neg (show ¬ (false = true) by decide)] at H; exact H
        clear H
        have H := H1
        clear H1
        by_cases c7 : (wrap64 (a0)) < 128
        · rw [if_pos c7] at H
          have c7b0 : decide ((wrap64 (a0)) < 128) = true := decide_eq_true c7
          clear c7
          obtain rfl := Option.some.inj H
          go_wp2
          go_ret
          exact ⟨by first | rfl | (simp; done) | (simp [*]; done), by repeat (first | exact Drawn0.refl _ | apply Drawn0.step)⟩
        · rw [if_neg c7] at H
          have c7b0 : decide ((wrap64 (a0)) < 128) = false := decide_eq_false c7
          clear c7
          by_cases c8 : (wrap64 (a0)) < 2048
          · rw [if_pos c8] at H
            have c8b0 : decide ((wrap64 (a0)) < 2048) = true := decide_eq_true c8
            clear c8
            obtain rfl := Option.some.inj H
            go_wp2
            go_ret
            exact ⟨by first | rfl | (simp; done) | (simp [*]; done), by repeat (first | exact Drawn0.refl _ | apply Drawn0.step)⟩
          · rw [if_neg c8] at H
            have c8b0 : decide ((wrap64 (a0)) < 2048) = false := decide_eq_false c8
            clear c8
            by_cases c9 : (wrap64 (a0)) < 65536
            · rw [if_pos c9] at H
              have c9b0 : decide ((wrap64 (a0)) < 65536) = true := decide_eq_true c9
              clear c9
              obtain rfl := Option.some.inj H
              go_wp2
              go_ret
              exact ⟨by first | rfl | (simp; done) | (simp [*]; done), by repeat (first | exact Drawn0.refl _ | apply Drawn0.step)⟩
            · rw [if_neg c9] at H
              have c9b0 : decide ((wrap64 (a0)) < 65536) = false := decide_eq_false c9
              clear c9
              obtain rfl := Option.some.inj H
              go_wp2
              go_ret
              exact ⟨by first | rfl | (simp; done) | (simp [*]; done), by repeat (first | exact Drawn0.refl _ | apply Drawn0.step)⟩

end Go.Proofs.Ytenjldfflkinkaa.F

namespace Go.Proofs.Ytenjldfflkinkaa.F
open Go.RowKit Go.Proofs.YtenjldfflkinkaaW.PrintWords Go.Proofs.YtenjldfflkinkaaW.PrintLast Go.Proofs.YtenjldfflkinkaaW.PrintMore
attribute [local go_sem] max2_int min2_int max_two min_two max_three min_three max_four min_four   -- for this text's walks alone
set_option linter.unusedVariables false
set_option linter.unusedSimpArgs false

-- GIVEN: function 84 (colophonref03_ranges)

/-! ### colophonref03_Class: function 75 -/
def colophonref03_Class.l0 : Nat → Int → List (S133) → Int → Option (Int)
  | 0, _, _, _ => none
  | k + 1, x0, x3, x4 => if x4 < (x3.length : Int) then (if 0 ≤ x4 then (if (wrap64 (x0)) ≥ ((rd_T133 x3 x4).f0) then (if (wrap64 (x0)) ≤ ((rd_T133 x3 x4).f1) then (some ((rd_T133 x3 x4).f2)) else (colophonref03_Class.l0 k x0 x3 (wrap64 (x4 + 1)))) else (colophonref03_Class.l0 k x0 x3 (wrap64 (x4 + 1)))) else (none)) else (some 1)
def colophonref03_Class.f (k : Nat) (a0 : Int) : Option (Int) := (colophonref01_Size.f k a0).bind fun t101 => (if t101 = 0 then (some 0) else ((colophonref03_ranges.f).bind fun t102 => (colophonref03_Class.l0 k a0 t102 0)))
theorem colophonref03_Class.mono_l : ∀ k, (∀ y0 y1 y2, LeO (colophonref03_Class.l0 k y0 y1 y2) (colophonref03_Class.l0 (k + 1) y0 y1 y2))
  | 0 => fun _ _ _ r h => by simp [colophonref03_Class.l0] at h
  | k + 1 => by
    have ih0 := colophonref03_Class.mono_l k
    · intro y0 y1 y2
      unfold colophonref03_Class.l0
      repeat' first
      | (with_reducible exact ih0 _ _ _)
      | (with_reducible exact colophonref01_Size.mono _ _)
      | (with_reducible exact LeO.refl _)
      | (with_reducible exact LeO.none _)
      | (with_reducible refine LeO.ite ?_ ?_)
      | (with_reducible refine LeO.bind ?_ (fun _ => ?_))
      | exact ih0 _ _ _
      | exact colophonref01_Size.mono _ _
      | exact LeO.none _
      | refine LeO.ite ?_ ?_
      | refine LeO.bind ?_ (fun _ => ?_)
theorem colophonref03_Class.mono : ∀ a0 k, LeO (colophonref03_Class.f k a0) (colophonref03_Class.f (k + 1) a0) := by
  intro a0 k
  have ih0 := colophonref03_Class.mono_l k
  unfold colophonref03_Class.f
  repeat' first
      | (with_reducible exact ih0 _ _ _)
      | (with_reducible exact colophonref01_Size.mono _ _)
      | (with_reducible exact LeO.refl _)
      | (with_reducible exact LeO.none _)
      | (with_reducible refine LeO.ite ?_ ?_)
      | (with_reducible refine LeO.bind ?_ (fun _ => ?_))
      | exact ih0 _ _ _
      | exact colophonref01_Size.mono _ _
      | exact LeO.none _
      | refine LeO.ite ?_ ?_
      | refine LeO.bind ?_ (fun _ => ?_)
set_option maxHeartbeats 8000000 in
set_option maxRecDepth 100000 in
theorem colophonref03_Class.calls (k : Nat) (a0 : Int) (r : Int) (w : World) (h : colophonref03_Class.f k a0 = some r) :
    Calls Try.prog 75 #[.int .i32 a0] w fun e w' => e = .returned (.int .i64 r) ∧ Below w.heap.size w w' := by
  have HB := Aside0.mk (Below.refl w.heap.size w)
  have H : ((colophonref01_Size.f k a0).bind fun t101 => (if t101 = 0 then (some 0) else ((colophonref03_ranges.f).bind fun t102 => (colophonref03_Class.l0 k a0 t102 0)))) = some r := h
  clear h
  replace H := Option.bind_eq_some_iff.mp H
  obtain ⟨t101, A20, H⟩ := H
  replace H : (if t101 = 0 then (some 0) else ((colophonref03_ranges.f).bind fun t102 => (colophonref03_Class.l0 k a0 t102 0))) = some r := H
  have A2 := Aside0.mk A20
  clear A20
  by_cases c3 : t101 = 0
  · rw [if_pos c3] at H
    have c3b0 : (t101 == 0) = true := beq_iff_eq.mpr c3
    have c3b1 : (t101 != 0) = false := bne_eq_false_iff_eq.mpr c3
    clear c3
    obtain rfl := Option.some.inj H
    go_enter Try.func75, Try.ntmps75
    go_wp2_with (first | ((with_reducible refine gate_callee (f := 83) rfl ?_); refine goesL_ (some 6) rfl rfl Try.func83 (by kernel_rfl) rfl #[.int .i32 a0] rfl (by (try simp only [List.map_toArray, List.map_cons, List.map_nil]); first | done | rfl | (simp only [List.length_drop, List.length_take]; rfl)) ?_; (with_reducible refine (colophonref01_Size.calls k a0 t101 _ A2.out).mono ?_); rintro e w' ⟨rfl, ⟨nd, rfl⟩⟩; refine ⟨_, rfl, ?_⟩))
    go_ret
    exact ⟨by first | rfl | (simp [errW_none, errW_some] <;> rfl) | (simp [*, errW_none, errW_some] <;> rfl), by repeat (first | (with_reducible first | exact HB.out | apply below_alloc | apply pw_below_drewN | apply below_drew1) | exact HB.out)⟩
  · rw [if_neg c3] at H
    have c3b0 : (t101 == 0) = false := beq_eq_false_iff_ne.mpr c3
    have c3b1 : (t101 != 0) = true := bne_iff_ne.mpr c3
    replace H := Option.bind_eq_some_iff.mp H
    obtain ⟨t102, A40, H⟩ := H
    replace H : (colophonref03_Class.l0 k a0 t102 0) = some r := H
    have A4 := Aside0.mk A40
    clear A40
    have H' := Aside0.mk H
    clear H
    go_enter Try.func75, Try.ntmps75
    go_wp2_with (first | ((with_reducible refine gate_callee (f := 83) rfl ?_); refine goesL_ (some 6) rfl rfl Try.func83 (by kernel_rfl) rfl #[.int .i32 a0] rfl (by (try simp only [List.map_toArray, List.map_cons, List.map_nil]); first | done | rfl | (simp only [List.length_drop, List.length_take]; rfl)) ?_; (with_reducible refine (colophonref01_Size.calls k a0 t101 _ A2.out).mono ?_); rintro e w' ⟨rfl, ⟨nd, rfl⟩⟩; refine ⟨_, rfl, ?_⟩) | ((with_reducible refine gate_callee (f := 84) rfl ?_); refine goesL_ (some 8) rfl rfl Try.func84 (by kernel_rfl) rfl #[] rfl (by (try simp only [List.map_toArray, List.map_cons, List.map_nil]); first | done | rfl | (simp only [List.length_drop, List.length_take]; rfl)) ?_; (with_reducible refine (colophonref03_ranges.calls  t102 _ A4.out).mono ?_); rintro e w5 ⟨v103, rfl, ho0, hb⟩; refine ⟨_, rfl, ?_⟩; have n0_ := Aside0.mk (Kd.R_lower ho0 (below_size (by repeat (first | (with_reducible first | exact HB.out | apply below_alloc | apply pw_below_drewN | apply below_drew1) | exact HB.out)))); have n1_ := Aside0.mk (below_step (by repeat (first | (with_reducible first | exact HB.out | apply below_alloc | apply pw_below_drewN | apply below_drew1) | exact HB.out)) hb); clear HB; have HO104 := n0_; have HB := n1_; clear n0_ n1_; (try clear hb); (try clear hb2); (try clear hk); (try clear hi); (try clear ho0)))
    go_loopg [4] k (fun kq v4 w' => ∃ (x4_1 : Int), v4 = .int .i64 x4_1 ∧ Aside0 (colophonref03_Class.l0 kq a0 t102 x4_1 = some r) ∧ Aside0 (kq ≤ k) ∧ Aside0 (Kd.R k133 133 w' w.heap.size (fun _ => True) v103 t102) ∧ Aside0 (Below w.heap.size w w'))
    case atStart => exact ⟨(0), (by first | rfl | (simp; done) | (simp [*]; done)), H', ⟨Nat.le_refl _⟩, ⟨by (with_reducible repeat (first | apply Kd.R_alloc | apply Kd.R_drewN | apply Kd.R_drew)); exact HO104.out⟩, ⟨by repeat (first | (with_reducible first | exact HB.out | apply below_alloc | apply pw_below_drewN | apply below_drew1) | exact HB.out)⟩⟩
    case round =>
      clear H'
      try clear p2
      try clear c3
      try clear c3b0
      try clear c3b1
      obtain ⟨x4_1, rfl, HA, HK1, HO_3, HB⟩ := hrel
      cases gk with
      | zero => exact absurd HA.out (by simp [colophonref03_Class.l0])
      | succ k1 =>
        have H := HA.out
        clear HA
        simp only [colophonref03_Class.l0] at H
        by_cases c6 : x4_1 < (t102.length : Int)
        · rw [if_pos c6] at H
          have c6b0 : decide (x4_1 < (t102.length : Int)) = true := decide_eq_true c6
          clear c6
          by_cases c7 : 0 ≤ x4_1
          · rw [if_pos c7] at H
            have c7b0 : decide (0 ≤ x4_1) = true := decide_eq_true c7
            clear c7
            by_cases c8 : (wrap64 (a0)) ≥ ((rd_T133 t102 x4_1).f0)
            · rw [if_pos c8] at H
              have c8b0 : decide (((rd_T133 t102 x4_1).f0) ≤ (wrap64 (a0))) = true := decide_eq_true c8
              clear c8
              by_cases c9 : (wrap64 (a0)) ≤ ((rd_T133 t102 x4_1).f1)
              · rw [if_pos c9] at H
                have c9b0 : decide ((wrap64 (a0)) ≤ ((rd_T133 t102 x4_1).f1)) = true := decide_eq_true c9
                clear c9
                obtain rfl := Option.some.inj H
                obtain ⟨Ao10, co10, eo10⟩ := Kd.R_slice HO_3.out
                subst eo10
                have p105 : 0 ≤ (x4_1 : Int) := of_decide_eq_true (by first | (with_reducible assumption) | assumption)
                have q105 : x4_1 < (t102.length : Int) := of_decide_eq_true (by first | (with_reducible assumption) | assumption)
                obtain ⟨ad105, e105, hx105_0, hx105_1, hx105_2⟩ := at_T133 (Kd.R_reads' HO_3.out).2.2 x4_1 p105 q105
                cases e105
                replace p105 := eq_true p105
                replace q105 := eq_true q105
                have p106 : 0 ≤ (x4_1 : Int) := of_decide_eq_true (by first | (with_reducible assumption) | assumption)
                have q106 : x4_1 < (t102.length : Int) := of_decide_eq_true (by first | (with_reducible assumption) | assumption)
                obtain ⟨ad106, e106, hx106_0, hx106_1, hx106_2⟩ := at_T133 (Kd.R_reads' HO_3.out).2.2 x4_1 p106 q106
                obtain rfl : ad105 = ad106 := (by injection e106)
                replace p106 := eq_true p106
                replace q106 := eq_true q106
                have p107 : 0 ≤ (x4_1 : Int) := of_decide_eq_true (by first | (with_reducible assumption) | assumption)
                have q107 : x4_1 < (t102.length : Int) := of_decide_eq_true (by first | (with_reducible assumption) | assumption)
                obtain ⟨ad107, e107, hx107_0, hx107_1, hx107_2⟩ := at_T133 (Kd.R_reads' HO_3.out).2.2 x4_1 p107 q107
                obtain rfl : ad105 = ad107 := (by injection e107)
                replace p107 := eq_true p107
                replace q107 := eq_true q107
                go_wp2
                go_ret
                exact ⟨by first | rfl | (simp [errW_none, errW_some] <;> rfl) | (simp [*, errW_none, errW_some] <;> rfl), by repeat (first | (with_reducible first | exact HB.out | apply below_alloc | apply pw_below_drewN | apply below_drew1) | exact HB.out)⟩
              · rw [if_neg c9] at H
                have c9b0 : decide ((wrap64 (a0)) ≤ ((rd_T133 t102 x4_1).f1)) = false := decide_eq_false c9
                clear c9
                have H' := Aside0.mk H
                clear H
                obtain ⟨Ao11, co11, eo11⟩ := Kd.R_slice HO_3.out
                subst eo11
                have p105 : 0 ≤ (x4_1 : Int) := of_decide_eq_true (by first | (with_reducible assumption) | assumption)
                have q105 : x4_1 < (t102.length : Int) := of_decide_eq_true (by first | (with_reducible assumption) | assumption)
                obtain ⟨ad105, e105, hx105_0, hx105_1, hx105_2⟩ := at_T133 (Kd.R_reads' HO_3.out).2.2 x4_1 p105 q105
                cases e105
                replace p105 := eq_true p105
                replace q105 := eq_true q105
                have p106 : 0 ≤ (x4_1 : Int) := of_decide_eq_true (by first | (with_reducible assumption) | assumption)
                have q106 : x4_1 < (t102.length : Int) := of_decide_eq_true (by first | (with_reducible assumption) | assumption)
                obtain ⟨ad106, e106, hx106_0, hx106_1, hx106_2⟩ := at_T133 (Kd.R_reads' HO_3.out).2.2 x4_1 p106 q106
                obtain rfl : ad105 = ad106 := (by injection e106)
                replace p106 := eq_true p106
                replace q106 := eq_true q106
                go_wp2
                go_roundg k1
                case measure => have := HK1.out; omega
                case rel => exact ⟨(wrap64 (x4_1 + 1)), (by first | rfl | (simp; done) | (simp [*]; done)), H', ⟨by have := HK1.out; omega⟩, ⟨by (with_reducible repeat (first | apply Kd.R_alloc | apply Kd.R_drewN | apply Kd.R_drew)); exact HO_3.out⟩, ⟨by repeat (first | (with_reducible first | exact HB.out | apply below_alloc | apply pw_below_drewN | apply below_drew1) | exact HB.out)⟩⟩
            · rw [if_neg c8] at H
              have c8b0 : decide (((rd_T133 t102 x4_1).f0) ≤ (wrap64 (a0))) = false := decide_eq_false c8
              clear c8
              have H' := Aside0.mk H
              clear H
              obtain ⟨Ao12, co12, eo12⟩ := Kd.R_slice HO_3.out
              subst eo12
              have p105 : 0 ≤ (x4_1 : Int) := of_decide_eq_true (by first | (with_reducible assumption) | assumption)
              have q105 : x4_1 < (t102.length : Int) := of_decide_eq_true (by first | (with_reducible assumption) | assumption)
              obtain ⟨ad105, e105, hx105_0, hx105_1, hx105_2⟩ := at_T133 (Kd.R_reads' HO_3.out).2.2 x4_1 p105 q105
              cases e105
              replace p105 := eq_true p105
              replace q105 := eq_true q105
              go_wp2
              go_roundg k1
              case measure => have := HK1.out; omega
              case rel => exact ⟨(wrap64 (x4_1 + 1)), (by first | rfl | (simp; done) | (simp [*]; done)), H', ⟨by have := HK1.out; omega⟩, ⟨by (with_reducible repeat (first | apply Kd.R_alloc | apply Kd.R_drewN | apply Kd.R_drew)); exact HO_3.out⟩, ⟨by repeat (first | (with_reducible first | exact HB.out | apply below_alloc | apply pw_below_drewN | apply below_drew1) | exact HB.out)⟩⟩
          · rw [if_neg c7] at H
            exact absurd H (by simp)
        · rw [if_neg c6] at H
          have c6b0 : decide (x4_1 < (t102.length : Int)) = false := decide_eq_false c6
          clear c6
          obtain rfl := Option.some.inj H
          obtain ⟨Ao13, co13, eo13⟩ := Kd.R_slice HO_3.out
          subst eo13
          go_wp2
          go_ret
          exact ⟨by first | rfl | (simp [errW_none, errW_some] <;> rfl) | (simp [*, errW_none, errW_some] <;> rfl), by repeat (first | (with_reducible first | exact HB.out | apply below_alloc | apply pw_below_drewN | apply below_drew1) | exact HB.out)⟩

/-! ### colophonref04_Break: function 66 -/
def colophonref04_Break.f (k : Nat) (a0 : Int) : Option (Bool) := (colophonref03_Class.f k a0).bind fun t108 => (some (t108 == 11))
theorem colophonref04_Break.mono : ∀ a0 k, LeO (colophonref04_Break.f k a0) (colophonref04_Break.f (k + 1) a0) := by
  intro a0 k
  unfold colophonref04_Break.f
  repeat' first
      | (with_reducible exact colophonref03_Class.mono _ _)
      | (with_reducible exact LeO.refl _)
      | (with_reducible exact LeO.none _)
      | (with_reducible refine LeO.ite ?_ ?_)
      | (with_reducible refine LeO.bind ?_ (fun _ => ?_))
      | exact colophonref03_Class.mono _ _
      | exact LeO.none _
      | refine LeO.ite ?_ ?_
      | refine LeO.bind ?_ (fun _ => ?_)
set_option maxHeartbeats 8000000 in
set_option maxRecDepth 100000 in
theorem colophonref04_Break.calls (k : Nat) (a0 : Int) (r : Bool) (w : World) (h : colophonref04_Break.f k a0 = some r) :
    Calls Try.prog 66 #[.int .i32 a0] w fun e w' => e = .returned (.bool r) ∧ Below w.heap.size w w' := by
  have HB := Aside0.mk (Below.refl w.heap.size w)
  have H : ((colophonref03_Class.f k a0).bind fun t108 => (some (t108 == 11))) = some r := h
  clear h
  replace H := Option.bind_eq_some_iff.mp H
  obtain ⟨t108, A20, H⟩ := H
  replace H : (some (t108 == 11)) = some r := H
  have A2 := Aside0.mk A20
  clear A20
  obtain rfl := Option.some.inj H
  go_enter Try.func66, Try.ntmps66
  go_wp2_with (first | ((with_reducible refine gate_callee (f := 75) rfl ?_); refine goesL_ (some 4) rfl rfl Try.func75 (by kernel_rfl) rfl #[.int .i32 a0] rfl (by (try simp only [List.map_toArray, List.map_cons, List.map_nil]); first | done | rfl | (simp only [List.length_drop, List.length_take]; rfl)) ?_; (with_reducible refine (colophonref03_Class.calls k a0 t108 _ A2.out).mono ?_); rintro e w3 ⟨rfl, hb⟩; refine ⟨_, rfl, ?_⟩; have n0_ := Aside0.mk (below_step (by repeat (first | (with_reducible first | exact HB.out | apply below_alloc | apply pw_below_drewN | apply below_drew1) | exact HB.out)) hb); clear HB; have HB := n0_; clear n0_; (try clear hb); (try clear hb2); (try clear hk); (try clear hi)))
  go_ret
  exact ⟨by first | rfl | (simp [errW_none, errW_some] <;> rfl) | (simp [*, errW_none, errW_some] <;> rfl), by repeat (first | (with_reducible first | exact HB.out | apply below_alloc | apply pw_below_drewN | apply below_drew1) | exact HB.out)⟩

/-! ### colophonref04_Breaks: function 54 -/
def colophonref04_Breaks.l0 : Nat → List Int → Int → Int → Option (Int)
  | 0, _, _, _ => none
  | k + 1, x0, x3, x4 => if x4 < (x0.length : Int) then (if 0 ≤ x4 then ((colophonref04_Break.f k (rd x0 x4)).bind fun t110 => (if t110 = true then (colophonref04_Breaks.l0 k x0 (wrap64 (x3 + 1)) (wrap64 (x4 + 1))) else (colophonref04_Breaks.l0 k x0 x3 (wrap64 (x4 + 1))))) else (none)) else (some x3)
def colophonref04_Breaks.f (k : Nat) (l0 : List Int) : Option (Int) := colophonref04_Breaks.l0 k l0 0 0
theorem colophonref04_Breaks.mono_l : ∀ k, (∀ y0 y1 y2, LeO (colophonref04_Breaks.l0 k y0 y1 y2) (colophonref04_Breaks.l0 (k + 1) y0 y1 y2))
  | 0 => fun _ _ _ r h => by simp [colophonref04_Breaks.l0] at h
  | k + 1 => by
    have ih0 := colophonref04_Breaks.mono_l k
    · intro y0 y1 y2
      unfold colophonref04_Breaks.l0
      repeat' first
      | (with_reducible exact ih0 _ _ _)
      | (with_reducible exact colophonref04_Break.mono _ _)
      | (with_reducible exact LeO.refl _)
      | (with_reducible exact LeO.none _)
      | (with_reducible refine LeO.ite ?_ ?_)
      | (with_reducible refine LeO.bind ?_ (fun _ => ?_))
      | exact ih0 _ _ _
      | exact colophonref04_Break.mono _ _
      | exact LeO.none _
      | refine LeO.ite ?_ ?_
      | refine LeO.bind ?_ (fun _ => ?_)
theorem colophonref04_Breaks.mono : ∀ a0 k, LeO (colophonref04_Breaks.f k a0) (colophonref04_Breaks.f (k + 1) a0) := by
  intro a0 k
  have ih0 := colophonref04_Breaks.mono_l k
  unfold colophonref04_Breaks.f
  repeat' first
      | (with_reducible exact ih0 _ _ _)
      | (with_reducible exact colophonref04_Break.mono _ _)
      | (with_reducible exact LeO.refl _)
      | (with_reducible exact LeO.none _)
      | (with_reducible refine LeO.ite ?_ ?_)
      | (with_reducible refine LeO.bind ?_ (fun _ => ?_))
      | exact ih0 _ _ _
      | exact colophonref04_Break.mono _ _
      | exact LeO.none _
      | refine LeO.ite ?_ ?_
      | refine LeO.bind ?_ (fun _ => ?_)
set_option maxHeartbeats 8000000 in
set_option maxRecDepth 100000 in
theorem colophonref04_Breaks.calls (k : Nat) (A0 : Option Addr) (c0 : Nat) (l0 : List Int) (r : Int) (w : World) (hr0 : Kd.C (Kd.int .i32) w A0 l0.length l0) (hc0 : l0.length ≤ c0) (h : colophonref04_Breaks.f k l0 = some r) :
    Calls Try.prog 54 #[.slice A0 l0.length c0] w fun e w' => e = .returned (.int .i64 r) ∧ Below w.heap.size w w' := by
  have HR0 := Aside0.mk hr0
  have HC0 := Aside0.mk hc0
  clear hr0 hc0
  have HB := Aside0.mk (Below.refl w.heap.size w)
  have H : (colophonref04_Breaks.l0 k l0 0 0) = some r := h
  clear h
  have H' := Aside0.mk H
  clear H
  go_enter Try.func54, Try.ntmps54
  go_wp2
  go_loopg [3, 4] k (fun kq v3 v4 w' => ∃ (x3_1 : Int) (x4_1 : Int), v3 = .int .i64 x3_1 ∧ v4 = .int .i64 x4_1 ∧ Aside0 (colophonref04_Breaks.l0 kq l0 x3_1 x4_1 = some r) ∧ Aside0 (kq ≤ k) ∧ Aside0 (Below w.heap.size w w'))
  case atStart => exact ⟨(0), (0), (by first | rfl | (simp; done) | (simp [*]; done)), (by first | rfl | (simp; done) | (simp [*]; done)), H', ⟨Nat.le_refl _⟩, ⟨by repeat (first | (with_reducible first | exact HB.out | apply below_alloc | apply pw_below_drewN | apply below_drew1) | exact HB.out)⟩⟩
  case round =>
    clear H'
    obtain ⟨x3_1, x4_1, rfl, rfl, HA, HK1, HB⟩ := hrel
    cases gk with
    | zero => exact absurd HA.out (by simp [colophonref04_Breaks.l0])
    | succ k1 =>
      have H := HA.out
      clear HA
      simp only [colophonref04_Breaks.l0] at H
      by_cases c2 : x4_1 < (l0.length : Int)
      · rw [if_pos c2] at H
        have c2b0 : decide (x4_1 < (l0.length : Int)) = true := decide_eq_true c2
        clear c2
        by_cases c3 : 0 ≤ x4_1
        · rw [if_pos c3] at H
          have c3b0 : decide (0 ≤ x4_1) = true := decide_eq_true c3
          clear c3
          replace H := Option.bind_eq_some_iff.mp H
          obtain ⟨t110, A40, H⟩ := H
          replace H : (if t110 = true then (colophonref04_Breaks.l0 k1 l0 (wrap64 (x3_1 + 1)) (wrap64 (x4_1 + 1))) else (colophonref04_Breaks.l0 k1 l0 x3_1 (wrap64 (x4_1 + 1)))) = some r := H
          have A4 := Aside0.mk A40
          clear A40
          by_cases c5 : t110 = true
          · subst c5
            have H1 : (colophonref04_Breaks.l0 k1 l0 (wrap64 (x3_1 + 1)) (wrap64 (x4_1 + 1))) = some r := by rw [if_pos rfl] at H; exact H
            clear H
            have H := H1
            clear H1
            have H' := Aside0.mk H
            clear H
            have p109 : 0 ≤ (x4_1 : Int) := of_decide_eq_true (by first | (with_reducible assumption) | assumption)
            have q109 : x4_1 < (l0.length : Int) := of_decide_eq_true (by first | (with_reducible assumption) | assumption)
            obtain ⟨ad109, e109, hx109_0⟩ := Kd.at_int HR0.out x4_1 p109 q109
            cases e109
            replace hx109_0 := (HB.out.cell (World.block_lt_of_cell? w _ hx109_0)).trans hx109_0
            replace p109 := eq_true p109
            replace q109 := eq_true q109
            go_wp2_with (first | ((with_reducible refine gate_callee (f := 66) rfl ?_); refine goesL_ (some 15) rfl rfl Try.func66 (by kernel_rfl) rfl #[.int .i32 (rd l0 x4_1)] rfl (by (try simp only [List.map_toArray, List.map_cons, List.map_nil]); first | done | rfl | (simp only [List.length_drop, List.length_take]; rfl)) ?_; (with_reducible refine (colophonref04_Break.calls k1 (rd l0 x4_1) true _ A4.out).mono ?_); rintro e w6 ⟨rfl, hb⟩; refine ⟨_, rfl, ?_⟩; have n0_ := Aside0.mk (below_step (by repeat (first | (with_reducible first | exact HB.out | apply below_alloc | apply pw_below_drewN | apply below_drew1) | exact HB.out)) hb); clear HB; have HB := n0_; clear n0_; (try clear hb); (try clear hb2); (try clear hk); (try clear hi)))
            go_roundg k1
            case measure => have := HK1.out; omega
            case rel => exact ⟨(wrap64 (x3_1 + 1)), (wrap64 (x4_1 + 1)), (by first | rfl | (simp; done) | (simp [*]; done)), (by first | rfl | (simp; done) | (simp [*]; done)), H', ⟨by have := HK1.out; omega⟩, ⟨by repeat (first | (with_reducible first | exact HB.out | apply below_alloc | apply pw_below_drewN | apply below_drew1) | exact HB.out)⟩⟩
          · replace c5 := Bool.eq_false_iff.mpr c5
            subst c5
            have H1 : (colophonref04_Breaks.l0 k1 l0 x3_1 (wrap64 (x4_1 + 1))) = some r := by rw [if_neg (show ¬ (false = true) by decide)] at H; exact H
            clear H
            have H := H1
            clear H1
            have H' := Aside0.mk H
            clear H
            have p109 : 0 ≤ (x4_1 : Int) := of_decide_eq_true (by first | (with_reducible assumption) | assumption)
            have q109 : x4_1 < (l0.length : Int) := of_decide_eq_true (by first | (with_reducible assumption) | assumption)
            obtain ⟨ad109, e109, hx109_0⟩ := Kd.at_int HR0.out x4_1 p109 q109
            cases e109
            replace hx109_0 := (HB.out.cell (World.block_lt_of_cell? w _ hx109_0)).trans hx109_0
            replace p109 := eq_true p109
            replace q109 := eq_true q109
            go_wp2_with (first | ((with_reducible refine gate_callee (f := 66) rfl ?_); refine goesL_ (some 15) rfl rfl Try.func66 (by kernel_rfl) rfl #[.int .i32 (rd l0 x4_1)] rfl (by (try simp only [List.map_toArray, List.map_cons, List.map_nil]); first | done | rfl | (simp only [List.length_drop, List.length_take]; rfl)) ?_; (with_reducible refine (colophonref04_Break.calls k1 (rd l0 x4_1) false _ A4.out).mono ?_); rintro e w7 ⟨rfl, hb⟩; refine ⟨_, rfl, ?_⟩; have n0_ := Aside0.mk (below_step (by repeat (first | (with_reducible first | exact HB.out | apply below_alloc | apply pw_below_drewN | apply below_drew1) | exact HB.out)) hb); clear HB; have HB := n0_; clear n0_; (try clear hb); (try clear hb2); (try clear hk); (try clear hi)))
            go_roundg k1
            case measure => have := HK1.out; omega
            case rel => exact ⟨(x3_1), (wrap64 (x4_1 + 1)), (by first | rfl | (simp; done) | (simp [*]; done)), (by first | rfl | (simp; done) | (simp [*]; done)), H', ⟨by have := HK1.out; omega⟩, ⟨by repeat (first | (with_reducible first | exact HB.out | apply below_alloc | apply pw_below_drewN | apply below_drew1) | exact HB.out)⟩⟩
        · rw [if_neg c3] at H
          exact absurd H (by simp)
      · rw [if_neg c2] at H
        have c2b0 : decide (x4_1 < (l0.length : Int)) = false := decide_eq_false c2
        clear c2
        obtain rfl := Option.some.inj H
        go_wp2
        go_ret
        exact ⟨by first | rfl | (simp [errW_none, errW_some] <;> rfl) | (simp [*, errW_none, errW_some] <;> rfl), by repeat (first | (with_reducible first | exact HB.out | apply below_alloc | apply pw_below_drewN | apply below_drew1) | exact HB.out)⟩

-- NOT PRINTED: function 29 (colophonlaw04_tells)

-- NOT PRINTED: function 41 (rope_Rope_span)

-- NOT PRINTED: function 73 (rope_even)

-- NOT PRINTED: function 64 (rope_join)

-- NOT PRINTED: function 42 (rope_cut)

-- NOT PRINTED: function 16 (rope_Rope_Slice)

/-! ### colophonref01_Same: function 18 -/
def colophonref01_Same.l0 : Nat → List Int → List Int → Int → Option (Bool)
  | 0, _, _, _ => none
  | k + 1, x0, x1, x5 => if x5 < (x0.length : Int) then (if 0 ≤ x5 then (if x5 < (x1.length : Int) then (if (rd x0 x5) = (rd x1 x5) then (colophonref01_Same.l0 k x0 x1 (wrap64 (x5 + 1))) else (some false)) else (none)) else (none)) else (some true)
def colophonref01_Same.f (k : Nat) (l0 : List Int) (l1 : List Int) : Option (Bool) := if (l0.length : Int) = (l1.length : Int) then (colophonref01_Same.l0 k l0 l1 0) else (some false)
theorem colophonref01_Same.mono_l : ∀ k, (∀ y0 y1 y2, LeO (colophonref01_Same.l0 k y0 y1 y2) (colophonref01_Same.l0 (k + 1) y0 y1 y2))
  | 0 => fun _ _ _ r h => by simp [colophonref01_Same.l0] at h
  | k + 1 => by
    have ih0 := colophonref01_Same.mono_l k
    · intro y0 y1 y2
      unfold colophonref01_Same.l0
      repeat' first
      | (with_reducible exact ih0 _ _ _)
      | (with_reducible exact LeO.refl _)
      | (with_reducible exact LeO.none _)
      | (with_reducible refine LeO.ite ?_ ?_)
      | (with_reducible refine LeO.bind ?_ (fun _ => ?_))
      | exact ih0 _ _ _
      | exact LeO.none _
      | refine LeO.ite ?_ ?_
      | refine LeO.bind ?_ (fun _ => ?_)
theorem colophonref01_Same.mono : ∀ a0 a1 k, LeO (colophonref01_Same.f k a0 a1) (colophonref01_Same.f (k + 1) a0 a1) := by
  intro a0 a1 k
  have ih0 := colophonref01_Same.mono_l k
  unfold colophonref01_Same.f
  repeat' first
      | (with_reducible exact ih0 _ _ _)
      | (with_reducible exact LeO.refl _)
      | (with_reducible exact LeO.none _)
      | (with_reducible refine LeO.ite ?_ ?_)
      | (with_reducible refine LeO.bind ?_ (fun _ => ?_))
      | exact ih0 _ _ _
      | exact LeO.none _
      | refine LeO.ite ?_ ?_
      | refine LeO.bind ?_ (fun _ => ?_)
set_option maxHeartbeats 8000000 in
set_option maxRecDepth 100000 in
theorem colophonref01_Same.calls (k : Nat) (A0 : Option Addr) (c0 : Nat) (l0 : List Int) (A1 : Option Addr) (c1 : Nat) (l1 : List Int) (r : Bool) (w : World) (hr0 : Kd.C (Kd.int .i32) w A0 l0.length l0) (hc0 : l0.length ≤ c0) (hr1 : Kd.C (Kd.int .i32) w A1 l1.length l1) (hc1 : l1.length ≤ c1) (h : colophonref01_Same.f k l0 l1 = some r) :
    Calls Try.prog 18 #[.slice A0 l0.length c0, .slice A1 l1.length c1] w fun e w' => e = .returned (.bool r) ∧ Drawn0 w w' := by
  have HR0 := Aside0.mk hr0
  have HC0 := Aside0.mk hc0
  clear hr0 hc0
  have HR1 := Aside0.mk hr1
  have HC1 := Aside0.mk hc1
  clear hr1 hc1
  have H : (if (l0.length : Int) = (l1.length : Int) then (colophonref01_Same.l0 k l0 l1 0) else (some false)) = some r := h
  clear h
  by_cases c3 : (l0.length : Int) = (l1.length : Int)
  · rw [if_pos c3] at H
    have c3b0 : ((l0.length : Int) == (l1.length : Int)) = true := beq_iff_eq.mpr c3
    have c3b1 : ((l0.length : Int) != (l1.length : Int)) = false := bne_eq_false_iff_eq.mpr c3
    have c3b2 : (l0.length == l1.length) = true := by first | simpa using c3 | (simp at c3 ⊢; omega)
    clear c3
    have H' := Aside0.mk H
    clear H
    go_enter Try.func18, Try.ntmps18
    go_wp2
    repeat (go_quiet (fail); try go_wp2)
    go_loopg [5] k (fun kq v5 w' => ∃ (x5_1 : Int), v5 = .int .i64 x5_1 ∧ Aside0 (colophonref01_Same.l0 kq l0 l1 x5_1 = some r) ∧ Aside0 (kq ≤ k) ∧ Drawn0 w w')
    case atStart => exact ⟨(0), (by first | rfl | (simp; done) | (simp [*]; done)), H', ⟨Nat.le_refl _⟩, by repeat (first | exact Drawn0.refl _ | apply Drawn0.step)⟩
    case round =>
      clear H'
      try clear c1
      try clear p2
      try clear c3
      try clear c3b0
      try clear c3b1
      try clear c3b2
      obtain ⟨x5_1, rfl, HA, HK1, ⟨m1, rfl⟩⟩ := hrel
      cases gk with
      | zero => exact absurd HA.out (by simp [colophonref01_Same.l0])
      | succ k1 =>
        have H := HA.out
        clear HA
        simp only [colophonref01_Same.l0] at H
        by_cases c4 : x5_1 < (l0.length : Int)
        · rw [if_pos c4] at H
          have c4b0 : decide (x5_1 < (l0.length : Int)) = true := decide_eq_true c4
          clear c4
          by_cases c5 : 0 ≤ x5_1
          · rw [if_pos c5] at H
            have c5b0 : decide (0 ≤ x5_1) = true := decide_eq_true c5
            clear c5
            by_cases c6 : x5_1 < (l1.length : Int)
            · rw [if_pos c6] at H
              have c6b0 : decide (x5_1 < (l1.length : Int)) = true := decide_eq_true c6
              clear c6
              by_cases c7 : (rd l0 x5_1) = (rd l1 x5_1)
              · rw [if_pos c7] at H
                have c7b0 : ((rd l0 x5_1) == (rd l1 x5_1)) = true := beq_iff_eq.mpr c7
                have c7b1 : ((rd l0 x5_1) != (rd l1 x5_1)) = false := bne_eq_false_iff_eq.mpr c7
                clear c7
                have H' := Aside0.mk H
                clear H
                have p111 : 0 ≤ (x5_1 : Int) := of_decide_eq_true (by first | (with_reducible assumption) | assumption)
                have q111 : x5_1 < (l0.length : Int) := of_decide_eq_true (by first | (with_reducible assumption) | assumption)
                obtain ⟨ad111, e111, hx111_0⟩ := Kd.at_int HR0.out x5_1 p111 q111
                cases e111
                replace p111 := eq_true p111
                replace q111 := eq_true q111
                have p112 : 0 ≤ (x5_1 : Int) := of_decide_eq_true (by first | (with_reducible assumption) | assumption)
                have q112 : x5_1 < (l1.length : Int) := of_decide_eq_true (by first | (with_reducible assumption) | assumption)
                obtain ⟨ad112, e112, hx112_0⟩ := Kd.at_int HR1.out x5_1 p112 q112
                cases e112
                replace p112 := eq_true p112
                replace q112 := eq_true q112
                go_wp2
                repeat (go_quiet (fail); try go_wp2)
                go_roundg k1
                case measure => have := HK1.out; omega
                case rel => exact ⟨(wrap64 (x5_1 + 1)), (by first | rfl | (simp; done) | (simp [*]; done)), H', ⟨by have := HK1.out; omega⟩, by repeat (first | exact Drawn0.refl _ | apply Drawn0.step)⟩
              · rw [if_neg c7] at H
                have c7b0 : ((rd l0 x5_1) == (rd l1 x5_1)) = false := beq_eq_false_iff_ne.mpr c7
                have c7b1 : ((rd l0 x5_1) != (rd l1 x5_1)) = true := bne_iff_ne.mpr c7
                obtain rfl := Option.some.inj H
                have p111 : 0 ≤ (x5_1 : Int) := of_decide_eq_true (by first | (with_reducible assumption) | assumption)
                have q111 : x5_1 < (l0.length : Int) := of_decide_eq_true (by first | (with_reducible assumption) | assumption)
                obtain ⟨ad111, e111, hx111_0⟩ := Kd.at_int HR0.out x5_1 p111 q111
                cases e111
                replace p111 := eq_true p111
                replace q111 := eq_true q111
                have p112 : 0 ≤ (x5_1 : Int) := of_decide_eq_true (by first | (with_reducible assumption) | assumption)
                have q112 : x5_1 < (l1.length : Int) := of_decide_eq_true (by first | (with_reducible assumption) | assumption)
                obtain ⟨ad112, e112, hx112_0⟩ := Kd.at_int HR1.out x5_1 p112 q112
                cases e112
                replace p112 := eq_true p112
                replace q112 := eq_true q112
                go_wp2
                repeat (go_quiet (fail); try go_wp2)
                go_ret
                exact ⟨by first | rfl | (simp; done) | (simp [*]; done), by repeat (first | exact Drawn0.refl _ | apply Drawn0.step)⟩
            · rw [if_neg c6] at H
              exact absurd H (by simp)
          · rw [if_neg c5] at H
            exact absurd H (by simp)
        · rw [if_neg c4] at H
          have c4b0 : decide (x5_1 < (l0.length : Int)) = false := decide_eq_false c4
          clear c4
          obtain rfl := Option.some.inj H
          go_wp2
          repeat (go_quiet (fail); try go_wp2)
          go_ret
          exact ⟨by first | rfl | (simp; done) | (simp [*]; done), by repeat (first | exact Drawn0.refl _ | apply Drawn0.step)⟩
  · rw [if_neg c3] at H
    have c3b0 : ((l0.length : Int) == (l1.length : Int)) = false := beq_eq_false_iff_ne.mpr c3
    have c3b1 : ((l0.length : Int) != (l1.length : Int)) = true := bne_iff_ne.mpr c3
    have c3b2 : (l0.length == l1.length) = false := by first | simpa using c3 | (simp at c3 ⊢; omega)
    obtain rfl := Option.some.inj H
    go_enter Try.func18, Try.ntmps18
    go_wp2
    repeat (go_quiet (fail); try go_wp2)
    go_ret
    exact ⟨by first | rfl | (simp; done) | (simp [*]; done), by repeat (first | exact Drawn0.refl _ | apply Drawn0.step)⟩

-- NOT PRINTED: function 52 (rope_least)

-- NOT PRINTED: function 24 (rope_Rope_Para)

-- NOT PRINTED: function 58 (rope_Rope_find)

-- NOT PRINTED: function 32 (rope_Rope_At)

/-! ### colophonref04_Wrong: function 55 -/
def colophonref04_Wrong.f (l0 : List Int) (a1 : Int) (a2 : Int) : Option (Int) := if a1 < 0 then (some 4) else (if a2 > (l0.length : Int) then (some 4) else (if a1 > a2 then (some 4) else (some 0)))
set_option maxHeartbeats 8000000 in
set_option maxRecDepth 100000 in
theorem colophonref04_Wrong.calls (A0 : Option Addr) (c0 : Nat) (l0 : List Int) (a1 : Int) (a2 : Int) (r : Int) (w : World) (hr0 : Kd.C (Kd.int .i32) w A0 l0.length l0) (hc0 : l0.length ≤ c0) (h : colophonref04_Wrong.f l0 a1 a2 = some r) :
    Calls Try.prog 55 #[.slice A0 l0.length c0, .int .i64 a1, .int .i64 a2] w fun e w' => e = .returned (.int .i64 r) ∧ Drawn0 w w' := by
  have HR0 := Aside0.mk hr0
  have HC0 := Aside0.mk hc0
  clear hr0 hc0
  have H : (if a1 < 0 then (some 4) else (if a2 > (l0.length : Int) then (some 4) else (if a1 > a2 then (some 4) else (some 0)))) = some r := h
  clear h
  by_cases c4 : a1 < 0
  · rw [if_pos c4] at H
    have c4b0 : decide (a1 < 0) = true := decide_eq_true c4
    clear c4
    obtain rfl := Option.some.inj H
    go_enter Try.func55, Try.ntmps55
    go_wp2
    go_ret
    exact ⟨by first | rfl | (simp; done) | (simp [*]; done), by repeat (first | exact Drawn0.refl _ | apply Drawn0.step)⟩
  · rw [if_neg c4] at H
    have c4b0 : decide (a1 < 0) = false := decide_eq_false c4
    clear c4
    by_cases c5 : a2 > (l0.length : Int)
    · rw [if_pos c5] at H
      have c5b0 : decide ((l0.length : Int) < a2) = true := decide_eq_true c5
      clear c5
      obtain rfl := Option.some.inj H
      go_enter Try.func55, Try.ntmps55
      go_wp2
      go_ret
      exact ⟨by first | rfl | (simp; done) | (simp [*]; done), by repeat (first | exact Drawn0.refl _ | apply Drawn0.step)⟩
    · rw [if_neg c5] at H
      have c5b0 : decide ((l0.length : Int) < a2) = false := decide_eq_false c5
      clear c5
      by_cases c6 : a1 > a2
      · rw [if_pos c6] at H
        have c6b0 : decide (a2 < a1) = true := decide_eq_true c6
        clear c6
        obtain rfl := Option.some.inj H
        go_enter Try.func55, Try.ntmps55
        go_wp2
        go_ret
        exact ⟨by first | rfl | (simp; done) | (simp [*]; done), by repeat (first | exact Drawn0.refl _ | apply Drawn0.step)⟩
      · rw [if_neg c6] at H
        have c6b0 : decide (a2 < a1) = false := decide_eq_false c6
        clear c6
        obtain rfl := Option.some.inj H
        go_enter Try.func55, Try.ntmps55
        go_wp2
        go_ret
        exact ⟨by first | rfl | (simp; done) | (simp [*]; done), by repeat (first | exact Drawn0.refl _ | apply Drawn0.step)⟩

end Go.Proofs.Ytenjldfflkinkaa.F

namespace Go.Proofs.Ytenjldfflkinkaa.Rop
set_option linter.unusedVariables false
set_option linter.unusedSimpArgs false
open Go.RowKit Go.Proofs.Ytenjldfflkinkaa.F Go.Proofs.YtenjldfflkinkaaW.PrintWords Go.Proofs.YtenjldfflkinkaaW.PrintLast Go.Proofs.YtenjldfflkinkaaW.PrintMore

theorem same_lp (L : List Int) (hL : L.length ≤ 1000000) : ∀ (d k i : Nat), L.length - i = d → i ≤ L.length → d < k → colophonref01_Same.l0 k L L (i : Int) = some true := by
  intro d
  induction d with
  | zero =>
    intro k i hd hi hk
    obtain ⟨k, rfl⟩ : ∃ m, k = m + 1 := ⟨k - 1, by omega⟩
    simp only [colophonref01_Same.l0]
    rw [if_neg (by omega)]
  | succ d ih =>
    intro k i hd hi hk
    obtain ⟨k, rfl⟩ : ∃ m, k = m + 1 := ⟨k - 1, by omega⟩
    have hnext := ih k (i + 1) (by omega) (by omega) (by omega)
    have hw : wrap64 ((i : Int) + 1) = ((i + 1 : Nat) : Int) := by unfold wrap64; omega
    simp only [colophonref01_Same.l0, hw]
    rw [if_pos (by omega), if_pos (by omega), if_pos (by omega), if_pos trivial]
    exact hnext
theorem same_refl (L : List Int) (hL : L.length ≤ 1000000) : colophonref01_Same.f (L.length + 1) L L = some true := by
  unfold colophonref01_Same.f
  rw [if_pos rfl]
  exact same_lp L hL L.length _ 0 (by omega) (by omega) (by omega)
theorem drawn_below {w w' : World} (h : Drawn0 w w') : Below w.heap.size w w' := by
  obtain ⟨n, rfl⟩ := h.out
  exact pw_below_drewN (Below.refl _ _) n
/-- Same of a list and itself -/
theorem Same_calls {w : World} {A B : Option Addr} {c d : Nat} {l : List Int} (hA : Kd.C (Kd.int .i32) w A l.length l) (hc : l.length ≤ c) (hB : Kd.C (Kd.int .i32) w B l.length l) (hd : l.length ≤ d) (hl : l.length ≤ 1000000) :
    Calls Try.prog 18 #[.slice A l.length c, .slice B l.length d] w fun e w' => e = .returned (.bool true) ∧ Below w.heap.size w w' :=
  (colophonref01_Same.calls _ A c l B d l true w hA hc hB hd (same_refl l hl)).mono fun _ _ ⟨he, hw⟩ => ⟨he, drawn_below hw⟩
end Go.Proofs.Ytenjldfflkinkaa.Rop

namespace Go.Proofs.Ytenjldfflkinkaa.Rop
set_option linter.unusedVariables false
set_option linter.unusedSimpArgs false
open Go.RowKit Go.Proofs.Ytenjldfflkinkaa.F Go.Proofs.YtenjldfflkinkaaW.PrintWords Go.Proofs.YtenjldfflkinkaaW.PrintLast Go.Proofs.YtenjldfflkinkaaW.PrintMore

/-- at b lies a rope of this list -/
def RL (W : World) (b : Nat) (l : List Int) : Prop := ∃ t, IsR W (some ⟨b, 0, none⟩) t ∧ t.toL = l ∧ t.Bal
theorem RL.below {A B : World} {b : Nat} {l : List Int} (h : RL A b l) (hb : Below A.heap.size A B) : RL B b l := by
  obtain ⟨t, h1, h2, h3⟩ := h
  exact ⟨t, h1.below hb, h2, h3⟩
theorem insT_toL {t u : RT} {i : Nat} (h : i ≤ t.sz) : (insT t u (i : Int)).toL = t.toL.take i ++ u.toL ++ t.toL.drop i := by
  unfold insT
  rw [RT.glue_toL, RT.glue_toL, (RT.cut_toL t i h).1, (RT.cut_toL t i h).2]
theorem insT_bal {t u : RT} {i : Int} (h : t.Bal) (hu : u.Bal) : (insT t u i).Bal := RT.glue_bal (RT.glue_bal (RT.cut_bal t i h).1 hu) (RT.cut_bal t i h).2
theorem delT_toL {t : RT} {a b : Nat} (h : a ≤ b) (hb : b ≤ t.sz) : (delT t (a : Int) (b : Int)).toL = t.toL.take a ++ t.toL.drop b := by
  unfold delT
  have h1 := RT.cut_toL t a (by omega)
  have h2 := RT.cut_sz t a (by omega)
  have e : (b : Int) - (a : Int) = ((b - a : Nat) : Int) := by omega
  rw [e, RT.glue_toL, h1.1, (RT.cut_toL _ (b - a) (by omega)).2, h1.2, List.drop_drop]
  congr 2
  omega
theorem delT_bal {t : RT} {a b : Int} (h : t.Bal) : (delT t a b).Bal := RT.glue_bal (RT.cut_bal t a h).1 (RT.cut_bal _ _ (RT.cut_bal t a h).2).2
section
variable {w : World} {b : Nat} {l : List Int}
def OneR (l : List Int) (w : World) (e : Ending) (w' : World) : Prop := ∃ b, e = .returned (.pointer (some ⟨b, 0, none⟩)) ∧ RL w' b l ∧ Below w.heap.size w w'
def OneE (l : List Int) (w : World) (e : Ending) (w' : World) : Prop := ∃ b, e = .returned (.tuple #[.pointer (some ⟨b, 0, none⟩), .int .i64 0]) ∧ RL w' b l ∧ Below w.heap.size w w'
theorem New_L {A : Option Addr} {c : Nat} (hC : Kd.C (Kd.int .i32) w A l.length l) (hc : l.length ≤ c) (hm : c ≤ 9223372036854775807) (hb : l.length ≤ 800000000000000) : Calls Try.prog 10 #[.slice A l.length c] w (OneR l w) :=
  (New_calls hC hc hm hb).mono fun _ _ ⟨p, he, hr, hb⟩ => by
    obtain ⟨b, rfl⟩ := hr.some
    exact ⟨b, he, ⟨_, hr, RT.of_toL l, RT.of_bal l⟩, hb⟩
theorem Len_L (h : RL w b l) : Calls Try.prog 17 #[.pointer (some ⟨b, 0, none⟩)] w fun e w' => e = .returned (.int .i64 (l.length : Int)) ∧ w = w' := by
  obtain ⟨t, h1, rfl, h3⟩ := h
  rw [RT.toL_len]
  exact Len_calls h1
theorem Breaks_L (h : RL w b l) : Calls Try.prog 23 #[.pointer (some ⟨b, 0, none⟩)] w fun e w' => e = .returned (.int .i64 ((l.countP sep : Nat) : Int)) ∧ w = w' := by
  obtain ⟨t, h1, rfl, h3⟩ := h
  rw [← RT.bk_count]
  exact Breaks_calls h1
theorem Insert_L {zs : List Int} {A : Option Addr} {c : Nat} (h : RL w b l) (hC : Kd.C (Kd.int .i32) w A zs.length zs) (hc : zs.length ≤ c) (hm : c ≤ 9223372036854775807) (i : Nat) (h1 : i ≤ l.length) (hs : l.length + zs.length ≤ 800000000000000) :
    Calls Try.prog 14 #[.pointer (some ⟨b, 0, none⟩), .int .i64 (i : Int), .slice A zs.length c] w (OneE (l.take i ++ zs ++ l.drop i) w) := by
  obtain ⟨t, g1, rfl, g3⟩ := h
  rw [RT.toL_len] at h1 hs
  refine (Insert_calls g1 hC hc hm (i : Int) (by omega) (by omega) hs).mono fun e w' ⟨p, he, hr, hb⟩ => ?_
  obtain ⟨b, rfl⟩ := hr.some
  exact ⟨b, he, ⟨_, hr, by rw [insT_toL h1, RT.of_toL], insT_bal g3 (RT.of_bal zs)⟩, hb⟩
theorem Delete_L (h : RL w b l) (x y : Nat) (h1 : x ≤ y) (h2 : y ≤ l.length) (hs : l.length ≤ 800000000000000) :
    Calls Try.prog 13 #[.pointer (some ⟨b, 0, none⟩), .int .i64 (x : Int), .int .i64 (y : Int)] w (OneE (l.take x ++ l.drop y) w) := by
  obtain ⟨t, g1, rfl, g3⟩ := h
  rw [RT.toL_len] at h2 hs
  refine (Delete_calls g1 (x : Int) (y : Int) (by omega) (by omega) (by omega) hs).mono fun e w' ⟨p, he, hr, hb⟩ => ?_
  obtain ⟨b, rfl⟩ := hr.some
  exact ⟨b, he, ⟨_, hr, delT_toL h1 h2, delT_bal g3⟩, hb⟩
theorem Slice_L (h : RL w b l) (x y : Nat) (h1 : x ≤ y) (h2 : y ≤ l.length) (hs : l.length ≤ 1000000) : Calls Try.prog 16 #[.pointer (some ⟨b, 0, none⟩), .int .i64 (x : Int), .int .i64 (y : Int)] w (GivesL ((l.drop x).take (y - x)) w) := by
  obtain ⟨t, g1, rfl, g3⟩ := h
  rw [RT.toL_len] at h2 hs
  exact Slice_calls g1 x y h1 h2 hs
theorem Para_L (h : RL w b l) (i : Nat) (hi : i ≤ l.length) (hs : l.length ≤ 800000000000000) : Calls Try.prog 24 #[.pointer (some ⟨b, 0, none⟩), .int .i64 (i : Int)] w (GivesP l i w) := by
  obtain ⟨t, g1, rfl, g3⟩ := h
  rw [RT.toL_len] at hi hs
  exact Para_calls g1 i hi hs
end
end Go.Proofs.Ytenjldfflkinkaa.Rop

namespace Go.Proofs.Ytenjldfflkinkaa.Rop
set_option linter.unusedVariables false
set_option linter.unusedSimpArgs false
open Go.RowKit Go.Proofs.Ytenjldfflkinkaa.F Go.Proofs.YtenjldfflkinkaaW.PrintWords Go.Proofs.YtenjldfflkinkaaW.PrintLast Go.Proofs.YtenjldfflkinkaaW.PrintMore

end Go.Proofs.Ytenjldfflkinkaa.Rop

namespace Go.Proofs.Ytenjldfflkinkaa.Rop
set_option linter.unusedVariables false
set_option linter.unusedSimpArgs false
open Go.RowKit Go.Proofs.Ytenjldfflkinkaa.F Go.Proofs.YtenjldfflkinkaaW.PrintWords Go.Proofs.YtenjldfflkinkaaW.PrintLast Go.Proofs.YtenjldfflkinkaaW.PrintMore
/-- What a row of the statement says of a []rune. -/
def InRow (w : World) (a0 : Option Addr) (len0 cap0 : Nat) (z0 : List Int) : Prop :=
  (a0 = none ∧ len0 = 0 ∧ cap0 = 0 ∧ z0 = []) ∨ ∃ x, a0 = some x ∧ len0 ≤ cap0 ∧ cap0 ≤ maxLen ∧ z0.length = cap0 ∧ (∀ i, i < z0.length → w.cell? (x.add i) = some (.int .i32 (z0.getD i 0))) ∧ ∀ n ∈ z0, (Lit.int .i32 n).wf = true
theorem InRow.list {w : World} {a0 : Option Addr} {len0 cap0 : Nat} {z0 : List Int} (h : InRow w a0 len0 cap0 z0) :
    ∃ l : List Int, len0 = l.length ∧ Kd.C (Kd.int .i32) w a0 l.length l ∧ l.length ≤ cap0 ∧ cap0 ≤ 9223372036854775807 ∧ ∀ n ∈ l, (Lit.int .i32 n).wf = true := by
  obtain ⟨l0, rfl, hr0, hm0, hw0, hc0⟩ := ReadsInt.ofRowC h
  have hcm : cap0 ≤ 9223372036854775807 := by
    rcases h with ⟨_, _, rfl, _⟩ | ⟨_, _, _, h, _⟩
    · omega
    · simpa [maxLen] using h
  exact ⟨l0, rfl, Kd.C_of_reads (d := (0 : Int)) (h1 := fun _ => rfl) hr0, hc0, hcm, hw0⟩
theorem int_range {x : Int} (h : (Lit.int .i64 x).wf = true) : -9223372036854775808 ≤ x ∧ x ≤ 9223372036854775807 := by
  simp [Lit.wf, IntKind.min, IntKind.max, IntKind.signed, IntKind.bits] at h
  omega
end Go.Proofs.Ytenjldfflkinkaa.Rop

namespace Go.Proofs.Ytenjldfflkinkaa.Rop
set_option linter.unusedVariables false
set_option linter.unusedSimpArgs false
open Go.RowKit Go.Proofs.Ytenjldfflkinkaa.F Go.Proofs.YtenjldfflkinkaaW.PrintWords Go.Proofs.YtenjldfflkinkaaW.PrintLast Go.Proofs.YtenjldfflkinkaaW.PrintMore

/-! ### paragraphs, in plain Lean -/
/-- Paragraph k begins at e (one behind the last paragraph: at the text's end). -/
structure Begins (l : List Int) (k e : Nat) : Prop where
  le : e ≤ l.length
  lt : ∀ m, m < e → cnt l m < k
  ge : e < l.length → k ≤ cnt l e
theorem cnt_zero (l : List Int) : cnt l 0 = 0 := rfl
theorem cnt_all (l : List Int) : cnt l l.length = l.countP sep := by unfold cnt; rw [List.take_length]
theorem cnt_add (l : List Int) (i j : Nat) : cnt l (i + j) = cnt l i + ((l.drop i).take j).countP sep := by
  unfold cnt
  rw [List.take_add, List.countP_append]
theorem cnt_succ (l : List Int) (i : Nat) : cnt l (i + 1) ≤ cnt l i + 1 := by
  rw [cnt_add]
  have : ((l.drop i).take 1).countP sep ≤ ((l.drop i).take 1).length := List.countP_le_length
  have h2 : ((l.drop i).take 1).length ≤ 1 := by simp; omega
  omega
theorem Begins.zero (l : List Int) : Begins l 0 0 := ⟨Nat.zero_le _, fun m h => by omega, fun _ => Nat.zero_le _⟩
theorem Begins.cnt {l : List Int} {k e : Nat} (h : Begins l k e) (hk : k ≤ l.countP sep) : cnt l e = k := by
  have h1 : k ≤ Rop.cnt l e := by
    by_cases he : e < l.length
    · exact h.ge he
    · have : e = l.length := by have := h.le; omega
      rw [this, cnt_all]
      exact hk
  have h2 : Rop.cnt l e ≤ k := by
    cases e with
    | zero => rw [cnt_zero]; omega
    | succ e =>
      have := h.lt e (by omega)
      have := cnt_succ l e
      omega
  omega
theorem para_at {l : List Int} {k e n a b : Nat} (h : Begins l k e) (hk : k ≤ l.countP sep) (hp : IsPara l e n a b) :
    n = k ∧ a = e ∧ Begins l (k + 1) b ∧ e ≤ b ∧ (k < l.countP sep → e < b) := by
  have hc := h.cnt hk
  obtain ⟨h1, h2, h3, h4, h5, h6, h7⟩ := hp
  rw [hc] at h1
  subst h1
  have hb : Begins l (n + 1) b := ⟨h5, fun m hm => by have := h6 m hm; omega, h7⟩
  have heb : e ≤ b := by
    rcases Nat.lt_or_ge b e with hlt | hge
    · have := h.lt b hlt
      have := h7 (by have := h.le; omega)
      omega
    · exact hge
  refine ⟨rfl, ?_, hb, heb, fun hlt => ?_⟩
  · rcases Nat.lt_trichotomy a e with hl | he | hl
    · have := h.lt a hl
      have := h4 (by have := h.le; omega)
      omega
    · exact he
    · have := h3 e hl
      omega
  · rcases Nat.lt_or_ge e b with hl | hge
    · exact hl
    · obtain rfl : e = b := by omega
      have := hb.cnt (by omega)
      omega
/-! ### the walk -/
theorem R_cap {w : World} {e base : Nat} {A : Option Addr} {n c : Nat} {xs : List Int} {ok : Nat → Prop} (h : Kd.R (Kd.int .i32) e w base ok (.slice A n c) xs) : c ≤ 9223372036854775807 := by
  obtain ⟨inner, ho⟩ := Kd.R_own h
  rcases ho.2 with ⟨h1, _⟩ | ⟨g, cap, cur, h1, _, _, _, h2, _⟩
  · injection h1 with _ _ h3
    omega
  · injection h1 with _ _ h3
    subst h3
    simpa [maxLen] using h2
theorem Slice_row {w : World} {l : List Int} {b : Nat} (h : RL w b l) (x y : Nat) (h1 : x ≤ y) (h2 : y ≤ l.length) (hs : l.length ≤ 1000000) :
    Calls Try.prog 16 #[.pointer (some ⟨b, 0, none⟩), .int .i64 (x : Int), .int .i64 (y : Int)] w fun e w' => ∃ A c, e = .returned (.tuple #[.slice A (y - x) c, .int .i64 0]) ∧ Kd.C (Kd.int .i32) w' A (y - x) ((l.drop x).take (y - x)) ∧ y - x ≤ c ∧ c ≤ 9223372036854775807 ∧ Below w.heap.size w w' := by
  refine (Slice_L h x y h1 h2 hs).mono fun e w' ⟨v, he, hr, hb⟩ => ?_
  obtain ⟨A, c, rfl⟩ := Kd.R_slice hr
  have hl : ((l.drop x).take (y - x)).length = y - x := by simp; omega
  have hC := (Kd.R_reads' hr).2.2
  have hc := (Kd.R_reads' hr).2.1
  have hm := R_cap hr
  rw [hl] at hC hc he
  exact ⟨A, c, he, hC, hc, hm, hb⟩
end Go.Proofs.Ytenjldfflkinkaa.Rop

namespace Go.Proofs.Ytenjldfflkinkaa.Rop
set_option linter.unusedVariables false
set_option linter.unusedSimpArgs false
open Go.RowKit Go.Proofs.Ytenjldfflkinkaa.F Go.Proofs.YtenjldfflkinkaaW.PrintWords Go.Proofs.YtenjldfflkinkaaW.PrintLast Go.Proofs.YtenjldfflkinkaaW.PrintMore
/-- Call i of a list of calls: its four cells, and its text. -/
structure ActAt (W : World) (ad : Addr) (i : Nat) (k f t : Int) (A : Option Addr) (z : List Int) (c : Nat) : Prop where
  c0 : W.cell? (ad.add (i * 4)) = some (.int .i64 k)
  c1 : W.cell? ⟨(ad.add (i * 4)).block, (ad.add (i * 4)).off + 1, none⟩ = some (.int .i64 f)
  c2 : W.cell? ⟨(ad.add (i * 4)).block, (ad.add (i * 4)).off + 2, none⟩ = some (.int .i64 t)
  c3 : W.cell? ⟨(ad.add (i * 4)).block, (ad.add (i * 4)).off + 3, none⟩ = some (.slice A z.length c)
  hk : -9223372036854775808 ≤ k ∧ k ≤ 9223372036854775807
  hf : -9223372036854775808 ≤ f ∧ f ≤ 9223372036854775807
  ht : -9223372036854775808 ≤ t ∧ t ≤ 9223372036854775807
  hC : Kd.C (Kd.int .i32) W A z.length z
  hc : z.length ≤ c
  hm : c ≤ 9223372036854775807
theorem ActAt.below {W W' : World} {ad : Addr} {i : Nat} {k f t : Int} {A : Option Addr} {z : List Int} {c : Nat} (h : ActAt W ad i k f t A z c) (hb : Below W.heap.size W W') : ActAt W' ad i k f t A z c :=
  ⟨(hb.cell (p := ad.add (i * 4)) (World.block_lt_of_cell? W _ h.c0)).trans h.c0, (hb.cell (p := ⟨(ad.add (i * 4)).block, (ad.add (i * 4)).off + 1, none⟩) (World.block_lt_of_cell? W _ h.c1)).trans h.c1, (hb.cell (p := ⟨(ad.add (i * 4)).block, (ad.add (i * 4)).off + 2, none⟩) (World.block_lt_of_cell? W _ h.c2)).trans h.c2, (hb.cell (p := ⟨(ad.add (i * 4)).block, (ad.add (i * 4)).off + 3, none⟩) (World.block_lt_of_cell? W _ h.c3)).trans h.c3, h.hk, h.hf, h.ht, Kd.C_below h.hC hb, h.hc, h.hm⟩
theorem wrap_small {x : Int} (h : -9223372036854775808 ≤ x ∧ x ≤ 9223372036854775807) : IntKind.i64.wrap x = x := by
  rw [IntKind.wrap_i64]
  omega
theorem new_cell {W : World} {cs : Array Value} {t j : Nat} : (W.alloc (.cells cs t)).cell? ⟨W.heap.size, j, none⟩ = cs[j]? := by
  simp only [World.cell?]
  rw [World.alloc_heap_new]
  rfl
theorem Len_Q {w : World} {b nl : Nat} {l : List Int} (h : RL w b l) (hnl : l.length = nl) : Calls Try.prog 17 #[.pointer (some ⟨b, 0, none⟩)] w fun e w' => e = .returned (.int .i64 (nl : Int)) ∧ w = w' := by
  have := Len_L h
  rw [hnl] at this
  exact this
end Go.Proofs.Ytenjldfflkinkaa.Rop

namespace Go.Proofs.Ytenjldfflkinkaa.Rop
open Go.ChangeShapes Go.WideShapes Go.ChangeAt Go.RowKit Go.Joins Go.Proofs.YtenjldfflkinkaaW.PrintWords
set_option linter.unusedVariables false
theorem cells_runes : Try.prog.cellsOf 23 = 1 := by kernel_rfl
theorem cells_rune : Try.prog.cellsOf 21 = 1 := by kernel_rfl
theorem cells_int : Try.prog.cellsOf 3 = 1 := by kernel_rfl
theorem open_runes {H : Type} {enc : TypeId × Value → H} {W : World} {c : Value} {y : DataW H × List MemPlace} {n : Nat} (h : DataW.trod enc Try.prog W 0 (fun _ => true) true n 23 [c] = some y) :
    ∃ a len cap zs, c = .slice a len cap ∧ InRow W a len cap zs := by
  rcases open_ints Try.underlying23 Try.underlying21 cells_rune h with ⟨hcs, _⟩ | ⟨x, l, c', zs, hcs, _, hl, hm, hz, _, hcell, hwz⟩
  · simp at hcs
    exact ⟨none, 0, 0, [], hcs, .inl ⟨rfl, rfl, rfl, rfl⟩⟩
  · simp at hcs
    exact ⟨some x, l, c', zs, hcs, .inr ⟨_, rfl, hl, hm, by simpa using hz, hcell, hwz⟩⟩
theorem add_lit {a : Addr} {j : Nat} (h : j ≠ 0) : a.add j = ⟨a.block, a.off + j, none⟩ := by
  unfold Addr.add
  rw [if_neg h]
end Go.Proofs.Ytenjldfflkinkaa.Rop

namespace Go.Proofs.Ytenjldfflkinkaa.Rop
set_option linter.unusedVariables false
set_option linter.unusedSimpArgs false
open Go.RowKit Go.Shelf Go.Proofs.Ytenjldfflkinkaa.F Go.Proofs.YtenjldfflkinkaaW.PrintWords Go.Proofs.YtenjldfflkinkaaW.PrintLast Go.Proofs.YtenjldfflkinkaaW.PrintMore
attribute [local go_sem] Oper.semAt_some
/-- the marks of the loops that were gone through -/
def Marks (b : Nat) (W : World) : List Deferred → Prop
  | [] => True
  | d :: ds => (∃ D, d = { target := .collected D, args := #[] } ∧ b ≤ D ∧ W.heap[D]? = some (.deferred (some [])) ∧ ∀ D' : Nat, ({ target := .collected D', args := #[] } : Deferred) ∈ ds → D' ≠ D) ∧ Marks b W ds
theorem Marks.mem {b : Nat} {W : World} : ∀ {ds : List Deferred}, Marks b W ds → ∀ D, ({ target := .collected D, args := #[] } : Deferred) ∈ ds → D < W.heap.size
  | [], _, D, h => by cases h
  | d :: ds, hm, D, h => by
    obtain ⟨⟨D2, rfl, h2, h3, h4⟩, hr⟩ := hm
    rcases List.mem_cons.1 h with he | he
    · cases he
      exact (Array.getElem?_eq_some_iff.1 h3).1
    · exact Marks.mem hr D he
theorem Marks.get {b : Nat} {W : World} : ∀ {ds : List Deferred}, Marks b W ds → ∀ D, ({ target := .collected D, args := #[] } : Deferred) ∈ ds → W.heap[D]? = some (.deferred (some []))
  | [], _, D, h => by cases h
  | d :: ds, hm, D, h => by
    obtain ⟨⟨D2, rfl, h2, h3, h4⟩, hr⟩ := hm
    rcases List.mem_cons.1 h with he | he
    · cases he
      exact h3
    · exact Marks.get hr D he
theorem Marks.keep {b : Nat} {W W' : World} : ∀ {ds : List Deferred}, Marks b W ds → (∀ D, ({ target := .collected D, args := #[] } : Deferred) ∈ ds → W'.heap[D]? = W.heap[D]?) → Marks b W' ds
  | [], _, _ => trivial
  | d :: ds, hm, h => by
    obtain ⟨⟨D2, rfl, h2, h3, h4⟩, hr⟩ := hm
    exact ⟨⟨D2, rfl, h2, (h D2 (List.mem_cons_self ..)).trans h3, h4⟩, hr.keep fun D hD => h D (List.mem_cons_of_mem _ hD)⟩
theorem Marks.box {b : Nat} {W : World} {ds : List Deferred} {B t : Nat} {v : Value} (h : Marks b W ds) (hB : Boxed W B t v) (u : Value) : Marks b (W.setCell ⟨B, 0, none⟩ u) ds :=
  h.keep fun D hD => Below.heap_setCell W ⟨B, 0, none⟩ u D (fun e => by
    have h1 := h.get D hD
    rw [show D = B from e, show W.heap[B]? = _ from hB] at h1
    cases h1)
theorem Marks.below {b : Nat} {W W' : World} {ds : List Deferred} (h : Marks b W ds) (hb : Below W.heap.size W W') : Marks b W' ds :=
  h.keep fun D hD => hb.block D (h.mem D hD)
theorem marks_leave {b : Nat} {F : Fence} {n : Nat} {P : Program} {fn : Func} {tmps : Array Value} {R : Ending → World → Prop} {Φ : World → Prop} (hΦ : ∀ W D, Φ W → b ≤ D → W.heap[D]? = some (.deferred (some [])) → Φ (W.putObj D (.deferred none)))
    (hR : ∀ W, Φ W → ∃ v, (results fn tmps).run P W = .ok v W ∧ R (.returned v) W) : ∀ (ds : List Deferred) (W : World), Marks b W ds → Φ W → LeavesInM F n P fn tmps R ds .returning W
  | [], W, _, h => hR W h
  | d :: ds, W, ⟨⟨D, hd, h2, h3, h4⟩, hr⟩, h => by
    subst hd
    refine ⟨by simp, .inl ⟨_, _, rfl, run_takeDeferred h3, ?_⟩⟩
    exact marks_leave hΦ hR ds _ (hr.keep fun D' hD' => World.putObj_heap_other (h4 D' hD')) (hΦ W D h h2 h3)
theorem Boxed.putObj {W : World} {B D t : Nat} {v : Value} {o o' : Obj} (h : Boxed W B t v) (hD : W.heap[D]? = some o) (ho : o.isCells = false) : Boxed (W.putObj D o') B t v :=
  h.kept (grownBy_putObj' W D o') (fun e => by
    cases e
    rw [show W.heap[B]? = _ from h] at hD
    cases hD
    cases ho)
theorem num_read32 {w : World} {A : Option Addr} {zs : List Int} {n : Nat} (h : Kd.C (Kd.int .i32) w A n zs) (hn : zs.length = n) (j : Nat) (h1 : j < n) : ∃ ad, A = some ad ∧ w.cell? (ad.add j) = some (.int .i32 (zs.getD j 0)) := by
  obtain ⟨ad, c, e, hc1, hK, hc0⟩ := Kd.C_get h 0 (j : Int) (by omega) (by omega)
  have hK' : c = [.int .i32 (zs.getD (j : Int).toNat 0)] := hK
  subst hK'
  have := hc0 0 _ rfl
  refine ⟨ad, e, ?_⟩
  have h1 : (j : Int).toNat * (Kd.int .i32).sz + 0 = j := by show (j : Int).toNat * 1 + 0 = j; omega
  rw [h1] at this
  exact this
end Go.Proofs.Ytenjldfflkinkaa.Rop

namespace Go.Proofs.Ytenjldfflkinkaa.Rop
set_option linter.unusedVariables false
set_option linter.unusedSimpArgs false
open Go.RowKit Go.Shelf Go.Proofs.Ytenjldfflkinkaa.F Go.Proofs.YtenjldfflkinkaaW.PrintWords Go.Proofs.YtenjldfflkinkaaW.PrintLast Go.Proofs.YtenjldfflkinkaaW.PrintMore
attribute [local go_sem] Oper.semAt_some
end Go.Proofs.Ytenjldfflkinkaa.Rop

namespace Go.Proofs.Ytenjldfflkinkaa.Rop
set_option linter.unusedVariables false
set_option linter.unusedSimpArgs false
open Go.RowKit Go.Proofs.Ytenjldfflkinkaa.F Go.Proofs.YtenjldfflkinkaaW.PrintWords Go.Proofs.YtenjldfflkinkaaW.PrintLast Go.Proofs.YtenjldfflkinkaaW.PrintMore
/-- runes are numbers of 32 bits -/
def Runes (l : List Int) : Prop := ∀ n ∈ l, wrap64 n = n
end Go.Proofs.Ytenjldfflkinkaa.Rop

namespace Go.Proofs.Ytenjldfflkinkaa.Rop
set_option linter.unusedVariables false
set_option linter.unusedSimpArgs false
open Go.RowKit Go.Shelf Go.Proofs.Ytenjldfflkinkaa.F Go.Proofs.YtenjldfflkinkaaW.PrintWords Go.Proofs.YtenjldfflkinkaaW.PrintLast Go.Proofs.YtenjldfflkinkaaW.PrintMore
attribute [local go_sem] Oper.semAt_some
end Go.Proofs.Ytenjldfflkinkaa.Rop
