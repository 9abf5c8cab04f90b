/- PickSplits, over lists alone: two ranges that follow one another have runs that do not meet, and together the columns of the whole range. -/
import Derived.Test.YtccleelhheilnaaFxPS
import Derived.Test.YtccleelhheilnaaW16T
namespace Go.Proofs.Ytccleelhheilnaa.Pure
set_option linter.unusedVariables false
set_option linter.unusedSimpArgs false
open Go.RowKit Go.Proofs.Ytccleelhheilnaa.F Go.Proofs.YtccleelhheilnaaW.PrintWords Go.Proofs.YtccleelhheilnaaW.PrintLast

/-- does a run have a column? -/
def hasC (q : Nat) (x : S45) : Bool := decide (x.f0 ≤ (q : Int) ∧ (q : Int) < x.f1)
/-- how many runs have it -/
def cntC (r : List S45) (q : Nat) : Nat := r.countP (hasC q)
theorem cntC_le (r : List S45) (q : Nat) : cntC r q ≤ r.length := List.countP_le_length
theorem cntC_snoc (r : List S45) (x : S45) (q : Nat) : cntC (r ++ [x]) q = cntC r q + if hasC q x = true then 1 else 0 := by
  unfold cntC
  rw [List.countP_append, List.countP_singleton]
theorem hasC_nat (b n q : Nat) : hasC q ⟨(b : Int), (n : Int)⟩ = true ↔ b ≤ q ∧ q < n := by
  unfold hasC
  simp
theorem strF_cover (l : List Int) (fr te : Int) : ∀ n q, cntC (strF l fr te n).1 q + (if (strF l fr te n).2 ≤ q ∧ q < n then 1 else 0) = if q < n ∧ mk l fr te q then 1 else 0
  | 0, q => by
    rw [if_neg (by omega), if_neg (by omega)]
    rfl
  | n + 1, q => by
    have ih := strF_cover l fr te n q
    have hb := str_begin l fr te n
    by_cases hm : mk l fr te n
    · rw [str_in hm.1 hm.2]
      by_cases hq : q = n
      · subst hq
        rw [if_neg (by omega), if_neg (by omega)] at ih
        rw [if_pos (by omega), if_pos ⟨by omega, hm⟩]
        omega
      · have e1 : ((strF l fr te n).2 ≤ q ∧ q < n + 1) ↔ ((strF l fr te n).2 ≤ q ∧ q < n) := by omega
        have e2 : (q < n + 1 ∧ mk l fr te q) ↔ (q < n ∧ mk l fr te q) := ⟨fun h => ⟨by omega, h.2⟩, fun h => ⟨by omega, h.2⟩⟩
        simp only [e1, e2]
        exact ih
    · have e2 : (q < n + 1 ∧ mk l fr te q) ↔ (q < n ∧ mk l fr te q) := ⟨fun h => ⟨by
        have : q ≠ n := fun e => hm (e ▸ h.2)
        omega, h.2⟩, fun h => ⟨by omega, h.2⟩⟩
      by_cases hlt : (strF l fr te n).2 < n
      · rw [str_out hm hlt]
        simp only [e2]
        rw [cntC_snoc, if_neg (fun h : n + 1 ≤ q ∧ q < n + 1 => by omega)]
        simp only [hasC_nat]
        omega
      · rw [str_skip hm hlt]
        simp only [e2]
        rw [if_neg (by omega)] at ih
        rw [if_neg (fun h : n + 1 ≤ q ∧ q < n + 1 => by omega)]
        exact ih
/-- each marked column lies in one run, and no other one does -/
theorem strs_cover (l : List Int) (fr te : Int) (q : Nat) : cntC (strs l fr te) q = if mk l fr te q then 1 else 0 := by
  have h := strF_cover l fr te (l.length + 1) q
  have hend : ¬ ((strF l fr te (l.length + 1)).2 ≤ q ∧ q < l.length + 1) := by
    intro h2
    exact absurd (begin_marked l fr te (l.length + 1) l.length (by omega) (by omega)).1 (by omega)
  rw [if_neg hend] at h
  unfold strs
  rw [Nat.add_zero] at h
  rw [h]
  by_cases hm : mk l fr te q
  · rw [if_pos hm, if_pos ⟨by have := hm.1; omega, hm⟩]
  · rw [if_neg hm, if_neg (fun h => hm h.2)]
/-- runs of whole numbers -/
def RunsOk (r : List S45) : Prop := ∀ x ∈ r, ∃ b n : Nat, x = ⟨(b : Int), (n : Int)⟩ ∧ b ≤ n ∧ n ≤ 17592186044416
theorem chain_ok (l : List Int) (fr te : Int) (hl : l.length ≤ 17592186044416) : ∀ (r : List S45) (e : Nat), Chain l fr te e r → RunsOk r
  | [], e, _ => fun x hx => by simp at hx
  | y :: r, e, h => fun x hx => by
    obtain ⟨b, n, rfl, h1, h2, h3, h4, h5⟩ := h
    rcases List.mem_cons.1 hx with rfl | hx
    · exact ⟨b, n, rfl, by omega, by omega⟩
    · exact chain_ok l fr te hl r _ h5 x hx

def EvT (f : Nat → Option Bool) : Prop := ∃ K, ∀ k, K ≤ k → f k = some true
theorem EvT.succ {f g : Nat → Option Bool} (h : EvT g) (hs : ∀ k, f (k + 1) = g k) : EvT f := by
  obtain ⟨K, hK⟩ := h
  refine ⟨K + 1, fun k hk => ?_⟩
  obtain ⟨k, rfl⟩ : ∃ m, k = m + 1 := ⟨k - 1, by omega⟩
  rw [hs]
  exact hK k (by omega)
/-- the marks: column by column -/
def mkL (n : Nat) (g : Nat → Int) : List Int := (List.range n).map g
theorem mkL_len (n : Nat) (g : Nat → Int) : (mkL n g).length = n := by simp [mkL]
theorem mkL_congr {n : Nat} {g h : Nat → Int} (e : ∀ q, q < n → g q = h q) : mkL n g = mkL n h := by
  apply List.ext_getElem
  · simp [mkL]
  · intro i h1 h2
    simp only [mkL, List.getElem_map, List.getElem_range]
    exact e i (by simpa [mkL] using h1)
theorem mkL_rd {n q : Nat} (g : Nat → Int) (h : q < n) : rd (mkL n g) (q : Int) = g q := by
  rw [rd_at (by rw [mkL_len]; exact h)]
  simp [mkL]
theorem mkL_set {n j : Nat} (g : Nat → Int) (v : Int) : (mkL n g).set j v = mkL n (fun q => if q = j then v else g q) := by
  apply List.ext_getElem
  · simp [mkL]
  · intro i h1 h2
    rw [List.getElem_set]
    simp only [mkL, List.getElem_map, List.getElem_range]
    by_cases e : j = i
    · rw [if_pos e, if_pos e.symm]
    · rw [if_neg e, if_neg (fun h => e h.symm)]
/-- marks with a run's columns v more, below column j -/
def upTo (g : Nat → Int) (v : Int) (s j : Nat) (q : Nat) : Int := g q + if s ≤ q ∧ q < j then v else 0
theorem upTo_step {n s j : Nat} (g : Nat → Int) (v : Int) (hs : s ≤ j) (hj : j < n) : (mkL n (upTo g v s j)).set j (g j + v) = mkL n (upTo g v s (j + 1)) := by
  rw [mkL_set]
  refine mkL_congr fun q hq => ?_
  unfold upTo
  by_cases e : q = j
  · subst e
    rw [if_pos rfl, if_pos (by omega)]
  · rw [if_neg e]
    by_cases h : s ≤ q ∧ q < j
    · rw [if_pos h, if_pos (by omega)]
    · rw [if_neg h, if_neg (by omega)]
theorem upTo_end {n s j e : Nat} (g : Nat → Int) (v : Int) (hje : j ≤ e) (h : e ≤ j ∨ n ≤ j) : mkL n (upTo g v s j) = mkL n (upTo g v s e) := by
  refine mkL_congr fun q hq => ?_
  unfold upTo
  by_cases h1 : s ≤ q ∧ q < j
  · rw [if_pos h1, if_pos (by omega)]
  · rw [if_neg h1, if_neg (by omega)]
theorem split_in (n : Nat) (hn : n ≤ 17592186044416) (g : Nat → Int) (hg : ∀ q, 0 ≤ g q ∧ g q ≤ 1000000000000000) (s e : Nat) (hse : s ≤ e) (he : e ≤ 17592186044416) (x13 : List S45) (x62 : List (List S45)) (x63 x64 : Int) (x68 : List S45) (x69 x70 f0 : Int)
    (hnext : EvT fun k => colophonlaw16_PickSplits.l1 k x13 (mkL n (upTo g 1 s e)) x62 x63 x64 x68 x69 (wrap64 (x70 + 1))) : ∀ (d j : Nat), e - j = d → s ≤ j → j ≤ e →
    EvT fun k => colophonlaw16_PickSplits.l2 k x13 (mkL n (upTo g 1 s j)) (j : Int) x62 x63 x64 x68 x69 x70 f0 (e : Int) := by
  intro d
  induction d with
  | zero =>
    intro j hd hs hj
    refine hnext.succ fun k => ?_
    simp only [colophonlaw16_PickSplits.l2]
    rw [if_neg (by omega), upTo_end g 1 hj (.inl (by omega))]
  | succ d ih =>
    intro j hd hs hj
    by_cases hjn : j < n
    · refine (ih (j + 1) (by omega) (by omega) (by omega)).succ fun k => ?_
      have hw : wrap64 (rd (mkL n (upTo g 1 s j)) (j : Int) + 1) = g j + 1 := by
        rw [mkL_rd _ hjn]
        have h0 := hg j
        unfold upTo
        rw [if_neg (by omega)]
        unfold wrap64
        omega
      simp only [colophonlaw16_PickSplits.l2]
      rw [if_pos (by omega), if_pos (by rw [mkL_len]; omega), if_pos (by omega), hw, Int.toNat_natCast, upTo_step g 1 hs hjn, wr1 (by omega)]
    · refine hnext.succ fun k => ?_
      simp only [colophonlaw16_PickSplits.l2]
      rw [if_pos (by omega), if_neg (by rw [mkL_len]; omega), upTo_end g 1 hj (.inr (by omega))]
theorem split_in4 (n : Nat) (hn : n ≤ 17592186044416) (g : Nat → Int) (hg : ∀ q, 0 ≤ g q ∧ g q ≤ 1000000000000000) (s e : Nat) (hse : s ≤ e) (he : e ≤ 17592186044416) (x97 : List S45) (x98 x99 f0 : Int)
    (hnext : EvT fun k => colophonlaw16_PickSplits.l3 k (mkL n (upTo g 10 s e)) x97 x98 (wrap64 (x99 + 1))) : ∀ (d j : Nat), e - j = d → s ≤ j → j ≤ e →
    EvT fun k => colophonlaw16_PickSplits.l4 k (mkL n (upTo g 10 s j)) (j : Int) x97 x98 x99 f0 (e : Int) := by
  intro d
  induction d with
  | zero =>
    intro j hd hs hj
    refine hnext.succ fun k => ?_
    simp only [colophonlaw16_PickSplits.l4]
    rw [if_neg (by omega), upTo_end g 10 hj (.inl (by omega))]
  | succ d ih =>
    intro j hd hs hj
    by_cases hjn : j < n
    · refine (ih (j + 1) (by omega) (by omega) (by omega)).succ fun k => ?_
      have hw : wrap64 (rd (mkL n (upTo g 10 s j)) (j : Int) + 10) = g j + 10 := by
        rw [mkL_rd _ hjn]
        have h0 := hg j
        unfold upTo
        rw [if_neg (by omega)]
        unfold wrap64
        omega
      simp only [colophonlaw16_PickSplits.l4]
      rw [if_pos (by omega), if_pos (by rw [mkL_len]; omega), if_pos (by omega), hw, Int.toNat_natCast, upTo_step g 10 hs hjn, wr1 (by omega)]
    · refine hnext.succ fun k => ?_
      simp only [colophonlaw16_PickSplits.l4]
      rw [if_pos (by omega), if_neg (by rw [mkL_len]; omega), upTo_end g 10 hj (.inr (by omega))]
theorem rd_S2 {l : List S45} {i : Nat} (h : i < l.length) : rd_T45 l (i : Int) = l[i] := by
  simp only [rd_T45, Int.toNat_natCast, List.getD_eq_getElem?_getD, List.getElem?_eq_getElem h, Option.getD_some]
/-- marks with the columns of the first i runs v more -/
def byRuns (g : Nat → Int) (v : Int) (r : List S45) (q : Nat) : Int := g q + v * (cntC r q : Int)
theorem byRuns_nil (n : Nat) (g : Nat → Int) (v : Int) : mkL n (byRuns g v []) = mkL n g := mkL_congr fun q _ => by simp [byRuns, cntC]
theorem byRuns_step (n : Nat) (g : Nat → Int) (v : Int) (r : List S45) (b e : Nat) : mkL n (upTo (byRuns g v r) v b e) = mkL n (byRuns g v (r ++ [⟨(b : Int), (e : Int)⟩])) := by
  refine mkL_congr fun q _ => ?_
  unfold upTo byRuns
  rw [cntC_snoc]
  by_cases h : b ≤ q ∧ q < e
  · rw [if_pos h, if_pos ((hasC_nat b e q).2 h), Int.natCast_add, Int.mul_add]
    omega
  · rw [if_neg h, if_neg (fun h2 => h ((hasC_nat b e q).1 h2))]
    simp
theorem mx_nat (b : Nat) : mx 0 (b : Int) = (b : Int) := by unfold mx; omega
theorem split_row (n : Nat) (hn : n ≤ 17592186044416) (g : Nat → Int) (hg : ∀ q, 0 ≤ g q ∧ g q ≤ 100000000000000) (r : List S45) (hr : RunsOk r) (hl : r.length ≤ 17592186044417) (x13 : List S45) (x62 : List (List S45)) (x63 x64 : Int)
    (hnext : EvT fun k => colophonlaw16_PickSplits.l0 k x13 (mkL n (byRuns g 1 r)) x62 x63 (wrap64 (x64 + 1))) : ∀ (d i : Nat), r.length - i = d → i ≤ r.length →
    EvT fun k => colophonlaw16_PickSplits.l1 k x13 (mkL n (byRuns g 1 (r.take i))) x62 x63 x64 r (r.length : Int) (i : Int) := by
  intro d
  induction d with
  | zero =>
    intro i hd hi
    refine hnext.succ fun k => ?_
    simp only [colophonlaw16_PickSplits.l1]
    rw [if_neg (by omega), List.take_of_length_le (by omega)]
  | succ d ih =>
    intro i hd hi
    have hlt : i < r.length := by omega
    have h1 := ih (i + 1) (by omega) (by omega)
    obtain ⟨b, e, hx, hbe, he⟩ := hr r[i] (List.getElem_mem hlt)
    rw [List.take_succ_eq_append_getElem hlt, hx, ← byRuns_step] at h1
    have hb : ∀ q, 0 ≤ byRuns g 1 (r.take i) q ∧ byRuns g 1 (r.take i) q ≤ 1000000000000000 := fun q => by
      have h2 := cntC_le (r.take i) q
      have h3 := hg q
      have h4 : (r.take i).length ≤ r.length := by simp; omega
      unfold byRuns
      omega
    have h2 := split_in n hn _ hb b e hbe he x13 x62 x63 x64 r (r.length : Int) (i : Int) (b : Int) (by rw [wr1 (by omega)]; exact h1) (e - b) b rfl (Nat.le_refl _) hbe
    have e0 : mkL n (upTo (byRuns g 1 (r.take i)) 1 b b) = mkL n (byRuns g 1 (r.take i)) := mkL_congr fun q _ => by
      unfold upTo
      rw [if_neg (by omega), Int.add_zero]
    rw [e0] at h2
    refine h2.succ fun k => ?_
    simp only [colophonlaw16_PickSplits.l1, rd_S2 hlt, hx, mx_nat]
    rw [if_pos (by omega), if_pos (by omega), if_pos (by omega)]
theorem split_whole (n : Nat) (hn : n ≤ 17592186044416) (g : Nat → Int) (hg : ∀ q, 0 ≤ g q ∧ g q ≤ 100000000000000) (r : List S45) (hr : RunsOk r) (hl : r.length ≤ 17592186044417)
    (hnext : EvT fun k => colophonlaw16_PickSplits.l5 k (mkL n (byRuns g 10 r)) (n : Int) 0) : ∀ (d i : Nat), r.length - i = d → i ≤ r.length →
    EvT fun k => colophonlaw16_PickSplits.l3 k (mkL n (byRuns g 10 (r.take i))) r (r.length : Int) (i : Int) := by
  intro d
  induction d with
  | zero =>
    intro i hd hi
    refine hnext.succ fun k => ?_
    simp only [colophonlaw16_PickSplits.l3]
    rw [if_neg (by omega), List.take_of_length_le (by omega), mkL_len]
  | succ d ih =>
    intro i hd hi
    have hlt : i < r.length := by omega
    have h1 := ih (i + 1) (by omega) (by omega)
    obtain ⟨b, e, hx, hbe, he⟩ := hr r[i] (List.getElem_mem hlt)
    rw [List.take_succ_eq_append_getElem hlt, hx, ← byRuns_step] at h1
    have hb : ∀ q, 0 ≤ byRuns g 10 (r.take i) q ∧ byRuns g 10 (r.take i) q ≤ 1000000000000000 := fun q => by
      have h2 := cntC_le (r.take i) q
      have h3 := hg q
      have h4 : (r.take i).length ≤ r.length := by simp; omega
      unfold byRuns
      omega
    have h2 := split_in4 n hn _ hb b e hbe he r (r.length : Int) (i : Int) (b : Int) (by rw [wr1 (by omega)]; exact h1) (e - b) b rfl (Nat.le_refl _) hbe
    have e0 : mkL n (upTo (byRuns g 10 (r.take i)) 10 b b) = mkL n (byRuns g 10 (r.take i)) := mkL_congr fun q _ => by
      unfold upTo
      rw [if_neg (by omega), Int.add_zero]
    rw [e0] at h2
    refine h2.succ fun k => ?_
    simp only [colophonlaw16_PickSplits.l3, rd_S2 hlt, hx, mx_nat]
    rw [if_pos (by omega), if_pos (by omega), if_pos (by omega)]
theorem split_end (n : Nat) (hn : n ≤ 17592186044416) (g : Nat → Int) (hg : ∀ q, q < n → g q = 0 ∨ g q = 11) : ∀ (d i : Nat), n - i = d → i ≤ n → EvT fun k => colophonlaw16_PickSplits.l5 k (mkL n g) (n : Int) (i : Int) := by
  have hl := mkL_len n g
  intro d
  induction d with
  | zero =>
    intro i hd hi
    refine ⟨1, fun k hk => ?_⟩
    obtain ⟨k, rfl⟩ : ∃ m, k = m + 1 := ⟨k - 1, by omega⟩
    simp only [colophonlaw16_PickSplits.l5]
    rw [if_neg (by omega)]
  | succ d ih =>
    intro i hd hi
    have hlt : i < n := by omega
    refine (ih (i + 1) (by omega) (by omega)).succ fun k => ?_
    simp only [colophonlaw16_PickSplits.l5, mkL_rd g hlt]
    rw [if_pos (by omega), if_pos (by omega), if_pos (by omega), wr1 (by omega)]
    rcases hg i hlt with h | h
    · rw [if_pos h]
    · rw [if_neg (by omega), if_pos h]
def noMarks (_ : Nat) : Int := 0
theorem split_all (L : List Int) (hL : L.length ≤ 17592186043904) (a b c : Int) (h1 : a ≤ b) (h2 : b ≤ c) :
    EvT fun k => colophonlaw16_PickSplits.j0 k L (strs (ordered L) a b) (strs (ordered L) b c) (strs (ordered L) a c) 0 false := by
  have hol := ord_len L
  have lx := strs_len (ordered L) a b
  have ly := strs_len (ordered L) b c
  have lz := strs_len (ordered L) a c
  have ox := chain_ok (ordered L) a b (by omega) _ _ (strs_chain (ordered L) a b)
  have oy := chain_ok (ordered L) b c (by omega) _ _ (strs_chain (ordered L) b c)
  have oz := chain_ok (ordered L) a c (by omega) _ _ (strs_chain (ordered L) a c)
  have cx := strs_cover (ordered L) a b
  have cy := strs_cover (ordered L) b c
  have cz := strs_cover (ordered L) a c
  have hsum : ∀ q, byRuns (byRuns (byRuns noMarks 1 (strs (ordered L) a b)) 1 (strs (ordered L) b c)) 10 (strs (ordered L) a c) q = 0 ∨ byRuns (byRuns (byRuns noMarks 1 (strs (ordered L) a b)) 1 (strs (ordered L) b c)) 10 (strs (ordered L) a c) q = 11 := fun q => by
    unfold byRuns
    rw [cx q, cy q, cz q]
    by_cases hq : q < (ordered L).length
    · have e1 : mk (ordered L) a b q ↔ a ≤ (ordered L).getD q 0 ∧ (ordered L).getD q 0 < b := by simp [mk, inB, hq]
      have e2 : mk (ordered L) b c q ↔ b ≤ (ordered L).getD q 0 ∧ (ordered L).getD q 0 < c := by simp [mk, inB, hq]
      have e3 : mk (ordered L) a c q ↔ a ≤ (ordered L).getD q 0 ∧ (ordered L).getD q 0 < c := by simp [mk, inB, hq]
      simp only [e1, e2, e3]
      generalize (ordered L).getD q 0 = v
      by_cases g1 : a ≤ v ∧ v < b
      · rw [if_pos g1, if_neg (by omega), if_pos (by omega)]
        exact .inr rfl
      · by_cases g2 : b ≤ v ∧ v < c
        · rw [if_neg g1, if_pos g2, if_pos (by omega)]
          exact .inr rfl
        · rw [if_neg g1, if_neg g2, if_neg (by omega)]
          exact .inl rfl
    · rw [if_neg (fun h => hq h.1), if_neg (fun h => hq h.1), if_neg (fun h => hq h.1)]
      exact .inl rfl
  have g0 : ∀ q : Nat, (0 : Int) ≤ noMarks q ∧ noMarks q ≤ 100000000000000 := fun q => by have h0 : noMarks q = 0 := rfl; omega
  have gx : ∀ q, 0 ≤ byRuns noMarks 1 (strs (ordered L) a b) q ∧ byRuns noMarks 1 (strs (ordered L) a b) q ≤ 100000000000000 := fun q => by
    have := cntC_le (strs (ordered L) a b) q
    have h0 : noMarks q = 0 := rfl
    unfold byRuns
    omega
  have gy : ∀ q, 0 ≤ byRuns (byRuns noMarks 1 (strs (ordered L) a b)) 1 (strs (ordered L) b c) q ∧ byRuns (byRuns noMarks 1 (strs (ordered L) a b)) 1 (strs (ordered L) b c) q ≤ 100000000000000 := fun q => by
    have h1 := cntC_le (strs (ordered L) a b) q
    have h0 : noMarks q = 0 := rfl
    have h2 := cntC_le (strs (ordered L) b c) q
    unfold byRuns
    omega
  have s5 := split_end L.length (by omega) _ (fun q _ => hsum q) L.length 0 (by omega) (by omega)
  have s3 := split_whole L.length (by omega) _ gy (strs (ordered L) a c) oz (by omega) s5 _ 0 rfl (by omega)
  rw [List.take_zero, byRuns_nil] at s3
  -- behind the two rows
  have t2 : EvT fun k => colophonlaw16_PickSplits.l0 k (strs (ordered L) a c) (mkL L.length (byRuns (byRuns noMarks 1 (strs (ordered L) a b)) 1 (strs (ordered L) b c))) [strs (ordered L) a b, strs (ordered L) b c] 2 2 := by
    refine s3.succ fun k => ?_
    simp only [colophonlaw16_PickSplits.l0]
    rw [if_neg (by omega)]
    rfl
  have r2 := split_row L.length (by omega) _ gx (strs (ordered L) b c) oy (by omega) (strs (ordered L) a c) [strs (ordered L) a b, strs (ordered L) b c] 2 1 (by
    have : wrap64 (1 + 1) = 2 := by unfold wrap64; omega
    rw [this]
    exact t2) _ 0 rfl (by omega)
  rw [List.take_zero, byRuns_nil] at r2
  have t1 : EvT fun k => colophonlaw16_PickSplits.l0 k (strs (ordered L) a c) (mkL L.length (byRuns noMarks 1 (strs (ordered L) a b))) [strs (ordered L) a b, strs (ordered L) b c] 2 1 := by
    refine r2.succ fun k => ?_
    simp only [colophonlaw16_PickSplits.l0]
    rw [if_pos (by omega), if_pos (by omega), if_pos (by simp)]
    rfl
  have r1 := split_row L.length (by omega) _ g0 (strs (ordered L) a b) ox (by omega) (strs (ordered L) a c) [strs (ordered L) a b, strs (ordered L) b c] 2 0 (by
    have : wrap64 (0 + 1) = 1 := by unfold wrap64; omega
    rw [this]
    exact t1) _ 0 rfl (by omega)
  rw [List.take_zero, byRuns_nil] at r1
  have t0 : EvT fun k => colophonlaw16_PickSplits.l0 k (strs (ordered L) a c) (mkL L.length noMarks) [strs (ordered L) a b, strs (ordered L) b c] 2 0 := by
    refine r1.succ fun k => ?_
    simp only [colophonlaw16_PickSplits.l0]
    rw [if_pos (by omega), if_pos (by omega), if_pos (by simp)]
    rfl
  refine t0.succ fun k => ?_
  have er : List.replicate L.length (0 : Int) = mkL L.length noMarks := by
    apply List.ext_getElem
    · simp [mkL]
    · intro i h1 h2
      simp [mkL, noMarks]
  simp only [colophonlaw16_PickSplits.j0]
  rw [if_neg (by decide), if_pos trivial, if_pos (by omega), if_pos (by omega), Option.bind_some, Int.toNat_natCast, er]
  rfl
theorem splits_true (k : Nat) (L : List Int) (x y z : List S45) (e : Int) : colophonlaw16_PickSplits.j0 (k + 1) L x y z e true = some true := by
  simp only [colophonlaw16_PickSplits.j0]
  rw [if_pos trivial]
theorem PickSplits : colophonlaw16_PickSplits.Pure := by
  intro L a b c _ hy _ _ _ _
  unfold colophonlaw16_PickSplits.f
  by_cases hf : L.all fineB = true
  · by_cases h1 : a < 0 ∨ (L.length : Int) < b ∨ b < a
    · refine ⟨1000, ?_⟩
      rw [works16 (by omega), Option.bind_some, if_pos rfl, own_pruns (by omega), own_pruns (by omega), own_pruns (by omega)]
      simp only [Option.bind_some]
      unfold runsPair
      simp only [if_pos hf]
      rw [if_pos h1, if_neg (by decide)]
      exact splits_true 999 _ _ _ _ _
    · by_cases h2 : b < 0 ∨ (L.length : Int) < c ∨ c < b
      · refine ⟨1000, ?_⟩
        rw [works16 (by omega), Option.bind_some, if_pos rfl, own_pruns (by omega), own_pruns (by omega), own_pruns (by omega)]
        simp only [Option.bind_some]
        unfold runsPair
        simp only [if_pos hf]
        rw [if_neg h1, if_pos rfl, if_pos h2]
        exact splits_true 999 _ _ _ _ _
      · have h3 : ¬ (a < 0 ∨ (L.length : Int) < c ∨ c < a) := by omega
        obtain ⟨K, hK⟩ := split_all L (by omega) a b c (by omega) (by omega)
        refine ⟨K + 1000, ?_⟩
        rw [works16 (by omega), Option.bind_some, if_pos rfl, own_pruns (by omega), own_pruns (by omega), own_pruns (by omega)]
        simp only [Option.bind_some]
        unfold runsPair
        simp only [if_pos hf]
        rw [if_neg h1, if_pos rfl, if_neg h2, if_neg h3]
        exact hK (K + 1000) (by omega)
  · refine ⟨1000, ?_⟩
    rw [works16 (by omega), Option.bind_some, if_pos rfl, own_pruns (by omega), own_pruns (by omega), own_pruns (by omega)]
    simp only [Option.bind_some]
    unfold runsPair
    simp only [if_neg hf]
    rw [if_neg (by decide)]
    exact splits_true 999 _ _ _ _ _
end Go.Proofs.Ytccleelhheilnaa.Pure
