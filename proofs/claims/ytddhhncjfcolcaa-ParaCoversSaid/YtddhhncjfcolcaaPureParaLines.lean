/- ParaLines, over numbers and lists alone: the cuts taken one by one are the cuts taken in two looks. -/
import Derived.Test.YtddhhncjfcolcaaFx6
import Derived.OpenShut
namespace Go.Proofs.Ytddhhncjfcolcaa.Pure
open Go.RowKit Go.Proofs.Ytddhhncjfcolcaa.F Go.Proofs.YtddhhncjfcolcaaW.PrintWords Go.Proofs.YtddhhncjfcolcaaW.PrintLast

theorem wr1 {i : Nat} (h : i ≤ 281474976710656) : wrap64 ((i : Int) + 1) = ((i + 1 : Nat) : Int) := by unfold wrap64; omega
theorem wm1 {i : Nat} (h : i ≤ 281474976710656) : wrap64 (((i + 1 : Nat) : Int) - 1) = (i : Int) := by unfold wrap64; omega
theorem rd_at {l : List Int} {i : Nat} (h : i < l.length) : rd l (i : Int) = l[i] := by
  simp only [rd, Int.toNat_natCast, List.getD_eq_getElem?_getD, List.getElem?_eq_getElem h, Option.getD_some]

theorem rd_row (s e : Int) (l : List Int) {i : Nat} (h : i ≤ l.length) : rd (s :: (l ++ [e])) (i : Int) = (s :: l).getD i 0 := by
  simp only [rd, Int.toNat_natCast, List.getD_eq_getElem?_getD]
  rw [← List.cons_append, List.getElem?_append_left (by simp only [List.length_cons]; omega)]
/-- The cuts, from a start at `s`, below `e`: each above the last. -/
def good : Int → Int → List Int → Bool
  | _, _, [] => true
  | s, e, x :: l => decide (s < x) && decide (x < e) && good x e l
/-- The lines that good cuts make. -/
def lines : Int → Int → List Int → List S38
  | s, e, [] => [⟨s, e⟩]
  | s, e, x :: l => ⟨s, x⟩ :: lines x e l
def answer (s e : Int) (l : List Int) : List S38 × Int := if good s e l = true then (lines s e l, 0) else ([], 50)

theorem good_len : ∀ (l : List Int) (s e : Int), good s e l = true → s ≤ e → (l.length : Int) ≤ e - s
  | [], s, e, _, h => by simp only [List.length_nil]; omega
  | x :: l, s, e, h, hs => by
    simp only [good, Bool.and_eq_true, decide_eq_true_eq] at h
    have := good_len l x e h.2 (by omega)
    simp only [List.length_cons]
    omega

/-- The loop of the own lines: `acc` holds at most as many lines as `s` has steps. -/
theorem own_loop (e : Int) (he : e ≤ 1099511627776) (L : List Int) (hL : L.length ≤ 281474976710656) : ∀ (d k i : Nat) (acc : List S38) (s : Int), L.length - i = d → i ≤ L.length → d < k → (acc.length : Int) ≤ s → s ≤ e →
    para_Lines.l0 k e acc s L (L.length : Int) (i : Int) = some (if good s e (L.drop i) = true then (acc ++ lines s e (L.drop i), 0) else ([], 50)) := by
  intro d
  induction d with
  | zero =>
    intro k i acc s hd hi hk ha hs
    obtain ⟨k, rfl⟩ : ∃ m, k = m + 1 := ⟨k - 1, by omega⟩
    simp only [para_Lines.l0]
    rw [if_neg (by omega), if_pos (by omega), List.drop_eq_nil_of_le (by omega)]
    rfl
  | succ d ih =>
    intro k i acc s hd hi hk ha hs
    obtain ⟨k, rfl⟩ : ∃ m, k = m + 1 := ⟨k - 1, by omega⟩
    have hlt : i < L.length := by omega
    simp only [para_Lines.l0, rd_at hlt]
    rw [if_pos (by omega), if_pos (by omega), if_pos (by omega), wr1 (by omega), List.drop_eq_getElem_cons hlt]
    by_cases h1 : L[i] ≤ s
    · rw [if_pos h1, if_neg (by simp [good]; omega)]
    · rw [if_neg h1]
      by_cases h2 : L[i] ≥ e
      · rw [if_pos h2, if_neg (by simp [good]; omega)]
      · rw [if_neg h2, if_pos (by omega), ih k (i + 1) _ _ (by omega) (by omega) (by omega) (by simp only [List.length_append, List.length_cons, List.length_nil]; omega) (by omega)]
        have : good s e (L[i] :: L.drop (i + 1)) = good L[i] e (L.drop (i + 1)) := by
          simp only [good, decide_eq_true (show s < L[i] by omega), decide_eq_true (show L[i] < e by omega), Bool.true_and]
        rw [this]
        simp only [lines, List.append_assoc, List.singleton_append]

/-- The reference's first look: at the cuts alone, which lie in `Y` between the start and the end. -/
theorem ref_look (e : Int) (l : List Int) (s : Int) (Y : List Int) (hY : Y = s :: (l ++ [e])) (hL : Y.length ≤ 281474976710656) (r : List S38 × Int) :
    ∀ (d k i : Nat) (t : Int), l.length - i = d → i ≤ l.length → d < k → t = (s :: l).getD i 0 →
      (good t e (l.drop i) = true → ∀ k', k ≤ k' + d + 1 → colophonref05_Lines.l1 k' Y [] 1 = some r) →
      colophonref05_Lines.l0 k e Y ((i + 1 : Nat) : Int) = some (if good t e (l.drop i) = true then r else ([], 50)) := by
  have hYl : Y.length = l.length + 2 := by rw [hY]; simp
  intro d
  induction d with
  | zero =>
    intro k i t hd hi hk ht H
    obtain ⟨k, rfl⟩ : ∃ m, k = m + 1 := ⟨k - 1, by omega⟩
    simp only [colophonref05_Lines.l0]
    rw [wr1 (by omega), if_neg (by omega)]
    have hg : good t e (l.drop i) = true := by rw [List.drop_eq_nil_of_le (by omega)]; rfl
    rw [if_pos hg]
    exact H hg k (by omega)
  | succ d ih =>
    intro k i t hd hi hk ht H
    obtain ⟨k, rfl⟩ : ∃ m, k = m + 1 := ⟨k - 1, by omega⟩
    have hlt : i < l.length := by omega
    have r1 : rd Y ((i + 1 : Nat) : Int) = l[i] := by
      rw [rd_at (by omega)]
      subst hY
      simp only [List.getElem_cons_succ]
      rw [List.getElem_append_left hlt]
    have r0 : rd Y (i : Int) = t := by
      rw [hY, rd_row s e l hi, ht]
    simp only [colophonref05_Lines.l0]
    rw [wr1 (by omega), wm1 (by omega), if_pos (by omega), if_pos (by omega), if_pos (by omega), if_pos (by omega), if_pos (by omega), r1, r0, List.drop_eq_getElem_cons hlt]
    by_cases h1 : l[i] ≤ t
    · rw [if_pos h1, if_neg (by simp [good]; omega)]
    · rw [if_neg h1]
      by_cases h2 : l[i] ≥ e
      · rw [if_pos h2, if_neg (by simp [good]; omega)]
      · rw [if_neg h2]
        have hg : good t e (l[i] :: l.drop (i + 1)) = good l[i] e (l.drop (i + 1)) := by
          simp only [good, decide_eq_true (show t < l[i] by omega), decide_eq_true (show l[i] < e by omega), Bool.true_and]
        rw [hg]
        refine ih k (i + 1) l[i] (by omega) (by omega) (by omega) ?_ ?_
        · rw [List.getD_eq_getElem?_getD, List.getElem?_eq_getElem (by simp; omega), Option.getD_some]
          rfl
        · intro hgg k' hk'
          refine H ?_ k' (by omega)
          rw [List.drop_eq_getElem_cons hlt, hg]
          exact hgg

/-- The reference's second look: the pairs of neighbours. -/
theorem ref_pairs (e : Int) (l : List Int) (s : Int) (Y : List Int) (hY : Y = s :: (l ++ [e])) (hL : Y.length ≤ 8796093022208) :
    ∀ (d k i : Nat) (t : Int) (acc : List S38), l.length - i = d → i ≤ l.length → d + 1 < k → t = (s :: l).getD i 0 → acc.length ≤ i →
      colophonref05_Lines.l1 k Y acc ((i + 1 : Nat) : Int) = some (acc ++ lines t e (l.drop i), 0) := by
  have hYl : Y.length = l.length + 2 := by rw [hY]; simp
  intro d
  induction d with
  | zero =>
    intro k i t acc hd hi hk ht ha
    obtain ⟨k, rfl⟩ : ∃ m, k = m + 2 := ⟨k - 2, by omega⟩
    obtain rfl : i = l.length := by omega
    have r1 : rd Y ((l.length + 1 : Nat) : Int) = e := by
      rw [rd_at (by omega)]
      subst hY
      simp
    have r0 : rd Y ((l.length : Nat) : Int) = t := by
      rw [hY, rd_row s e l hi, ht]
    simp only [colophonref05_Lines.l1]
    rw [wr1 (by omega), wm1 (by omega), if_pos (by omega), if_pos (by omega), if_pos (by omega), if_pos (by omega), if_pos (by omega), if_neg (by omega), r1, r0, List.drop_eq_nil_of_le (by omega)]
    rfl
  | succ d ih =>
    intro k i t acc hd hi hk ht ha
    obtain ⟨k, rfl⟩ : ∃ m, k = m + 1 := ⟨k - 1, by omega⟩
    have hlt : i < l.length := by omega
    have r1 : rd Y ((i + 1 : Nat) : Int) = l[i] := by
      rw [rd_at (by omega)]
      subst hY
      simp only [List.getElem_cons_succ]
      rw [List.getElem_append_left hlt]
    have r0 : rd Y (i : Int) = t := by
      rw [hY, rd_row s e l hi, ht]
    simp only [colophonref05_Lines.l1]
    rw [wr1 (by omega), wm1 (by omega), if_pos (by omega), if_pos (by omega), if_pos (by omega), if_pos (by omega), if_pos (by omega), r1, r0, List.drop_eq_getElem_cons hlt,
      ih k (i + 1) l[i] _ (by omega) (by omega) (by omega) ?_ (by simp only [List.length_append, List.length_cons, List.length_nil]; omega)]
    · simp only [lines, List.append_assoc, List.singleton_append]
    · rw [List.getD_eq_getElem?_getD, List.getElem?_eq_getElem (by simp; omega), Option.getD_some]
      rfl

theorem same_loop (L : List S38) (hL : L.length ≤ 281474976710656) : ∀ (d k i : Nat), L.length - i = d → i ≤ L.length → d < k → colophonref05_Same.l0 k L L (i : Int) = some true := by
  intro d
  induction d with
  | zero =>
    intro k i hd hi hk
    obtain ⟨k, rfl⟩ : ∃ m, k = m + 1 := ⟨k - 1, by omega⟩
    simp only [colophonref05_Same.l0]
    rw [if_neg (by omega)]
  | succ d ih =>
    intro k i hd hi hk
    obtain ⟨k, rfl⟩ : ∃ m, k = m + 1 := ⟨k - 1, by omega⟩
    simp only [colophonref05_Same.l0]
    rw [if_pos (by omega), if_pos (by omega), if_pos (by omega), if_neg (by simp), wr1 (by omega)]
    exact ih k (i + 1) (by omega) (by omega) (by omega)
theorem same_self (L : List S38) (hL : L.length ≤ 281474976710656) (k : Nat) (hk : L.length < k) : colophonref05_Same.f k L L = some true := by
  unfold colophonref05_Same.f
  rw [if_pos rfl]
  exact same_loop L hL L.length k 0 (by omega) (by omega) (by omega)

theorem kept_loop (x8 x10 : List S38) (x9 x11 : Int) (L : List Int) (hL : L.length ≤ 281474976710656) (b : Bool) :
    ∀ (d k i : Nat), L.length - i = d → i ≤ L.length → d < k →
      (∀ k', k ≤ k' + d + 1 → ((para_Lines.f k' 0 1 ([] : List Int)).bind fun bt151 => ((colophonlaw05_names.f).bind fun t155 => (if t155 = true then ((colophonref05_Same.f k' x8 x10).bind fun t156 => (if t156 = true then (if x9 = x11 then (if bt151.2 = 0 then ((colophonref05_Same.f k' bt151.1 (([(⟨0, 1⟩ : S38)] : List (S38)))).bind fun t160 => (some t160)) else (some false)) else (some false)) else (some false))) else (some false)))) = some b) →
      colophonlaw05_ParaLines.l0 k L L x8 x9 x10 x11 (L.length : Int) (i : Int) = some b := by
  intro d
  induction d with
  | zero =>
    intro k i hd hi hk H
    obtain ⟨k, rfl⟩ : ∃ m, k = m + 1 := ⟨k - 1, by omega⟩
    simp only [colophonlaw05_ParaLines.l0]
    rw [if_neg (by omega)]
    exact H k (by omega)
  | succ d ih =>
    intro k i hd hi hk H
    obtain ⟨k, rfl⟩ : ∃ m, k = m + 1 := ⟨k - 1, by omega⟩
    simp only [colophonlaw05_ParaLines.l0]
    rw [if_pos (by omega), if_pos (by omega), if_pos (by omega), if_pos (by omega), if_pos trivial, wr1 (by omega)]
    exact ih k (i + 1) (by omega) (by omega) (by omega) (fun k' hk' => H k' (by omega))

theorem lines_len : ∀ (l : List Int) (s e : Int), (lines s e l).length = l.length + 1
  | [], _, _ => rfl
  | x :: l, s, e => by simp [lines, lines_len l x e]

/-- What both tell. -/
def told (s e : Int) (l : List Int) : List S38 × Int := if s < 0 ∨ e > 1099511627776 ∨ e < s then ([], 4) else answer s e l

theorem own_told (s e : Int) (l : List Int) (hl : l.length ≤ 17592186044000) (k : Nat) (hk : l.length + 1 < k) : para_Lines.f k s e l = some (told s e l) := by
  obtain ⟨k, rfl⟩ : ∃ m, k = m + 1 := ⟨k - 1, by omega⟩
  unfold para_Lines.f told
  simp only [para_Lines.j0]
  by_cases h1 : s < 0
  · rw [if_pos h1, if_pos trivial, if_pos (Or.inl h1)]
  · rw [if_neg h1]
    by_cases h2 : s > e
    · rw [if_pos h2, if_pos trivial, if_pos (by omega)]
    · rw [if_neg h2]
      by_cases h3 : e > 1099511627776
      · rw [if_pos (by simpa using h3), if_pos (by omega)]
      · rw [if_neg (by simpa using h3), if_neg (by omega)]
        have := own_loop e (by omega) l (by omega) l.length k 0 [] s (by omega) (by omega) (by omega) (by simp only [List.length_nil]; omega) (by omega)
        simpa [answer] using this

theorem ref_told (s e : Int) (l : List Int) (hl : l.length ≤ 17592186044000) (k : Nat) (hk : 2 * l.length + 10 < k) : colophonref05_Lines.f k s e l = some (told s e l) := by
  obtain ⟨k, rfl⟩ : ∃ m, k = m + 1 := ⟨k - 1, by omega⟩
  unfold colophonref05_Lines.f told
  simp only [colophonref05_Lines.j0]
  by_cases h1 : s < 0
  · rw [if_pos h1, if_pos trivial, if_pos (Or.inl h1)]
  · rw [if_neg h1]
    by_cases h2 : e > 1099511627776
    · rw [if_pos h2, if_pos trivial, if_pos (by omega)]
    · rw [if_neg h2]
      by_cases h3 : e < s
      · rw [if_pos (by simpa using h3), if_pos (by omega)]
      · rw [if_neg (by simpa using h3), if_neg (by omega)]
        simp only [Option.bind_some]
        rw [if_pos (by simp only [List.length_cons, List.length_nil]; omega), if_pos (by simp only [List.length_cons, List.length_append, List.length_nil]; omega)]
        have hY : ([s] ++ l) ++ [e] = s :: (l ++ [e]) := by simp
        have := ref_look e l s _ hY (by simp only [List.length_cons, List.length_append, List.length_nil]; omega) (lines s e l, 0) l.length k 0 s (by omega) (by omega) (by omega) rfl ?_
        · simpa [answer] using this
        · intro hg k' hk'
          rw [List.drop_zero] at hg
          have hb := good_len l s e hg (by omega)
          have := ref_pairs e l s _ hY (by simp only [List.length_cons, List.length_append, List.length_nil]; omega) l.length k' 0 s [] (by omega) (by omega) (by omega) rfl (by simp)
          simpa using this

theorem told_len (s e : Int) (l : List Int) : (told s e l).1.length ≤ l.length + 1 := by
  unfold told answer
  split
  · simp
  · split
    · simp [lines_len]
    · simp

theorem ParaLines : colophonlaw05_ParaLines.Pure := by
  intro a0 a1 l2 w0 w1 h1 h2 h3
  refine ⟨4 * l2.length + 100, ?_⟩
  unfold colophonlaw05_ParaLines.f
  simp only [Option.bind_some]
  have hl : l2.length ≤ 17592186044000 := by omega
  rw [if_pos (by simp only [List.length_nil]; omega)]
  simp only [List.nil_append]
  rw [own_told a0 a1 l2 hl _ (by omega), ref_told a0 a1 l2 hl _ (by omega)]
  simp only [Option.bind_some]
  refine kept_loop _ _ _ _ l2 (by omega) true l2.length _ 0 (by omega) (by omega) (by omega) ?_
  intro k' hk'
  have hn := told_len a0 a1 l2
  rw [own_told 0 1 [] (by simp) k' (by simp only [List.length_nil]; omega), same_self _ (by omega) k' (by omega)]
  have e1 : told 0 1 [] = ([⟨0, 1⟩], 0) := by simp [told, answer, good, lines]
  rw [e1]
  simp only [Option.bind_some, colophonlaw05_names.f]
  rw [if_pos trivial, same_self _ (by simp) k' (by simp only [List.length_cons, List.length_nil]; omega)]
  simp
end Go.Proofs.Ytddhhncjfcolcaa.Pure
