/- OrderLines, over lists alone: the document's levels of a line are the program's. -/
import Derived.Test.YtccleelhheilnaaFx7
import Derived.Test.YtccleelhheilnaaW13T
namespace Go.Proofs.Ytccleelhheilnaa.Pure
set_option linter.unusedVariables false
set_option linter.unusedSimpArgs false
open Go.RowKit Go.Proofs.Ytccleelhheilnaa.F Go.Proofs.YtccleelhheilnaaW.PrintWords Go.Proofs.YtccleelhheilnaaW.PrintLast

theorem ref_loose (x : Int) : colophonref13_loose.f x = some (looseB x) := by
  unfold colophonref13_loose.f looseB
  by_cases e1 : x = 13
  · rw [if_pos e1, decide_eq_true (.inl e1)]
  · rw [if_neg e1]
    by_cases e2 : x = 20
    · rw [if_pos e2, decide_eq_true (.inr (by omega))]
    · rw [if_neg e2]
      by_cases e3 : x = 21
      · rw [if_pos e3, decide_eq_true (.inr (by omega))]
      · rw [if_neg e3]
        by_cases e4 : x = 22
        · rw [if_pos e4, decide_eq_true (.inr (by omega))]
        · rw [if_neg e4]
          congr 1
          by_cases e5 : x = 23
          · rw [decide_eq_true (.inr (by omega))]
            simpa using e5
          · rw [decide_eq_false (by omega)]
            simpa using e5
theorem rd_gd (l : List Int) (i : Nat) : rd l (i : Int) = F.gd l i := by simp only [rd, F.gd, Int.toNat_natCast]
theorem ref_resets_loop (c L : List Int) (te : Nat) (h1 : te ≤ c.length) (h2 : c.length = L.length) (hl : L.length ≤ 1000) : ∀ (d k i : Nat), te - i = d → i ≤ te → 2 * d + 2 < k →
    colophonref13_resets.l0 k c L (te : Int) (i : Int) = some (rstF c L i (te - i)) := by
  intro d
  induction d with
  | zero =>
    intro k i hd hi hk
    obtain ⟨k, rfl⟩ : ∃ m, k = m + 1 := ⟨k - 1, by omega⟩
    simp only [colophonref13_resets.l0]
    rw [if_neg (by omega), hd]
    rfl
  | succ d ih =>
    intro k i hd hi hk
    obtain ⟨k, rfl⟩ : ∃ m, k = m + 2 := ⟨k - 2, by omega⟩
    have hnext := ih k (i + 1) (by omega) (by omega) (by omega)
    have hlt : i < te := by omega
    simp only [colophonref13_resets.l0, rd_gd]
    rw [if_pos (by omega), if_pos (by omega), if_pos (by omega)]
    have hj : ∀ b : Bool, b = partsB (F.gd c i) → colophonref13_resets.j2 (k + 1) c L (te : Int) (i : Int) b = some (rstF c L i (te - i)) := by
      intro b hb
      subst hb
      simp only [colophonref13_resets.j2, rd_gd]
      by_cases hp : partsB (F.gd c i) = true
      · rw [if_pos hp, rst_parts c L hlt hp]
      · have hpf : partsB (F.gd c i) = false := by simpa using hp
        rw [if_neg hp, if_pos (by omega), if_pos (by omega)]
        by_cases h0 : F.gd L i ≥ 0
        · rw [if_pos h0, if_pos (by omega), ref_loose, Option.bind_some]
          by_cases hs : looseB (F.gd c i) = true
          · rw [if_pos hs, rst_loose c L hlt hpf (by omega) hs, wr1 (by omega)]
            exact hnext
          · rw [if_neg hs, rst_fast c L hlt hpf (by omega) (by simpa using hs)]
        · rw [if_neg h0, rst_unseen c L hlt hpf (by omega), wr1 (by omega)]
          exact hnext
    by_cases h12 : F.gd c i = 12
    · rw [if_pos h12]
      exact hj true (by unfold partsB; rw [decide_eq_true (.inl h12)])
    · rw [if_neg h12]
      refine hj _ ?_
      unfold partsB
      by_cases h11 : F.gd c i = 11
      · rw [decide_eq_true (.inr h11)]
        simpa using h11
      · rw [decide_eq_false (by omega)]
        simpa using h11
theorem ref_resets (c L : List Int) (te i : Nat) (h1 : te ≤ c.length) (h2 : c.length = L.length) (hl : L.length ≤ 1000) (hi : i < te) {k : Nat} (hk : 2 * (te - i) + 4 < k) :
    colophonref13_resets.f k c L (i : Int) (te : Int) = some (rstF c L i (te - i)) := by
  obtain ⟨k, rfl⟩ : ∃ m, k = m + 1 := ⟨k - 1, by omega⟩
  have hloop := ref_resets_loop c L te h1 h2 hl (te - i) k i rfl (by omega) (by omega)
  unfold colophonref13_resets.f
  simp only [rd_gd]
  rw [if_pos (by omega), if_pos (by omega)]
  have hj : ∀ b : Bool, b = partsB (F.gd c i) → colophonref13_resets.j0 (k + 1) c L (i : Int) (te : Int) b = some (rstF c L i (te - i)) := by
    intro b hb
    subst hb
    simp only [colophonref13_resets.j0]
    by_cases hp : partsB (F.gd c i) = true
    · rw [if_pos hp, rst_parts c L hi hp]
    · rw [if_neg hp]
      exact hloop
  by_cases h12 : F.gd c i = 12
  · rw [if_pos h12]
    exact hj true (by unfold partsB; rw [decide_eq_true (.inl h12)])
  · rw [if_neg h12]
    refine hj _ ?_
    unfold partsB
    by_cases h11 : F.gd c i = 11
    · rw [decide_eq_true (.inr h11)]
      simpa using h11
    · rw [decide_eq_false (by omega)]
      simpa using h11
def lineUp (c L : List Int) (base : Int) (fr te i : Nat) : List Int := (List.range (i - fr)).map fun d => lineAt c L base te (fr + d)
theorem lineUp_snoc (c L : List Int) (base : Int) {fr te i : Nat} (h : fr ≤ i) : lineUp c L base fr te (i + 1) = lineUp c L base fr te i ++ [lineAt c L base te i] := by
  unfold lineUp
  have e : i + 1 - fr = (i - fr) + 1 := by omega
  have e2 : fr + (i - fr) = i := by omega
  rw [e, List.range_succ, List.map_append, List.map_cons, List.map_nil, e2]
theorem ref_line_loop (c L : List Int) (base : Int) (fr te : Nat) (h1 : te ≤ c.length) (h2 : c.length = L.length) (hl : L.length ≤ 1000) : ∀ (d k i : Nat), te - i = d → fr ≤ i → i ≤ te → d + 3000 < k →
    colophonref13_Line.l0 k c L base (te : Int) (lineUp c L base fr te i) (i : Int) = some (lineOf c L base fr te, 0) := by
  have hlen : ∀ i, (lineUp c L base fr te i).length = i - fr := fun i => by simp [lineUp]
  intro d
  induction d with
  | zero =>
    intro k i hd hf hi hk
    obtain ⟨k, rfl⟩ : ∃ m, k = m + 1 := ⟨k - 1, by omega⟩
    obtain rfl : i = te := by omega
    simp only [colophonref13_Line.l0]
    rw [if_neg (by omega)]
    rfl
  | succ d ih =>
    intro k i hd hf hi hk
    obtain ⟨k, rfl⟩ : ∃ m, k = m + 1 := ⟨k - 1, by omega⟩
    have hnext := ih k (i + 1) (by omega) (by omega) (by omega) (by omega)
    rw [lineUp_snoc c L base hf] at hnext
    have hll := hlen i
    simp only [colophonref13_Line.l0, rd_gd]
    rw [if_pos (by omega), if_pos (by omega), if_pos (by omega)]
    by_cases h0 : F.gd L i ≥ 0
    · rw [if_pos h0, ref_resets c L te i h1 h2 hl (by omega) (by omega), Option.bind_some]
      by_cases hr : rstF c L i (te - i) = true
      · have e : lineAt c L base te i = base := by unfold lineAt; rw [if_pos ⟨h0, hr⟩]
        rw [e] at hnext
        rw [if_pos hr, if_pos (by omega), wr1 (by omega)]
        exact hnext
      · have e : lineAt c L base te i = F.gd L i := by unfold lineAt; rw [if_neg (fun h => hr h.2)]
        rw [e] at hnext
        rw [if_neg hr, if_pos (by omega), wr1 (by omega)]
        exact hnext
    · have e : lineAt c L base te i = F.gd L i := by unfold lineAt; rw [if_neg (fun h => h0 h.1)]
      rw [e] at hnext
      rw [if_neg h0, if_pos (by omega), wr1 (by omega)]
      exact hnext
theorem ref_formed {L : List Int} (hl : L.length ≤ 1000) {k : Nat} (hk : 2000 < k) : colophonref13_Formed.f k L = some (L.all fineB) := by
  have := ref_formed_loop L (by omega) L.length k 0 (by omega) (by omega) (by omega)
  unfold colophonref13_Formed.f
  simpa using this
def linePair (c L : List Int) (a2 a3 a4 : Int) : List Int × Int := if ¬ c.length = L.length ∨ ¬ (a2 = 0 ∨ a2 = 1) ∨ ¬ L.all fineB = true then ([], 2) else if a3 < 0 ∨ (c.length : Int) < a4 ∨ a4 < a3 then ([], 4) else (lineOf c L a2 a3.toNat a4.toNat, 0)
theorem own_line {c L : List Int} (hl : L.length < 17592186044416) (a2 a3 a4 : Int) : order_Line.f c L a2 a3 a4 = some (linePair c L a2 a3 a4) := by
  unfold order_Line.f linePair
  rw [if_pos hl]
  split
  · rfl
  · split <;> rfl
theorem line_len {c L : List Int} (a2 a3 a4 : Int) : (linePair c L a2 a3 a4).1.length ≤ c.length := by
  unfold linePair
  split
  · exact Nat.zero_le _
  · split
    · exact Nat.zero_le _
    · simp only [lineOf, List.length_map, List.length_range]
      omega
theorem ref_line {c L : List Int} (hl : L.length ≤ 1000) (a2 a3 a4 : Int) {k : Nat} (hk : 9000 < k) : colophonref13_Line.f k c L a2 a3 a4 = some (linePair c L a2 a3 a4) := by
  obtain ⟨k, rfl⟩ : ∃ m, k = m + 2 := ⟨k - 2, by omega⟩
  have err : ∀ h : ¬ c.length = L.length ∨ ¬ (a2 = 0 ∨ a2 = 1) ∨ ¬ L.all fineB = true, colophonref13_Line.j0 (k + 2) c L a2 a3 a4 true = some (linePair c L a2 a3 a4) := by
    intro h
    unfold linePair
    rw [if_pos h]
    simp only [colophonref13_Line.j0]
    rw [if_pos trivial]
  unfold colophonref13_Line.f
  by_cases h1 : c.length = L.length
  · rw [if_pos (by omega)]
    by_cases h2 : a2 < 0
    · rw [if_pos h2]
      exact err (.inr (.inl (by omega)))
    · rw [if_neg h2]
      by_cases h3 : a2 > 1
      · rw [if_pos h3]
        exact err (.inr (.inl (by omega)))
      · rw [if_neg h3, ref_formed hl (by omega), Option.bind_some]
        by_cases h4 : L.all fineB = true
        · rw [h4]
          simp only [colophonref13_Line.j0, Bool.not_true]
          rw [if_neg (by decide)]
          have hbad : ∀ b : Bool, b = decide (a3 < 0 ∨ (c.length : Int) < a4 ∨ a4 < a3) → colophonref13_Line.j1 (k + 1) c L a2 a3 a4 b = some (linePair c L a2 a3 a4) := by
            intro b hb
            unfold linePair
            rw [if_neg (by intro h; rcases h with h | h | h; exact h h1; exact h (by omega); exact h h4)]
            simp only [colophonref13_Line.j1]
            by_cases h5 : a3 < 0 ∨ (c.length : Int) < a4 ∨ a4 < a3
            · rw [if_pos (by rw [hb]; exact decide_eq_true h5), if_pos h5]
            · rw [if_neg (by rw [hb, decide_eq_false h5]; decide), if_neg h5]
              obtain ⟨fr, rfl⟩ : ∃ fr : Nat, a3 = (fr : Int) := ⟨a3.toNat, by omega⟩
              obtain ⟨te, rfl⟩ : ∃ te : Nat, a4 = (te : Int) := ⟨a4.toNat, by omega⟩
              have e : ([] : List Int) = lineUp c L a2 fr te fr := by simp [lineUp]
              rw [e, Int.toNat_natCast, Int.toNat_natCast]
              exact ref_line_loop c L a2 fr te (by omega) h1 hl (te - fr) k fr rfl (Nat.le_refl _) (by omega) (by omega)
          by_cases g1 : a3 < 0
          · rw [if_pos g1]
            exact hbad true (decide_eq_true (.inl g1)).symm
          · rw [if_neg g1]
            by_cases g2 : a4 > (c.length : Int)
            · rw [if_pos g2]
              exact hbad true (decide_eq_true (.inr (.inl g2))).symm
            · rw [if_neg g2]
              refine hbad _ ?_
              by_cases g3 : a3 > a4
              · rw [decide_eq_true g3, decide_eq_true (.inr (.inr g3))]
              · rw [decide_eq_false g3, decide_eq_false (by omega)]
        · have : L.all fineB = false := by simpa using h4
          rw [this]
          exact err (.inr (.inr h4))
  · rw [if_neg (by omega)]
    exact err (.inl h1)
/-- the line written over leaves the rest as it was -/
theorem lines_over (own mine c L : List Int) (a2 a3 a4 : Int) (h1 : own = c) (h2 : mine = L) (hc : c.length ≤ 1000) (hL : L.length ≤ 1000) : ∀ (d k i : Nat) (x : List Int) (n : Nat), n - i = d → i ≤ n → x.length = n → n ≤ 1000 → d + 2000 < k →
    colophonlaw13_OrderLines.l0 k own mine x (n : Int) (i : Int) c L a2 a3 a4 = some true := by
  subst h1 h2
  intro d
  induction d with
  | zero =>
    intro k i x n hd hi hx hn hk
    obtain ⟨k, rfl⟩ : ∃ m, k = m + 1 := ⟨k - 1, by omega⟩
    simp only [colophonlaw13_OrderLines.l0]
    rw [if_neg (by omega), ints_refl _ (by omega) (by omega), Option.bind_some, if_pos rfl, ints_refl _ (by omega) (by omega), Option.bind_some, if_pos rfl, works13 (by omega)]
    rfl
  | succ d ih =>
    intro k i x n hd hi hx hn hk
    obtain ⟨k, rfl⟩ : ∃ m, k = m + 1 := ⟨k - 1, by omega⟩
    simp only [colophonlaw13_OrderLines.l0]
    rw [if_pos (by omega), if_pos (by omega), if_pos (by omega), wr1 (by omega)]
    exact ih k (i + 1) _ n (by omega) (by omega) (by rw [List.length_set]; exact hx) hn (by omega)
theorem lines_true (c L : List Int) (a2 a3 a4 : Int) : colophonlaw13_OrderLines.f 20000 c L a2 a3 a4 = some true := by
  unfold colophonlaw13_OrderLines.f
  have hw : colophonlaw13_OrderLines.j0 20000 true c L a2 a3 a4 = some true := by
    rw [show (20000 : Nat) = 19999 + 1 from rfl]
    simp only [colophonlaw13_OrderLines.j0]
    rw [if_pos trivial, works13 (by decide)]
    rfl
  by_cases h1 : (L.length : Int) > 300
  · rw [if_pos h1]
    exact hw
  · rw [if_neg h1]
    by_cases h2 : (c.length : Int) > 300
    · rw [decide_eq_true h2]
      exact hw
    · rw [decide_eq_false h2, show (20000 : Nat) = 19998 + 2 from rfl]
      have hlen := line_len (c := c) (L := L) a2 a3 a4
      simp only [colophonlaw13_OrderLines.j0, Option.bind_some, List.nil_append]
      rw [if_neg (by decide), if_pos (by simp only [List.length_nil]; omega), if_pos (by simp only [List.length_nil]; omega), own_line (by omega), Option.bind_some, ref_line (by omega) a2 a3 a4 (by omega), Option.bind_some, ints_refl _ (by omega) (by omega), Option.bind_some, if_pos rfl]
      simp only [colophonlaw13_OrderLines.j1]
      rw [if_neg (by simp)]
      exact lines_over c L c L a2 a3 a4 rfl rfl (by omega) (by omega) (linePair c L a2 a3 a4).1.length 19998 0 _ _ (by omega) (by omega) rfl (by omega) (by omega)
end Go.Proofs.Ytccleelhheilnaa.Pure
