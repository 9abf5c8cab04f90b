/- MirrorTwice, over lists alone, of texts of bulk 1048576 at most. -/
import Derived.Test.YtccleelhheilnaaUptoWMirrorTwice
import Derived.Test.YtccleelhheilnaaShowT
import Derived.Test.YtccleelhheilnaaOrdS
import Derived.Test.YtccleelhheilnaaPureMirrorGlyphs
namespace Go.Proofs.Ytccleelhheilnaa.Pure
set_option linter.unusedVariables false
set_option linter.unusedSimpArgs false
open Go.RowKit Go.Proofs.Ytccleelhheilnaa.F Go.Proofs.YtccleelhheilnaaW.PrintWords Go.Proofs.YtccleelhheilnaaW.PrintLast

def sh (l : List Int) (lv : Nat) : List Int := (List.range l.length).map fun i => glyph (rd l (if lv % 2 = 1 then ((l.length - 1 - i : Nat) : Int) else (i : Int))) (lv : Int)
theorem sh_len (l : List Int) (lv : Nat) : (sh l lv).length = l.length := by simp [sh]
theorem rd_rep (n : Nat) (v : Int) {i : Nat} (h : i < n) : rd (List.replicate n v) (i : Int) = v := by
  rw [rd_at (by simpa using h)]
  simp
theorem show_rep (l : List Int) (lv : Nat) (h : lv ≤ 127) : showPair l (List.replicate l.length (lv : Int)) = (sh l lv, 0) := by
  have hf : (List.replicate l.length (lv : Int)).all fineB = true := by
    rw [List.all_eq_true]
    intro x hx
    rw [(List.mem_replicate.1 hx).2]
    simp only [fineB, decide_eq_true_eq]
    omega
  unfold showPair
  rw [if_pos (by simp), if_pos hf, ordered_rep lv l.length h, List.map_map]
  congr 1
  unfold sh
  apply List.map_congr_left
  intro i hi
  have hi := List.mem_range.1 hi
  simp only [Function.comp, shown]
  by_cases ho : lv % 2 = 1
  · rw [if_pos ho, rd_rep l.length (lv : Int) (by omega)]
  · rw [if_neg ho, rd_rep l.length (lv : Int) hi]
theorem sh_even (l : List Int) {lv : Nat} (h : ¬ lv % 2 = 1) : sh l lv = l := by
  apply List.ext_getElem
  · exact sh_len l lv
  · intro i h1 h2
    simp only [sh, List.getElem_map, List.getElem_range]
    rw [if_neg h, glyph_off (by omega), rd_at h2]
theorem sh_at (l : List Int) {lv : Nat} (h : lv % 2 = 1) {i : Nat} (hi : i < l.length) : rd (sh l lv) (i : Int) = glyph (rd l ((l.length - 1 - i : Nat) : Int)) (lv : Int) := by
  rw [rd_at (by rw [sh_len]; exact hi)]
  simp only [sh, List.getElem_map, List.getElem_range]
  rw [if_pos h]
theorem glyph_one (r : Int) {lv : Nat} (h : lv % 2 = 1) : glyph r (lv : Int) = glyph r 1 := by
  unfold glyph
  rw [if_pos (by omega), if_pos (by decide)]
theorem sh_twice (l : List Int) {lv : Nat} (h : lv % 2 = 1) : sh (sh l lv) lv = l := by
  apply List.ext_getElem
  · rw [sh_len, sh_len]
  · intro i h1 h2
    have e : (sh (sh l lv) lv)[i] = glyph (rd (sh l lv) (((sh l lv).length - 1 - i : Nat) : Int)) (lv : Int) := by
      simp only [sh, List.getElem_map, List.getElem_range]
      rw [if_pos h]
    rw [e, sh_len, sh_at l h (by omega), glyph_glyph _ _ _ (by omega) (by omega)]
    have e2 : l.length - 1 - (l.length - 1 - i) = i := by omega
    rw [e2, rd_at h2]
theorem twice_cmp (l : List Int) (lv : Nat) (h : lv % 2 = 1) (hv : lv ≤ 127) (hl : l.length ≤ 1048576) : ∀ (d k i : Nat), l.length - i = d → i ≤ l.length → d + 11000000 < k →
    colophonlaw14_MirrorTwice.l1 k l (List.replicate l.length (lv : Int)) (sh l lv) (l.length : Int) (i : Int) = some true := by
  intro d
  induction d with
  | zero =>
    intro k i hd hi hk
    obtain ⟨k, rfl⟩ : ∃ m, k = m + 1 := ⟨k - 1, by omega⟩
    obtain rfl : i = l.length := by omega
    have hs := show_rep (sh l lv) lv hv
    rw [sh_len, sh_twice l h] at hs
    simp only [colophonlaw14_MirrorTwice.l1]
    rw [if_neg (by omega), own_show (by simp; omega) (by simp; omega), hs, Option.bind_some, if_pos rfl, same_self l (by omega) (by omega)]
    rfl
  | succ d ih =>
    intro k i hd hi hk
    obtain ⟨k, rfl⟩ : ∃ m, k = m + 1 := ⟨k - 1, by omega⟩
    have hnext := ih k (i + 1) (by omega) (by omega) (by omega)
    have hlt : i < l.length := by omega
    have hsl := sh_len l lv
    have e : wrap64 (wrap64 ((l.length : Int) - 1) - (i : Int)) = ((l.length - 1 - i : Nat) : Int) := by
      unfold wrap64
      omega
    have hat := sh_at l h hlt
    rw [glyph_one _ h] at hat
    simp only [colophonlaw14_MirrorTwice.l1, e]
    clear e
    rw [if_pos (by omega), if_pos (by omega), if_pos (by rw [hsl]; omega), if_pos (by omega), if_pos (by omega), own_glyph _ 1 (by omega), Option.bind_some, hat, if_pos rfl, wr1 (by omega)]
    exact hnext
theorem fill_set (n i : Nat) (v : Int) (h : i < n) : (List.replicate i v ++ List.replicate (n - i) (0 : Int)).set i v = List.replicate (i + 1) v ++ List.replicate (n - (i + 1)) 0 := by
  obtain ⟨m, hm⟩ : ∃ m, n - i = m + 1 := ⟨n - i - 1, by omega⟩
  have hm2 : n - (i + 1) = m := by omega
  rw [hm, hm2, List.set_append_right _ _ (by simp), List.length_replicate, Nat.sub_self, List.replicate_succ (n := m), List.set_cons_zero, List.replicate_succ' (n := i), List.append_assoc]
  rfl
theorem twice_fill (l : List Int) (lv : Nat) (hv : lv ≤ 127) (hl : l.length ≤ 1048576) : ∀ (d k i : Nat), l.length - i = d → i ≤ l.length → d + 13000000 < k →
    colophonlaw14_MirrorTwice.l0 k l (lv : Int) (List.replicate i (lv : Int) ++ List.replicate (l.length - i) 0) (l.length : Int) (i : Int) = some true := by
  intro d
  induction d with
  | zero =>
    intro k i hd hi hk
    obtain ⟨k, rfl⟩ : ∃ m, k = m + 2 := ⟨k - 2, by omega⟩
    obtain rfl : i = l.length := by omega
    have hmod : Int.tmod (lv : Int) 2 = ((lv % 2 : Nat) : Int) := by rw [Int.tmod_eq_emod_of_nonneg (by omega)]; rfl
    simp only [colophonlaw14_MirrorTwice.l0]
    rw [if_neg (by omega), Nat.sub_self, List.replicate_zero, List.append_nil, own_show (by simp; omega) (by simp; omega), show_rep l lv hv, Option.bind_some, if_pos rfl]
    simp only [colophonlaw14_MirrorTwice.j1, hmod, sh_len]
    rw [if_neg (by simp)]
    by_cases ho : lv % 2 = 1
    · rw [if_neg (by omega)]
      exact twice_cmp l lv ho hv hl l.length k 0 (by omega) (by omega) (by omega)
    · rw [if_pos (by omega), sh_even l ho, same_self _ (by omega) (by omega)]
      rfl
  | succ d ih =>
    intro k i hd hi hk
    obtain ⟨k, rfl⟩ : ∃ m, k = m + 1 := ⟨k - 1, by omega⟩
    have hnext := ih k (i + 1) (by omega) (by omega) (by omega)
    simp only [colophonlaw14_MirrorTwice.l0]
    rw [if_pos (by omega), if_pos (by omega), if_pos (by simp; omega), Int.toNat_natCast, fill_set l.length i _ (by omega), wr1 (by omega)]
    exact hnext
theorem mod128 (x : Int) : ∃ r : Nat, wrap64 (Int.tmod (IntKind.u64.wrap x) 128) = (r : Int) ∧ r ≤ 127 := by
  have h1 : 0 ≤ IntKind.u64.wrap x := by unfold IntKind.wrap; exact Int.emod_nonneg _ (by decide)
  obtain ⟨y, hy⟩ := Int.eq_ofNat_of_zero_le h1
  rw [hy]
  refine ⟨y % 128, ?_, by omega⟩
  have e : Int.tmod (y : Int) 128 = ((y % 128 : Nat) : Int) := by rw [Int.tmod_eq_emod_of_nonneg (by omega)]; rfl
  rw [e]
  clear e hy h1
  have h3 : y % 128 < 128 := by omega
  generalize y % 128 = z at h3 ⊢
  unfold wrap64
  omega
theorem UMirrorTwice : UptoW.mirrorTwicePureU := by
  intro l a1 _ _ _ _ b0
  refine ⟨20000000, ?_⟩
  unfold colophonlaw14_MirrorTwice.f
  obtain ⟨lv, e1, e2⟩ := mod128 a1
  rw [works14 (by decide), Option.bind_some, if_pos rfl, if_pos (by omega), Int.toNat_natCast, if_pos (by omega), Option.bind_some, e1]
  have h := twice_fill l lv e2 b0 l.length 20000000 0 (by omega) (by omega) (by omega)
  have e3 : (List.replicate l.length (0 : Int)).length = l.length := by simp
  rw [e3]
  simpa using h
end Go.Proofs.Ytccleelhheilnaa.Pure
