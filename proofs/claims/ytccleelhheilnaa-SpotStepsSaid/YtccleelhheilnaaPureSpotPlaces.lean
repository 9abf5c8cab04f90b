/- SpotPlaces, over lists alone: the program's spots are the document's. -/
import Derived.Test.YtccleelhheilnaaSx7w
import Derived.Test.YtccleelhheilnaaSpotR
import Derived.Test.YtccleelhheilnaaSpotF
namespace Go.Proofs.Ytccleelhheilnaa.Pure
set_option linter.unusedVariables false
set_option linter.unusedSimpArgs false
set_option linter.unusedSectionVars false
open Go.RowKit Go.Proofs.Ytccleelhheilnaa.F Go.Proofs.Ytccleelhheilnaa.Flo Go.Proofs.YtccleelhheilnaaW.PrintWords Go.Proofs.YtccleelhheilnaaW.PrintLast

theorem ints15_lp (L : List Int) (hL : L.length ≤ 281474976710656) : ∀ (d k i : Nat), L.length - i = d → i ≤ L.length → d < k → colophonref01_Ints.l0 k L L (i : Int) = some true := by
  intro d
  induction d with
  | zero =>
    intro k i hd hi hk
    obtain ⟨k, rfl⟩ : ∃ m, k = m + 1 := ⟨k - 1, by omega⟩
    simp only [colophonref01_Ints.l0]
    rw [if_neg (by omega)]
  | succ d ih =>
    intro k i hd hi hk
    obtain ⟨k, rfl⟩ : ∃ m, k = m + 1 := ⟨k - 1, by omega⟩
    have hnext := ih k (i + 1) (by omega) (by omega) (by omega)
    simp only [colophonref01_Ints.l0]
    rw [if_pos (by omega), if_pos (by omega), if_pos (by omega), if_pos trivial, wr1 (by omega)]
    exact hnext
theorem ints15 (L : List Int) (hL : L.length ≤ 281474976710656) {k : Nat} (hk : L.length < k) : colophonref01_Ints.f k L L = some true := by
  unfold colophonref01_Ints.f
  rw [if_pos rfl]
  exact ints15_lp L hL L.length k 0 (by omega) (by omega) (by omega)
theorem line_small {A : List Int} (H : LineOf A) (hA : A.length ≤ 17592186044416) : Small (spL A (ordered A)) := by
  have hl := spL_len A (ordered A)
  have hn := line_len H
  refine ⟨by omega, fun z hz => ?_⟩
  obtain ⟨i, hi, e⟩ := List.getElem_of_mem hz
  rw [spL_get] at e
  rw [← e]
  obtain ⟨r, hr, er⟩ := sp_re_bound H (i := i) (by omega)
  have := sp_im_small H (i := i) (by omega)
  omega
theorem pair_small {L : List Int} {b : Int} (hL : L.length ≤ 60) : Small (spPair L b).1 ∧ (spPair L b).1.length ≤ 61 := by
  unfold spPair
  by_cases hf : (b = 0 ∨ b = 1) ∧ L.all fineB = true
  · have e3 : (L ++ [b]).length = L.length + 1 := by simp
    have hl := spL_len (L ++ [b]) (ordered (L ++ [b]))
    rw [if_pos hf]
    exact ⟨line_small (line_of hf.1 hf.2) (by omega), by simp only []; omega⟩
  · rw [if_neg hf]
    exact ⟨⟨by simp, by simp⟩, by simp⟩
theorem prL_len (l : List Cx) : (prL l).length = l.length := by simp [prL]
theorem spots_lp {l : List Cx} (h : Small l) : ∀ (d k i : Nat), l.length - i = d → i ≤ l.length → d < k → S.colophonlaw15_spots.l0 k l (prL l) (i : Int) = some true := by
  have hl := h.1
  have hp := prL_len l
  intro d
  induction d with
  | zero =>
    intro k i hd hi hk
    obtain ⟨k, rfl⟩ : ∃ m, k = m + 1 := ⟨k - 1, by omega⟩
    simp only [S.colophonlaw15_spots.l0]
    rw [if_neg (by omega)]
  | succ d ih =>
    intro k i hd hi hk
    obtain ⟨k, rfl⟩ : ∃ m, k = m + 1 := ⟨k - 1, by omega⟩
    have hlt : i < l.length := by omega
    have hnext := ih k (i + 1) (by omega) (by omega) (by omega)
    have hs := small_at h hlt
    rw [rdOf_at hlt] at hs
    have s1 : smA (l[i]).re (l[i]).re = true := by rw [smA_iff]; omega
    have s2 : smA (l[i]).im (l[i]).im = true := by rw [smA_iff]; omega
    have e1 : (prOf l[i]).f0 = (l[i]).re := rfl
    have e2 : (prOf l[i]).f1 = (l[i]).im := rfl
    simp only [S.colophonlaw15_spots.l0, prL_at hlt, rdOf_at hlt, e1, e2]
    rw [if_pos (by omega), if_pos (by omega), if_pos (by omega), if_pos s1, if_pos trivial, if_pos s2, if_pos trivial, wr1 (by omega)]
    exact hnext
theorem spots_same {l : List Cx} (h : Small l) {k : Nat} (hk : l.length < k) : S.colophonlaw15_spots.f k l (prL l) = some true := by
  unfold S.colophonlaw15_spots.f
  rw [if_pos (by rw [prL_len])]
  exact spots_lp h l.length k 0 (by omega) (by omega) (by omega)
theorem SpotPlaces : S.colophonlaw15_SpotPlaces.Pure := by
  intro L b _ hy _ _
  refine ⟨400000, ?_⟩
  unfold S.colophonlaw15_SpotPlaces.f
  have hw : S.colophonlaw15_works.f 400000 = some true := works15 (by omega)
  by_cases h6 : (L.length : Int) > 60
  · rw [if_pos h6, hw]
    rfl
  · have hs := pair_small (L := L) (b := b) (by omega)
    rw [if_neg h6, Option.bind_some, List.nil_append, if_pos (by rw [List.length_nil]; omega), Option.bind_some, own_spots b (by omega) (by omega), Option.bind_some, ref_spots b (by omega) (by omega), Option.bind_some]
    unfold refPair
    rw [spots_same hs.1 (by omega), Option.bind_some, if_pos rfl, if_pos rfl, ints15 L (by omega) (by omega), Option.bind_some, if_pos rfl, hw]
    rfl
end Go.Proofs.Ytccleelhheilnaa.Pure
