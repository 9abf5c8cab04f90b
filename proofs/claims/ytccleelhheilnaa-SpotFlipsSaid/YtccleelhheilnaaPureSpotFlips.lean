/- SpotFlips, over lists alone: in a mirror steps to the right are steps to the left. -/
import Derived.Test.YtccleelhheilnaaSx8
import Derived.Test.YtccleelhheilnaaSpotF
namespace Go.Proofs.Ytccleelhheilnaa.Pure
set_option linter.unusedVariables false
set_option linter.unusedSimpArgs false
open Go.RowKit Go.Proofs.Ytccleelhheilnaa.F Go.Proofs.Ytccleelhheilnaa.S Go.Proofs.Ytccleelhheilnaa.Flo Go.Proofs.YtccleelhheilnaaW.PrintWords Go.Proofs.YtccleelhheilnaaW.PrintLast

theorem flips_loop {l : List Cx} {m : Int} (h : Small l) (h2 : Small (flipL m l)) : ∀ (d k i : Nat), l.length - i = d → i ≤ l.length → d < k →
    colophonlaw15_SpotFlips.l0 k l (flipL m l) l (l.length : Int) (i : Int) = some true := by
  have hl := h.1
  have hfl := flip_len m l
  intro d
  induction d with
  | zero =>
    intro k i hd hi hk
    obtain ⟨k, rfl⟩ : ∃ m, k = m + 1 := ⟨k - 1, by omega⟩
    simp only [colophonlaw15_SpotFlips.l0]
    rw [if_neg (by omega)]
  | succ d ih =>
    intro k i hd hi hk
    obtain ⟨k, rfl⟩ : ∃ m, k = m + 1 := ⟨k - 1, by omega⟩
    have hlt : i < l.length := by omega
    have hnext := ih k (i + 1) (by omega) (by omega) (by omega)
    have hs := small_at h hlt
    have hs2 := small_at h2 (i := i) (by omega)
    have s1 : smA (rdOf zc l (i : Int)).re (rdOf zc l (i : Int)).re = true := by rw [smA_iff]; omega
    have s2 : smA (rdOf zc l (i : Int)).im (rdOf zc l (i : Int)).im = true := by rw [smA_iff]; omega
    have s3 : smA (rdOf zc (flipL m l) (i : Int)).im (rdOf zc l (i : Int)).im = true := by rw [smA_iff]; omega
    have e1 : (!((rdOf zc l (i : Int)).re == (rdOf zc l (i : Int)).re && (rdOf zc l (i : Int)).im == (rdOf zc l (i : Int)).im)) = false := by simp
    have e2 : (rdOf zc (flipL m l) (i : Int)).im = -(rdOf zc l (i : Int)).im := by rw [flip_at hlt]; rfl
    simp only [colophonlaw15_SpotFlips.l0]
    rw [if_pos (by omega), if_pos (by omega), if_pos (by omega), if_pos (by omega), if_pos s1, if_pos s2, e1, if_neg (by decide), if_pos (by omega), if_pos s3, if_pos e2, wr1 (by omega)]
    exact hnext
theorem flips_j {l : List Cx} (h : Small l) (h2 : Small (flipL (stops l : Int) l)) (h0 : 0 < l.length) (x : Int) {s : Int} (hs : s = 1 ∨ s = -1) {k : Nat} (hk : 2 * l.length + 10 < k) : colophonlaw15_SpotFlips.j0 k x l s = some true := by
  obtain ⟨k, rfl⟩ : ∃ m, k = m + 2 := ⟨k - 2, by omega⟩
  have hfl := flip_len (stops l : Int) l
  obtain ⟨i, ei, hi⟩ := place_of x h0 h.1
  have hw : wrap64 (-s) = -s := by unfold wrap64; omega
  have e1 : (rdOf zc (flipL (stops l : Int) l) (i : Int)).re + -s = (stops l : Int) - 1 - ((rdOf zc l (i : Int)).re + s) := by
    rw [flip_at hi]
    unfold flipZ
    simp only
    omega
  have e2 : (stops l : Int) - 1 - ((stops l : Int) - 1 - ((rdOf zc l (i : Int)).re + s)) = (rdOf zc l (i : Int)).re + s := by omega
  simp only [colophonlaw15_SpotFlips.j0]
  rw [own_flip h (by omega), Option.bind_some, hfl, if_pos rfl, if_neg (u64_ne h0 h.1), ei, small_step h hi hs, Option.bind_some, hw, small_step h2 (by omega) (by omega), Option.bind_some, e1, first_flip, e2, if_pos rfl]
  have e3 : ((firstAt ((rdOf zc l (i : Int)).re + s) l 0).2 != (firstAt ((rdOf zc l (i : Int)).re + s) l 0).2) = false := by simp
  rw [e3]
  simp only [colophonlaw15_SpotFlips.j1]
  rw [if_neg (by decide), own_flip h2 (by omega), flip_stops, flip_flip, Option.bind_some, if_pos rfl]
  exact flips_loop h h2 l.length k 0 (by omega) (by omega) (by omega)
theorem SpotFlips : colophonlaw15_SpotFlips.Pure := by
  intro L b x right _ hy _ _ _
  refine ⟨4 * L.length + 1000, ?_⟩
  unfold colophonlaw15_SpotFlips.f
  rw [works15 (by omega), Option.bind_some, if_pos rfl, own_spots b (by omega) (by omega), Option.bind_some]
  unfold spPair
  by_cases hf : (b = 0 ∨ b = 1) ∧ L.all fineB = true
  · have e3 : (L ++ [b]).length = L.length + 1 := by simp
    have H := line_of hf.1 hf.2
    have hl := spL_len (L ++ [b]) (ordered (L ++ [b]))
    have hn := line_len H
    have hst : stops (spL (L ++ [b]) (ordered (L ++ [b]))) ≤ (spL (L ++ [b]) (ordered (L ++ [b]))).length := List.countP_le_length
    have hsm := small_flip (l := spL (L ++ [b]) (ordered (L ++ [b]))) (m := (stops (spL (L ++ [b]) (ordered (L ++ [b]))) : Int)) (by omega) (by omega) (fun z hz => by
      obtain ⟨i, hi, e⟩ := List.getElem_of_mem hz
      rw [spL_get] at e
      rw [← e]
      obtain ⟨r, hr, er⟩ := sp_re_bound H (i := i) (by omega)
      have := sp_im_small H (i := i) (by omega)
      omega)
    rw [if_pos hf, if_pos rfl]
    cases right with
    | true => exact flips_j (k := 4 * L.length + 1000) hsm.1 hsm.2 (by omega) x (.inl rfl) (by omega)
    | false => exact flips_j (k := 4 * L.length + 1000) hsm.1 hsm.2 (by omega) x (.inr rfl) (by omega)
  · rw [if_neg hf, if_neg (by decide)]
    rfl
end Go.Proofs.Ytccleelhheilnaa.Pure
