/- MirrorShows, over lists alone: what is shown of a line is what the reference shows. -/
import Derived.Test.YtccleelhheilnaaFx18
import Derived.Test.YtccleelhheilnaaShowT
import Derived.Test.YtccleelhheilnaaPureMirrorGlyphs
namespace Go.Proofs.Ytccleelhheilnaa.Pure
set_option linter.unusedVariables false
set_option linter.unusedSimpArgs false
open Go.RowKit Go.Proofs.Ytccleelhheilnaa.F Go.Proofs.YtccleelhheilnaaW.PrintWords Go.Proofs.YtccleelhheilnaaW.PrintLast

theorem ref_show_loop (l L p : List Int) (hl : l.length ≤ 100) (hp : p.length ≤ 100) (hin : ∀ x ∈ p, 0 ≤ x ∧ x < (l.length : Int) ∧ x < (L.length : Int)) : ∀ (d k i : Nat), p.length - i = d → i ≤ p.length → d + 200 ≤ k →
    colophonref14_Show.l0 k l L p ((p.take i).map (shown l L)) (i : Int) = some (p.map (shown l L), 0) := by
  intro d
  induction d with
  | zero =>
    intro k i hd hi hk
    obtain ⟨k, rfl⟩ : ∃ m, k = m + 1 := ⟨k - 1, by omega⟩
    obtain rfl : i = p.length := by omega
    simp only [colophonref14_Show.l0]
    rw [if_neg (by omega), List.take_length]
  | succ d ih =>
    intro k i hd hi hk
    obtain ⟨k, rfl⟩ : ∃ m, k = m + 1 := ⟨k - 1, by omega⟩
    have hlt : i < p.length := by omega
    have hnext := ih k (i + 1) (by omega) (by omega) (by omega)
    obtain ⟨h1, h2, h3⟩ := hin p[i] (List.getElem_mem hlt)
    have hr : rd p (i : Int) = p[i] := rd_at hlt
    simp only [colophonref14_Show.l0, hr]
    rw [if_pos (by omega), if_pos (by omega), if_pos h1, if_pos h2, if_pos h3, ref_glyph _ _ (by omega)]
    simp only [Option.bind_some]
    rw [if_pos (by simp only [List.length_map, List.length_take]; omega), wr1 (by omega)]
    rw [List.take_succ_eq_append_getElem hlt, List.map_append] at hnext
    exact hnext
theorem ref_show {l L : List Int} (hL : L.length ≤ 100) {k : Nat} (hk : 20000 ≤ k) : colophonref14_Show.f k l L = some (showPair l L) := by
  unfold colophonref14_Show.f showPair
  by_cases h : l.length = L.length
  · rw [if_pos (by omega), if_pos h, ref_order hL (by omega)]
    simp only [Option.bind_some, orderPair]
    by_cases hf : L.all fineB = true
    · have hlen : (ordered L).length ≤ L.length := by rw [ordered_len]; exact seen_len _ _
      rw [if_pos hf, if_pos hf, if_pos rfl]
      exact ref_show_loop l L (ordered L) (by omega) (by omega) (fun x hx => by
        obtain ⟨h1, h2, -⟩ := (ordered_mem L x).1 hx
        exact ⟨h1, by omega, h2⟩) (ordered L).length k 0 (by omega) (by omega) (by omega)
    · rw [if_neg hf, if_neg hf, if_neg (by decide)]
  · rw [if_neg (by omega), if_neg h]
theorem shown_len (l L : List Int) : (showPair l L).1.length ≤ L.length := by
  unfold showPair
  split
  · split
    · rw [List.length_map, ordered_len]; exact seen_len _ _
    · exact Nat.zero_le _
  · exact Nat.zero_le _
theorem MirrorShows : colophonlaw14_MirrorShows.Pure := by
  intro l L _ _ _ _ _ _
  refine ⟨30000, ?_⟩
  unfold colophonlaw14_MirrorShows.f
  rw [show (30000 : Nat) = 29999 + 1 from rfl]
  simp only [colophonlaw14_MirrorShows.j0]
  have hw : ((colophonlaw14_works.f 29999).bind fun t => some t) = some true := by rw [works14 (by decide)]; rfl
  by_cases h1 : (L.length : Int) > 70
  · rw [if_pos h1, if_pos trivial]
    exact hw
  · rw [if_neg h1]
    by_cases h2 : (l.length : Int) > 70
    · rw [if_pos (by simpa using h2)]
      exact hw
    · rw [if_neg (by simpa using h2)]
      simp only [Option.bind_some, List.nil_append]
      rw [if_pos (by simp only [List.length_nil]; omega), if_pos (by simp only [List.length_nil]; omega), own_show (by omega) (by omega), ref_show (by omega) (by decide)]
      have hs := shown_len l L
      simp only [Option.bind_some]
      rw [same_self _ (by omega) (by omega)]
      simp only [Option.bind_some]
      rw [if_pos trivial, if_pos trivial, same_self _ (by omega) (by omega)]
      simp only [Option.bind_some]
      rw [if_pos trivial, ints_self _ (by omega) (by omega)]
      simp only [Option.bind_some]
      rw [if_pos trivial, works14 (by decide)]
      rfl
end Go.Proofs.Ytccleelhheilnaa.Pure
