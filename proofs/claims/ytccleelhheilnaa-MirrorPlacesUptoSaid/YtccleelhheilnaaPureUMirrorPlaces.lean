/- MirrorPlaces, over lists alone, lengths bounded: as many glyphs as places, each the glyph of its place. -/
import Derived.Test.YtccleelhheilnaaUptoWMirrorPlaces
import Derived.Test.YtccleelhheilnaaShowT
import Derived.Test.YtccleelhheilnaaPureMirrorGlyphs
namespace Go.Proofs.Ytccleelhheilnaa.Pure
set_option linter.unusedVariables false
open Go.RowKit Go.Proofs.Ytccleelhheilnaa.F Go.Proofs.YtccleelhheilnaaW.PrintWords Go.Proofs.YtccleelhheilnaaW.PrintLast

theorem places_loop (l L p : List Int) (hl : l.length = L.length) (hp : p.length ≤ 1000000000) (hin : ∀ x ∈ p, isSeen L x) : ∀ (d k i : Nat), p.length - i = d → i ≤ p.length → d + 10 ≤ k →
    colophonlaw14_MirrorPlaces.l0 k l L (p.map (shown l L)) p (p.length : Int) (i : Int) = some true := by
  intro d
  induction d with
  | zero =>
    intro k i hd hi hk
    obtain ⟨k, rfl⟩ : ∃ m, k = m + 1 := ⟨k - 1, by omega⟩
    simp only [colophonlaw14_MirrorPlaces.l0]
    rw [if_neg (by omega)]
  | succ d ih =>
    intro k i hd hi hk
    obtain ⟨k, rfl⟩ : ∃ m, k = m + 1 := ⟨k - 1, by omega⟩
    have hlt : i < p.length := by omega
    have hnext := ih k (i + 1) (by omega) (by omega) (by omega)
    obtain ⟨h1, h2, -⟩ := hin p[i] (List.getElem_mem hlt)
    have hr : rd p (i : Int) = p[i] := rd_at hlt
    have hm : rd (p.map (shown l L)) (i : Int) = shown l L p[i] := by rw [rd_at (by rw [List.length_map]; exact hlt), List.getElem_map]
    simp only [colophonlaw14_MirrorPlaces.l0, hr, hm, List.length_map]
    rw [if_pos (by omega), if_pos (by omega), if_pos (by omega), if_pos (by omega), if_pos h1, if_pos (by omega), if_pos h2, own_glyph _ _ (by omega)]
    simp only [Option.bind_some]
    rw [if_pos (show shown l L p[i] = glyph (rd l p[i]) (rd L p[i]) from rfl), wr1 (by omega)]
    exact hnext
theorem UMirrorPlaces : UptoW.mirrorPlacesPureU := by
  intro l L _ _ _ _ _ _ b0 b1
  refine ⟨20000000, ?_⟩
  unfold colophonlaw14_MirrorPlaces.f
  rw [works14 (by decide)]
  simp only [Option.bind_some]
  rw [if_pos trivial]
  by_cases h : l.length = L.length
  · by_cases hf : L.all fineB = true
    · have e1 : showPair l L = ((ordered L).map (shown l L), 0) := by unfold showPair; rw [if_pos h, if_pos hf]
      have e2 : orderPair L = (ordered L, 0) := by unfold orderPair; rw [if_pos hf]
      have hlen : (ordered L).length ≤ L.length := by rw [ordered_len]; exact seen_len _ _
      rw [own_show (by omega) (by omega), own_order (by omega), e1, e2]
      simp only [Option.bind_some]
      rw [if_pos (by omega), if_pos trivial, show (20000000 : Nat) = 19999999 + 1 from rfl, colophonlaw14_MirrorPlaces.j0, if_neg (by simp [List.length_map])]
      exact places_loop l L (ordered L) h (by omega) (fun x hx => (ordered_mem L x).1 hx) (ordered L).length 19999999 0 (by omega) (by omega) (by omega)
    · have e1 : showPair l L = ([], 2) := by unfold showPair; rw [if_pos h, if_neg hf]
      have e2 : orderPair L = ([], 2) := by unfold orderPair; rw [if_neg hf]
      rw [own_show (by omega) (by omega), own_order (by omega), e1, e2]
      simp only [Option.bind_some]
      rw [if_pos (by omega), if_pos trivial, show (20000000 : Nat) = 19999999 + 1 from rfl, colophonlaw14_MirrorPlaces.j0, if_neg (by simp), show (19999999 : Nat) = 19999998 + 1 from rfl, colophonlaw14_MirrorPlaces.l0, if_neg (by simp)]
  · have e1 : showPair l L = ([], 2) := by unfold showPair; rw [if_neg h]
    rw [own_show (by omega) (by omega), e1]
    simp only [Option.bind_some]
    rw [if_neg (by omega), if_pos trivial]
    rfl
end Go.Proofs.Ytccleelhheilnaa.Pure
