/- PickImage, over lists alone. -/
import Derived.Test.YtccleelhheilnaaFx31
import Derived.Test.YtccleelhheilnaaW16T
namespace Go.Proofs.Ytccleelhheilnaa.Pure
set_option linter.unusedVariables false
set_option linter.unusedSimpArgs false
open Go.RowKit Go.Proofs.Ytccleelhheilnaa.F Go.Proofs.YtccleelhheilnaaW.PrintWords Go.Proofs.YtccleelhheilnaaW.PrintLast

theorem image_loop (L : List Int) (hl : L.length < 17592186044416) (fr te : Nat) (hft : fr ≤ te) (ht : te ≤ L.length) (x9 : List Int) (h9 : x9 = (seenAt L te).filter (fun x => decide ((fr : Int) ≤ x))) : ∀ (d k i : Nat), te - i = d → fr ≤ i → i ≤ te → d + te + 3 < k →
    colophonlaw16_PickImage.l0 k L (te : Int) x9 0 ((seenAt L i).filter (fun x => decide ((fr : Int) ≤ x))) (i : Int) = some true := by
  intro d
  induction d with
  | zero =>
    intro k i hd hf hi hk
    obtain ⟨k, rfl⟩ : ∃ m, k = m + 1 := ⟨k - 1, by omega⟩
    obtain rfl : i = te := by omega
    have hlen : x9.length ≤ i := by
      rw [h9]
      exact Nat.le_trans (List.length_filter_le _ _) (seen_len _ _)
    simp only [colophonlaw16_PickImage.l0]
    rw [if_neg (by omega), if_pos trivial, ← h9, ints_refl _ (by omega) (by omega)]
    rfl
  | succ d ih =>
    intro k i hd hf hi hk
    obtain ⟨k, rfl⟩ : ∃ m, k = m + 1 := ⟨k - 1, by omega⟩
    have hnext := ih k (i + 1) (by omega) (by omega) (by omega) (by omega)
    have hlen : ((seenAt L i).filter (fun x => decide ((fr : Int) ≤ x))).length < 17592186044416 := by
      have := Nat.le_trans (List.length_filter_le (fun x => decide ((fr : Int) ≤ x)) (seenAt L i)) (seen_len _ _)
      omega
    simp only [colophonlaw16_PickImage.l0]
    rw [if_pos (by omega), if_pos (by omega), if_pos (by omega)]
    by_cases h0 : rd L (i : Int) ≥ 0
    · rw [seen_hit (by omega), List.filter_append] at hnext
      have e : List.filter (fun x => decide ((fr : Int) ≤ x)) [(i : Int)] = [(i : Int)] := by
        rw [List.filter_cons, if_pos (by simpa using hf), List.filter_nil]
      rw [e] at hnext
      rw [if_pos h0, if_pos hlen, wr1 (by omega)]
      exact hnext
    · rw [seen_miss (by omega)] at hnext
      rw [if_neg h0, wr1 (by omega)]
      exact hnext
theorem PickImage : colophonlaw16_PickImage.Pure := by
  intro L fr te _ hy _ _ _
  refine ⟨2 * L.length + 1000, ?_⟩
  unfold colophonlaw16_PickImage.f
  rw [works16 (by omega), Option.bind_some, if_pos rfl, own_pruns (by omega), Option.bind_some]
  unfold runsPair
  by_cases hf : L.all fineB = true
  · rw [if_pos hf]
    by_cases hE : fr < 0 ∨ (L.length : Int) < te ∨ te < fr
    · rw [if_pos hE, if_neg (by decide)]
      rfl
    · rw [if_neg hE, if_pos rfl]
      obtain ⟨a, rfl⟩ : ∃ a : Nat, fr = (a : Int) := ⟨fr.toNat, by omega⟩
      obtain ⟨b, rfl⟩ : ∃ b : Nat, te = (b : Int) := ⟨te.toNat, by omega⟩
      have himg := image_eq hf (a : Int) (b : Int) (by omega) (by omega)
      rw [Int.toNat_natCast] at himg
      have hp : pick_Places.f L (strs (ordered L) (a : Int) (b : Int)) = some ((seenAt L b).filter (fun x => decide ((a : Int) ≤ x)), 0) := by
        unfold pick_Places.f
        rw [if_pos (by omega), if_pos hf, if_pos (chain_fit _ _ _ _ 0 0 (by omega) (strs_chain _ _ _)), himg]
      rw [hp, Option.bind_some]
      have h0 : ([] : List Int) = (seenAt L a).filter (fun x => decide ((a : Int) ≤ x)) := by
        symm
        rw [List.filter_eq_nil_iff]
        intro x hx
        obtain ⟨i, rfl, h1, -⟩ := seen_mem.1 hx
        simp
        omega
      rw [h0]
      exact image_loop L (by omega) a b (by omega) (by omega) _ rfl (b - a) _ a (by omega) (by omega) (by omega) (by omega)
  · rw [if_neg hf, if_neg (by decide)]
    rfl
end Go.Proofs.Ytccleelhheilnaa.Pure
