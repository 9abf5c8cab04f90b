/- The chapter's examples hold; a list is itself. -/
import Derived.Test.YtccleelhheilnaaRefT
import Derived.Test.YtccleelhheilnaaFx5w
namespace Go.Proofs.Ytccleelhheilnaa.Pure
set_option linter.unusedVariables false
set_option linter.unusedSimpArgs false
open Go.RowKit Go.Proofs.Ytccleelhheilnaa.F Go.Proofs.YtccleelhheilnaaW.PrintWords Go.Proofs.YtccleelhheilnaaW.PrintLast

theorem works13_at : colophonlaw13_works.f 60 = some true := by decide +kernel
theorem works13 {k : Nat} (h : 60 ≤ k) : colophonlaw13_works.f k = some true := by
  obtain ⟨j, rfl⟩ : ∃ j, k = 60 + j := ⟨k - 60, by omega⟩
  clear h
  induction j with
  | zero => exact works13_at
  | succ j ih => exact colophonlaw13_works.mono (60 + j) _ ih
theorem ints_lp (L : List Int) (hL : L.length ≤ 281474976710656) : ∀ (d k i : Nat), L.length - i = d → i ≤ L.length → d < k → colophonref01_Ints.l0 k L L (i : Int) = some true := by
  intro d
  induction d with
  | zero =>
    intro k i hd hi hk
    obtain ⟨k, rfl⟩ : ∃ m, k = m + 1 := ⟨k - 1, by omega⟩
    simp only [colophonref01_Ints.l0]
    rw [if_neg (by omega)]
  | succ d ih =>
    intro k i hd hi hk
    obtain ⟨k, rfl⟩ : ∃ m, k = m + 1 := ⟨k - 1, by omega⟩
    simp only [colophonref01_Ints.l0]
    rw [if_pos (by omega), if_pos (by omega), if_pos (by omega), if_pos trivial, wr1 (by omega)]
    exact ih k (i + 1) (by omega) (by omega) (by omega)
theorem ints_refl (L : List Int) (hL : L.length ≤ 281474976710656) {k : Nat} (hk : L.length < k) : colophonref01_Ints.f k L L = some true := by
  unfold colophonref01_Ints.f
  rw [if_pos rfl]
  exact ints_lp L hL L.length k 0 (by omega) (by omega) (by omega)
theorem pair_len (L : List Int) : (orderPair L).1.length ≤ L.length := by
  unfold orderPair
  split
  · show (ordered L).length ≤ _
    rw [ordered_len]; exact seen_len _ _
  · exact Nat.zero_le _
end Go.Proofs.Ytccleelhheilnaa.Pure
