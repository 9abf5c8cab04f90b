/- UcdRanges, over numbers and lists alone: both shelves hand the same rows, every time they are asked. -/
import Derived.Test.YtddhhncjfcolcaaFx8
import Derived.OpenShut
namespace Go.Proofs.Ytddhhncjfcolcaa.Pure
set_option linter.unusedVariables false
open Go.RowKit Go.Proofs.Ytddhhncjfcolcaa.F Go.Proofs.YtddhhncjfcolcaaW.PrintWords Go.Proofs.YtddhhncjfcolcaaW.PrintLast

def rows43 : List S43 := tabRows.map fun x => ⟨x.1, x.2.1, x.2.2⟩
theorem rows43_len : rows43.length = 147 := by decide +kernel
theorem own_mono : ∀ (j k : Nat) {r}, ucd_Ranges.f k = some r → ucd_Ranges.f (k + j) = some r
  | 0, k, r, h => h
  | j + 1, k, r, h => ucd_Ranges.mono (k + j) _ (own_mono j k h)
theorem ref_mono : ∀ (j k : Nat) {r}, colophonref03_Ranges.f k = some r → colophonref03_Ranges.f (k + j) = some r
  | 0, k, r, h => h
  | j + 1, k, r, h => colophonref03_Ranges.mono (k + j) _ (ref_mono j k h)
theorem own_at : ucd_Ranges.f 150 = some rows43 := by kernel_rfl
theorem ref_at : colophonref03_Ranges.f 150 = some rows43 := by kernel_rfl
theorem own_big {k : Nat} (h : 150 ≤ k) : ucd_Ranges.f k = some rows43 := by
  have := own_mono (k - 150) 150 own_at
  rwa [show 150 + (k - 150) = k by omega] at this
theorem ref_big {k : Nat} (h : 150 ≤ k) : colophonref03_Ranges.f k = some rows43 := by
  have := ref_mono (k - 150) 150 ref_at
  rwa [show 150 + (k - 150) = k by omega] at this
theorem idx (a0 : Int) : 0 ≤ wrap64 (Int.tmod (IntKind.u64.wrap a0) 147) ∧ wrap64 (Int.tmod (IntKind.u64.wrap a0) 147) < 147 := by
  have h0 : 0 ≤ IntKind.u64.wrap a0 := by
    have := bounds_u64 (wf_wrap .u64 a0)
    exact this.1
  have h1 := Int.tmod_nonneg 147 h0
  have h2 := Int.tmod_lt_of_pos (IntKind.u64.wrap a0) (show (0 : Int) < 147 by decide)
  unfold wrap64
  omega
theorem in1 (a0 : Int) : ∀ (d k i c : Nat), 147 - i = d → i ≤ 147 → c < 2 → 600 - c * 170 - i ≤ k →
    (∀ k', 600 - (c + 1) * 170 + 10 ≤ k' → colophonlaw03_UcdRanges.l0 k' a0 rows43 rows43 ((c + 1 : Nat) : Int) = some true) →
    colophonlaw03_UcdRanges.l1 k a0 rows43 rows43 (c : Int) (i : Int) = some true := by
  intro d
  induction d with
  | zero =>
    intro k i c hd hi hc hk H
    obtain ⟨k, rfl⟩ : ∃ m, k = m + 1 := ⟨k - 1, by omega⟩
    simp only [colophonlaw03_UcdRanges.l1, rows43_len]
    have := idx a0
    rw [if_neg (by omega), if_neg (by decide), show IntKind.u64.wrap ((147 : Nat) : Int) = 147 from by decide, if_pos this.1, if_pos (by simpa using this.2), own_big (by omega)]
    simp only [Option.bind_some]
    rw [show wrap64 ((c : Int) + 1) = ((c + 1 : Nat) : Int) from by unfold wrap64; omega]
    exact H k (by omega)
  | succ d ih =>
    intro k i c hd hi hc hk H
    obtain ⟨k, rfl⟩ : ∃ m, k = m + 1 := ⟨k - 1, by omega⟩
    simp only [colophonlaw03_UcdRanges.l1, rows43_len]
    rw [if_pos (by omega), if_pos (by omega), if_pos (by omega), if_neg (by simp), show wrap64 ((i : Int) + 1) = ((i + 1 : Nat) : Int) from by unfold wrap64; omega]
    exact ih k (i + 1) c (by omega) (by omega) hc (by omega) H
theorem out2 (a0 : Int) (k : Nat) (hk : 1 ≤ k) : colophonlaw03_UcdRanges.l0 k a0 rows43 rows43 ((2 : Nat) : Int) = some true := by
  obtain ⟨k, rfl⟩ : ∃ m, k = m + 1 := ⟨k - 1, by omega⟩
  simp only [colophonlaw03_UcdRanges.l0]
  rw [if_neg (by omega)]
theorem out1 (a0 : Int) (k : Nat) (hk : 440 ≤ k) : colophonlaw03_UcdRanges.l0 k a0 rows43 rows43 ((1 : Nat) : Int) = some true := by
  obtain ⟨k, rfl⟩ : ∃ m, k = m + 1 := ⟨k - 1, by omega⟩
  simp only [colophonlaw03_UcdRanges.l0]
  rw [if_pos (by omega), if_pos trivial]
  exact in1 a0 147 k 0 1 rfl (by decide) (by decide) (by omega) (fun k' hk' => out2 a0 k' (by omega))
theorem UcdRanges : colophonlaw03_UcdRanges.Pure := by
  intro a0 _
  refine ⟨700, ?_⟩
  unfold colophonlaw03_UcdRanges.f
  rw [own_big (by decide), ref_big (by decide)]
  simp only [Option.bind_some, colophonlaw03_UcdRanges.l0]
  rw [if_pos (by decide), if_pos trivial]
  exact in1 a0 147 699 0 0 rfl (by decide) (by decide) (by omega) (fun k' hk' => out1 a0 k' (by omega))
end Go.Proofs.Ytddhhncjfcolcaa.Pure
