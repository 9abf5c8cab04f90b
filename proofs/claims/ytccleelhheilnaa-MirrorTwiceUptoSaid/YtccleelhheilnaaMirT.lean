/- Mirror images and glyphs, over numbers alone. -/
import Derived.Test.YtccleelhheilnaaFx16
namespace Go.Proofs.Ytccleelhheilnaa.Pure
set_option linter.unusedVariables false
set_option linter.unusedSimpArgs false
open Go.RowKit Go.Proofs.Ytccleelhheilnaa.F Go.Proofs.YtccleelhheilnaaW.PrintWords Go.Proofs.YtccleelhheilnaaW.PrintLast

theorem partner_miss (l : List Int) (r : Int) (h : r ∉ l) (hl : l.length ≤ 1000) : ∀ (d k i : Nat), l.length - i = d → i ≤ l.length → d < k → colophonref03_partner.l0 k l r (i : Int) = some (-1, 0) := by
  intro d
  induction d with
  | zero =>
    intro k i hd hi hk
    obtain ⟨k, rfl⟩ : ∃ m, k = m + 1 := ⟨k - 1, by omega⟩
    simp only [colophonref03_partner.l0]
    rw [if_neg (by omega)]
  | succ d ih =>
    intro k i hd hi hk
    obtain ⟨k, rfl⟩ : ∃ m, k = m + 1 := ⟨k - 1, by omega⟩
    simp only [colophonref03_partner.l0]
    have hlt : i < l.length := by omega
    have hne : ¬ rd l (i : Int) = r := by
      intro he
      apply h
      rw [← he]
      simp only [rd, Int.toNat_natCast, List.getD_eq_getElem?_getD, List.getElem?_eq_getElem hlt, Option.getD_some]
      exact List.getElem_mem hlt
    rw [if_pos (by omega), if_pos (by omega), if_neg hne, show wrap64 ((i : Int) + 1) = ((i + 1 : Nat) : Int) from by unfold wrap64; omega]
    exact ih k (i + 1) (by omega) (by omega) (by omega)

theorem partner_out {l : List Int} {r : Int} {k : Nat} (h : r ∉ l) (hl : l.length ≤ 1000) (hk : l.length < k) : colophonref03_partner.f k l r = some (-1, 0) :=
  partner_miss l r h hl l.length k 0 (by omega) (by omega) hk

def marks : List Int := [40, 41, 91, 93, 123, 125, 8261, 8262, 8317, 8318, 8333, 8334, 9001, 9002, 10214, 10215, 10216, 10217, 10218, 10219, 10220, 10221, 10222, 10223, 12296, 12297, 12298, 12299, 12300, 12301, 12302, 12303, 12304, 12305, 12308, 12309, 12310, 12311, 12312, 12313, 12314, 12315,
  60, 62, 171, 187, 8249, 8250, 8712, 8715, 8804, 8805, 8806, 8807, 8810, 8811, 8822, 8823, 8834, 8835, 8838, 8839]
theorem oth_miss (l : List (Int × Int)) (r : Int) (h1 : r ∉ l.map (·.1)) (h2 : r ∉ l.map (·.2)) : oth l r = (0, 0) := by
  have e1 : l.find? (fun p => r == p.1) = none := by
    rw [List.find?_eq_none]; intro p hp; simp only [beq_iff_eq]; intro e; exact h1 (List.mem_map.2 ⟨p, hp, e.symm⟩)
  have e2 : l.find? (fun p => r == p.2) = none := by
    rw [List.find?_eq_none]; intro p hp; simp only [beq_iff_eq]; intro e; exact h2 (List.mem_map.2 ⟨p, hp, e.symm⟩)
  unfold oth
  simp only [e1, e2]
theorem sub1 : ∀ x ∈ pairs1.map (·.1), x ∈ marks := by decide
theorem sub2 : ∀ x ∈ pairs1.map (·.2), x ∈ marks := by decide
theorem sub3 : ∀ x ∈ pairs2.map (·.1), x ∈ marks := by decide
theorem sub4 : ∀ x ∈ pairs2.map (·.2), x ∈ marks := by decide
theorem sub6 : ∀ x ∈ ([40, 41, 91, 93, 123, 125, 8261, 8262, 8317, 8318, 8333, 8334, 9001, 9002, 10214, 10215, 10216, 10217, 10218, 10219, 10220, 10221, 10222, 10223, 12296, 12297, 12298, 12299, 12300, 12301, 12302, 12303, 12304, 12305, 12308, 12309, 12310, 12311, 12312, 12313, 12314, 12315] : List Int) ++ [60, 62, 171, 187, 8249, 8250, 8712, 8715, 8804, 8805, 8806, 8807, 8810, 8811, 8822, 8823, 8834, 8835, 8838, 8839], x ∈ marks := by decide
theorem mirror_miss {r : Int} (h : r ∉ marks) : ucd_Mirror.f r = some (0, false) := by
  unfold ucd_Mirror.f
  rw [oth_miss _ _ (fun hx => h (sub1 _ hx)) (fun hx => h (sub2 _ hx)), oth_miss _ _ (fun hx => h (sub3 _ hx)) (fun hx => h (sub4 _ hx))]
  rfl

/-- the mirror image, or the number -/
def mir (r : Int) : Int := match ucd_Mirror.f r with | some (m, true) => m | _ => r
theorem mirror_some (r : Int) : ∃ p, ucd_Mirror.f r = some p := ⟨_, rfl⟩
theorem mir_all : ∀ x ∈ marks, mir (mir x) = x := by decide +kernel
theorem mir_twice (r : Int) : mir (mir r) = r := by
  by_cases h : r ∈ marks
  · exact mir_all r h
  · have : mir r = r := by unfold mir; rw [mirror_miss h]
    rw [this, this]
theorem ref_mirror_all : ∀ x ∈ marks, colophonref03_Mirror.f 100 x = ucd_Mirror.f x := by decide +kernel
theorem ref_mirror (r : Int) : colophonref03_Mirror.f 100 r = ucd_Mirror.f r := by
  by_cases h : r ∈ marks
  · exact ref_mirror_all r h
  · rw [mirror_miss h]
    unfold colophonref03_Mirror.f colophonref03_brackets.f colophonref03_others.f
    simp only [Option.bind_some]
    rw [if_pos (by decide), partner_out (fun hm => h (sub6 _ hm)) (by decide) (by decide)]
    rfl
theorem ref_mirror_mono (r : Int) : ∀ j, colophonref03_Mirror.f (100 + j) r = ucd_Mirror.f r
  | 0 => ref_mirror r
  | j + 1 => by
    obtain ⟨p, hp⟩ := mirror_some r
    rw [hp]
    have h := ref_mirror_mono r j
    rw [hp] at h
    exact colophonref03_Mirror.mono r (100 + j) _ h
/-- how a number is shown -/
def glyph (r lv : Int) : Int := if 0 < lv ∧ lv % 2 = 1 then mir r else r
theorem glyph_on {r lv : Int} (h : 0 < lv ∧ lv % 2 = 1) {m : Int} {b : Bool} (hp : ucd_Mirror.f r = some (m, b)) : glyph r lv = if b = true then m else r := by
  unfold glyph mir
  rw [if_pos h, hp]
  cases b <;> rfl
theorem glyph_off {r lv : Int} (h : ¬ (0 < lv ∧ lv % 2 = 1)) : glyph r lv = r := by unfold glyph; rw [if_neg h]
theorem own_glyph (r lv : Int) {k : Nat} (hk : 1 ≤ k) : mirror_Glyph.f k r lv = some (glyph r lv) := by
  obtain ⟨k, rfl⟩ : ∃ m, k = m + 1 := ⟨k - 1, by omega⟩
  unfold mirror_Glyph.f
  obtain ⟨⟨m, b⟩, hp⟩ := mirror_some r
  simp only [mirror_Glyph.j0, hp, Option.bind_some]
  by_cases h : lv > 0
  · rw [if_pos h]
    have e : Int.tmod lv 2 = lv % 2 := by rw [Int.tmod_eq_emod_of_nonneg (by omega)]
    rw [e]
    by_cases h2 : lv % 2 = 1
    · rw [if_pos (by simpa using h2), glyph_on ⟨h, h2⟩ hp]
      cases b <;> rfl
    · rw [if_neg (by simpa using h2), glyph_off (fun hh => h2 hh.2)]
  · rw [if_neg h, if_neg (by decide), glyph_off (fun hh => h hh.1)]
theorem ref_glyph (r lv : Int) {k : Nat} (hk : 100 ≤ k) : colophonref14_Glyph.f k r lv = some (glyph r lv) := by
  obtain ⟨j, rfl⟩ : ∃ j, k = 100 + j := ⟨k - 100, by omega⟩
  unfold colophonref14_Glyph.f
  rw [ref_mirror_mono]
  obtain ⟨⟨m, b⟩, hp⟩ := mirror_some r
  simp only [hp, Option.bind_some]
  by_cases hh : 0 < lv ∧ lv % 2 = 1
  · rw [glyph_on hh hp]
    cases b with
    | false => rfl
    | true =>
      rw [if_pos rfl, if_pos (by omega), if_pos (by rw [Int.tmod_eq_emod_of_nonneg (by omega)]; exact hh.2)]
      rfl
  · rw [glyph_off hh]
    cases b with
    | false => rfl
    | true =>
      rw [if_pos rfl]
      by_cases h : lv ≥ 0
      · rw [if_pos h, if_neg (by rw [Int.tmod_eq_emod_of_nonneg (by omega)]; omega)]
      · rw [if_neg h]
theorem glyph_glyph (r lv l2 : Int) (h : 0 < lv ∧ lv % 2 = 1) (h2 : 0 < l2 ∧ l2 % 2 = 1) : glyph (glyph r lv) l2 = r := by
  unfold glyph
  rw [if_pos h, if_pos h2, mir_twice]
end Go.Proofs.Ytccleelhheilnaa.Pure
