/- UcdMarks, over numbers and lists alone: brackets, canonical forms and mirror images are the reference's, at every int32. -/
import Derived.Test.YtddhhncjfcolcaaFx10
namespace Go.Proofs.Ytddhhncjfcolcaa.Pure
open Go.RowKit Go.Proofs.Ytddhhncjfcolcaa.F Go.Proofs.YtddhhncjfcolcaaW.PrintWords Go.Proofs.YtddhhncjfcolcaaW.PrintLast

theorem partner_miss (l : List Int) (r : Int) (h : r ∉ l) (hl : l.length ≤ 1000) : ∀ (d k i : Nat), l.length - i = d → i ≤ l.length → d < k → colophonref03_partner.l0 k l r (i : Int) = some (-1, 0) := by
  intro d
  induction d with
  | zero =>
    intro k i hd hi hk
    obtain ⟨k, rfl⟩ : ∃ m, k = m + 1 := ⟨k - 1, by omega⟩
    simp only [colophonref03_partner.l0]
    rw [if_neg (by omega)]
  | succ d ih =>
    intro k i hd hi hk
    obtain ⟨k, rfl⟩ : ∃ m, k = m + 1 := ⟨k - 1, by omega⟩
    simp only [colophonref03_partner.l0]
    have hlt : i < l.length := by omega
    have hne : ¬ rd l (i : Int) = r := by
      intro he
      apply h
      rw [← he]
      simp only [rd, Int.toNat_natCast, List.getD_eq_getElem?_getD, List.getElem?_eq_getElem hlt, Option.getD_some]
      exact List.getElem_mem hlt
    rw [if_pos (by omega), if_pos (by omega), if_neg hne, show wrap64 ((i : Int) + 1) = ((i + 1 : Nat) : Int) from by unfold wrap64; omega]
    exact ih k (i + 1) (by omega) (by omega) (by omega)

theorem partner_out {l : List Int} {r : Int} {k : Nat} (h : r ∉ l) (hl : l.length ≤ 1000) (hk : l.length < k) : colophonref03_partner.f k l r = some (-1, 0) :=
  partner_miss l r h hl l.length k 0 (by omega) (by omega) hk

def marks : List Int := [40, 41, 91, 93, 123, 125, 8261, 8262, 8317, 8318, 8333, 8334, 9001, 9002, 10214, 10215, 10216, 10217, 10218, 10219, 10220, 10221, 10222, 10223, 12296, 12297, 12298, 12299, 12300, 12301, 12302, 12303, 12304, 12305, 12308, 12309, 12310, 12311, 12312, 12313, 12314, 12315,
  60, 62, 171, 187, 8249, 8250, 8712, 8715, 8804, 8805, 8806, 8807, 8810, 8811, 8822, 8823, 8834, 8835, 8838, 8839]
theorem marks_all : ∀ x ∈ marks, colophonlaw03_UcdMarks.f 100 x = some true := by decide +kernel

theorem oth_miss (l : List (Int × Int)) (r : Int) (h1 : r ∉ l.map (·.1)) (h2 : r ∉ l.map (·.2)) : oth l r = (0, 0) := by
  have e1 : l.find? (fun p => r == p.1) = none := by
    rw [List.find?_eq_none]; intro p hp; simp only [beq_iff_eq]; intro e; exact h1 (List.mem_map.2 ⟨p, hp, e.symm⟩)
  have e2 : l.find? (fun p => r == p.2) = none := by
    rw [List.find?_eq_none]; intro p hp; simp only [beq_iff_eq]; intro e; exact h2 (List.mem_map.2 ⟨p, hp, e.symm⟩)
  unfold oth
  simp only [e1, e2]
theorem sub1 : ∀ x ∈ pairs1.map (·.1), x ∈ marks := by decide
theorem sub2 : ∀ x ∈ pairs1.map (·.2), x ∈ marks := by decide
theorem sub3 : ∀ x ∈ pairs2.map (·.1), x ∈ marks := by decide
theorem sub4 : ∀ x ∈ pairs2.map (·.2), x ∈ marks := by decide
theorem sub5 : ∀ x ∈ ([40, 41, 91, 93, 123, 125, 8261, 8262, 8317, 8318, 8333, 8334, 9001, 9002, 10214, 10215, 10216, 10217, 10218, 10219, 10220, 10221, 10222, 10223, 12296, 12297, 12298, 12299, 12300, 12301, 12302, 12303, 12304, 12305, 12308, 12309, 12310, 12311, 12312, 12313, 12314, 12315] : List Int), x ∈ marks := by decide
theorem sub6 : ∀ x ∈ ([40, 41, 91, 93, 123, 125, 8261, 8262, 8317, 8318, 8333, 8334, 9001, 9002, 10214, 10215, 10216, 10217, 10218, 10219, 10220, 10221, 10222, 10223, 12296, 12297, 12298, 12299, 12300, 12301, 12302, 12303, 12304, 12305, 12308, 12309, 12310, 12311, 12312, 12313, 12314, 12315] : List Int) ++ [60, 62, 171, 187, 8249, 8250, 8712, 8715, 8804, 8805, 8806, 8807, 8810, 8811, 8822, 8823, 8834, 8835, 8838, 8839], x ∈ marks := by decide
theorem bracket_miss {r : Int} (h : r ∉ marks) : ucd_Bracket.f r = some (0, 0) := by
  unfold ucd_Bracket.f
  rw [oth_miss _ _ (fun hx => h (sub1 _ hx)) (fun hx => h (sub2 _ hx))]
theorem mirror_miss {r : Int} (h : r ∉ marks) : ucd_Mirror.f r = some (0, false) := by
  unfold ucd_Mirror.f
  rw [oth_miss _ _ (fun hx => h (sub1 _ hx)) (fun hx => h (sub2 _ hx)), oth_miss _ _ (fun hx => h (sub3 _ hx)) (fun hx => h (sub4 _ hx))]
  rfl
theorem canon_miss {r : Int} (h : r ∉ marks) : ucd_Canon.f r = some r := by
  unfold ucd_Canon.f
  rw [if_neg (fun e => h (by rw [e]; decide)), if_neg (fun e => h (by rw [e]; decide))]

theorem UcdMarks : colophonlaw03_UcdMarks.Pure := by
  intro a0 _
  refine ⟨100, ?_⟩
  by_cases h : a0 ∈ marks
  · exact marks_all a0 h
  · unfold colophonlaw03_UcdMarks.f
    have hb : colophonref03_Bracket.f 100 a0 = some (0, 0) := by
      unfold colophonref03_Bracket.f colophonref03_brackets.f
      simp only [Option.bind_some]
      rw [partner_out (fun hm => h (sub5 _ hm)) (by decide) (by decide)]
      rfl
    have hm : colophonref03_Mirror.f 100 a0 = some (0, false) := by
      unfold colophonref03_Mirror.f colophonref03_brackets.f colophonref03_others.f
      simp only [Option.bind_some]
      rw [if_pos (by decide), partner_out (fun hm => h (sub6 _ hm)) (by decide) (by decide)]
      rfl
    have hc : colophonref03_Canon.f a0 = some a0 := by
      unfold colophonref03_Canon.f
      rw [if_neg (fun e => h (by rw [e]; decide)), if_neg (fun e => h (by rw [e]; decide))]
    have h40 : ucd_Bracket.f 40 = some (1, 41) := by decide
    rw [bracket_miss h, hb, mirror_miss h, hm, canon_miss h, hc, h40]
    simp
end Go.Proofs.Ytddhhncjfcolcaa.Pure
