/- ParaOrder and ParaBack, over numbers alone: Move keeps the order; and the edit the other way brings a place back. -/
import Derived.Test.YtddhhncjfcolcaaFx16
namespace Go.Proofs.Ytddhhncjfcolcaa.Pure
open Go.RowKit Go.Proofs.Ytddhhncjfcolcaa.F Go.Proofs.YtddhhncjfcolcaaW.PrintWords Go.Proofs.YtddhhncjfcolcaaW.PrintLast Go.Proofs.YtddhhncjfcolcaaW.PrintMore

theorem works_so : colophonlaw05_works.f = some true := by decide +kernel
theorem mv_code {i a g c : Int} (h : (mv i a g c).2 = 0) : okp i ∧ okp a ∧ okp g ∧ okp c := by
  by_cases hk : okp i ∧ okp a ∧ okp g ∧ okp c
  · exact hk
  · rw [mv_bad hk] at h
    exact absurd h (by decide)
theorem mv_val {i a g c : Int} (h : okp i ∧ okp a ∧ okp g ∧ okp c) : mv i a g c = (if i < a then i else if i < a + g then a else i - g + c, 0) := by unfold mv; rw [if_pos h]
theorem order_true (a0 a1 a2 a3 b : Int) : colophonlaw05_ParaOrder.f a0 a1 a2 a3 b = some true := by
  unfold colophonlaw05_ParaOrder.f
  rw [works_so]
  simp only [Option.bind_some, para_Move.f]
  rw [if_pos trivial]
  by_cases h1 : (mv (mn a0 b) a1 a2 a3).2 = 0
  · rw [if_pos h1]
    by_cases h2 : (mv (mx a0 b) a1 a2 a3).2 = 0
    · rw [if_pos h2]
      have k1 := mv_code h1
      have k2 := mv_code h2
      have hb : okp b := by
        obtain ⟨q1, -⟩ := k1
        obtain ⟨q2, -⟩ := k2
        unfold mn at q1
        unfold mx at q2
        split at q1
        · exact q1
        · split at q2
          · exact q2
          · unfold okp at *; omega
      have k3 : okp b ∧ okp a1 ∧ okp 0 ∧ okp 0 := ⟨hb, k1.2.1, by unfold okp; omega, by unfold okp; omega⟩
      rw [mv_val k1, mv_val k2, mv_val k3]
      obtain ⟨-, p1, p2, p3⟩ := k1
      unfold okp at p1 p2 p3
      have hle : mn a0 b ≤ mx a0 b := by unfold mn mx; split <;> split <;> omega
      generalize mn a0 b = x at hle ⊢
      generalize mx a0 b = y at hle ⊢
      have e1 : (if x < a1 then x else if x < a1 + a2 then a1 else x - a2 + a3) ≤ (if y < a1 then y else if y < a1 + a2 then a1 else y - a2 + a3) := by
        split <;> split <;> (try split) <;> (try split) <;> omega
      have e2 : (if b < a1 then b else if b < a1 + 0 then a1 else b - 0 + 0) = b := by
        split
        · rfl
        · split <;> omega
      rw [if_pos e1, if_pos e2]
      rfl
    · rw [if_neg h2]
  · rw [if_neg h1]
theorem back_true (a0 a1 a2 a3 : Int) : colophonlaw05_ParaBack.f a0 a1 a2 a3 = some true := by
  unfold colophonlaw05_ParaBack.f
  rw [works_so]
  simp only [Option.bind_some, para_Move.f]
  rw [if_pos trivial]
  by_cases h1 : (mv a0 a1 a2 a3).2 = 0
  · rw [if_pos h1]
    have k1 := mv_code h1
    obtain ⟨p0, p1, p2, p3⟩ := k1
    have k1 := mv_code h1
    have hw : wrap64 (a1 + a2) = a1 + a2 := by unfold okp at p1 p2; unfold wrap64; omega
    rw [hw, mv_val k1]
    have main : ∀ m : Int, (m > 1099511627776 ∨ (okp m ∧ (if m < a1 then m else if m < a1 + a3 then a1 else m - a3 + a2) = a0)) →
        (if m > 1099511627776 then some true else (if (mv m a1 a3 a2).2 = 0 then some ((mv m a1 a3 a2).1 == a0) else some false)) = some true := by
      intro m hm
      by_cases hg : m > 1099511627776
      · rw [if_pos hg]
      · rw [if_neg hg]
        rcases hm with hm | ⟨hm, he⟩
        · exact absurd hm hg
        · rw [mv_val ⟨hm, p1, p3, p2⟩, if_pos rfl]
          simp only [he, beq_self_eq_true]
    by_cases h2 : a0 ≥ a1
    · rw [if_pos h2]
      by_cases h3 : a0 < a1 + a2
      · rw [if_pos h3]
      · have e : (if a0 < a1 then a0 else if a0 < a1 + a2 then a1 else a0 - a2 + a3) = a0 - a2 + a3 := by rw [if_neg (by omega), if_neg h3]
        rw [if_neg h3, e]
        refine main _ ?_
        unfold okp at p0 p1 p2 p3
        by_cases hg : a0 - a2 + a3 > 1099511627776
        · exact .inl hg
        · refine .inr ⟨by unfold okp; omega, ?_⟩
          rw [if_neg (by omega), if_neg (by omega)]
          omega
    · have e : (if a0 < a1 then a0 else if a0 < a1 + a2 then a1 else a0 - a2 + a3) = a0 := by rw [if_pos (by omega)]
      rw [if_neg h2, e]
      refine main _ (.inr ⟨p0, ?_⟩)
      rw [if_pos (by omega)]
  · rw [if_neg h1]
end Go.Proofs.Ytddhhncjfcolcaa.Pure
