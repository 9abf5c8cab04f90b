/- para.Move and the reference's Move by their contracts: both tell 'mv' of their four numbers. -/
import Derived.Test.YtddhhncjfcolcaaFx0
import Derived.WalkSpells
import Derived.WalkLawsBesides
namespace Go.Proofs.Ytddhhncjfcolcaa.F
set_option linter.unusedVariables false
set_option linter.unusedSimpArgs false
open Go.RowKit Go.Proofs.YtddhhncjfcolcaaW.PrintWords Go.Proofs.YtddhhncjfcolcaaW.PrintLast Go.Proofs.YtddhhncjfcolcaaW.PrintMore

/-- a place that Move takes -/
def okp (n : Int) : Prop := 0 ≤ n ∧ n ≤ 1099511627776
instance (n : Int) : Decidable (okp n) := by unfold okp; infer_instance
/-- what Move tells -/
def mv (i a g c : Int) : Int × Int :=
  if okp i ∧ okp a ∧ okp g ∧ okp c then (if i < a then i else if i < a + g then a else i - g + c, 0) else (0, 2)
theorem mv_bad {i a g c : Int} (h : ¬ (okp i ∧ okp a ∧ okp g ∧ okp c)) : mv i a g c = (0, 2) := by unfold mv; rw [if_neg h]
theorem mv_ahead {i a g c : Int} (h : okp i ∧ okp a ∧ okp g ∧ okp c) (h1 : i < a) : mv i a g c = (i, 0) := by unfold mv; rw [if_pos h, if_pos h1]
theorem mv_gone {i a g c : Int} (h : okp i ∧ okp a ∧ okp g ∧ okp c) (h1 : ¬ i < a) (h2 : i < a + g) : mv i a g c = (a, 0) := by unfold mv; rw [if_pos h, if_neg h1, if_pos h2]
theorem mv_behind {i a g c : Int} (h : okp i ∧ okp a ∧ okp g ∧ okp c) (h1 : ¬ i < a) (h2 : ¬ i < a + g) : mv i a g c = (i - g + c, 0) := by unfold mv; rw [if_pos h, if_neg h1, if_neg h2]
def para_Move.f (a0 a1 a2 a3 : Int) : Option (Int × Int) := some (mv a0 a1 a2 a3)
def colophonref05_Move.f (a0 a1 a2 a3 : Int) : Option (Int × Int) := some (mv a0 a1 a2 a3)
theorem mvEnd_of {i a g c p q r1 r2 : Int} (h : mv i a g c = (p, q)) (hr : some (mv i a g c) = some (r1, r2)) : (Ending.returned (.tuple #[.int .i64 p, .int .i64 q])) = .returned (.tuple #[.int .i64 r1, .int .i64 r2]) := by
  rw [h] at hr; simp only [Option.some.injEq, Prod.mk.injEq] at hr; rw [hr.1, hr.2]

set_option maxHeartbeats 1000000 in
theorem para_Move.calls (i a g c : Int) (r1 r2 : Int) (w : World) (h : para_Move.f i a g c = some (r1, r2)) :
    Calls Try.prog 16 #[.int .i64 i, .int .i64 a, .int .i64 g, .int .i64 c] w fun e w' => e = .returned (.tuple #[.int .i64 r1, .int .i64 r2]) ∧ Drawn0 w w' := by
  have HR := Aside0.mk (show some (mv i a g c) = some (r1, r2) from h)
  clear h
  have i0 : ∀ (a b c d : Int) (w : World), (Instr.index 61 (.agg #[.int .i64 a, .int .i64 b, .int .i64 c, .int .i64 d]) (.int .i64 0)).run Try.prog w = .ok (.int .i64 a) w := fun a b c d w => by kernel_rfl
  have i1 : ∀ (a b c d : Int) (w : World), (Instr.index 61 (.agg #[.int .i64 a, .int .i64 b, .int .i64 c, .int .i64 d]) (.int .i64 1)).run Try.prog w = .ok (.int .i64 b) w := fun a b c d w => by kernel_rfl
  have i2 : ∀ (a b c d : Int) (w : World), (Instr.index 61 (.agg #[.int .i64 a, .int .i64 b, .int .i64 c, .int .i64 d]) (.int .i64 2)).run Try.prog w = .ok (.int .i64 c) w := fun a b c d w => by kernel_rfl
  have i3 : ∀ (a b c d : Int) (w : World), (Instr.index 61 (.agg #[.int .i64 a, .int .i64 b, .int .i64 c, .int .i64 d]) (.int .i64 3)).run Try.prog w = .ok (.int .i64 d) w := fun a b c d w => by kernel_rfl
  go_enter Try.func16, Try.ntmps16
  go_wp2_with fail
  refine wp_loop_rounds 5 ?_
  rw [rounds_succ]
  go_wp2_with fail
  all_goals first
    | (go_ret2; exact ⟨mvEnd_of (mv_bad (by unfold okp; omega)) HR.out, Drawn0.refl _⟩)
    | (rw [rounds_succ]; go_wp2_with fail)
  all_goals first
    | (go_ret2; exact ⟨mvEnd_of (mv_bad (by unfold okp; omega)) HR.out, Drawn0.refl _⟩)
    | (rw [rounds_succ]; go_wp2_with fail)
  all_goals first
    | (go_ret2; exact ⟨mvEnd_of (mv_bad (by unfold okp; omega)) HR.out, Drawn0.refl _⟩)
    | (rw [rounds_succ]; go_wp2_with fail)
  all_goals first
    | (go_ret2; exact ⟨mvEnd_of (mv_bad (by unfold okp; omega)) HR.out, Drawn0.refl _⟩)
    | (rw [rounds_succ]; go_wp2_with fail)
  · go_ret2; exact ⟨mvEnd_of (mv_ahead (by unfold okp; omega) (by omega)) HR.out, Drawn0.refl _⟩
  · go_ret2; exact ⟨mvEnd_of (mv_gone (by unfold okp; omega) (by omega) (by omega)) HR.out, Drawn0.refl _⟩
  · go_ret2; exact ⟨mvEnd_of (mv_behind (by unfold okp; omega) (by omega) (by omega)) HR.out, Drawn0.refl _⟩

set_option maxHeartbeats 1000000 in
theorem colophonref05_Move.calls (i a g c : Int) (r1 r2 : Int) (w : World) (h : colophonref05_Move.f i a g c = some (r1, r2)) :
    Calls Try.prog 17 #[.int .i64 i, .int .i64 a, .int .i64 g, .int .i64 c] w fun e w' => e = .returned (.tuple #[.int .i64 r1, .int .i64 r2]) ∧ Below w.heap.size w w' := by
  have HR := Aside0.mk (show some (mv i a g c) = some (r1, r2) from h)
  clear h
  go_enter Try.func17, Try.ntmps17
  go_wp2_with fail
  refine wp_loop_rounds 5 ?_
  rw [rounds_succ]
  go_wp2_with fail
  all_goals first
    | (go_ret2; exact ⟨mvEnd_of (mv_bad (by unfold okp; omega)) HR.out, (Below.refl _ _).alloc (Nat.le_refl _) _⟩)
    | (rw [rounds_succ]; go_wp2_with fail)
  all_goals first
    | (go_ret2; exact ⟨mvEnd_of (mv_bad (by unfold okp; omega)) HR.out, (Below.refl _ _).alloc (Nat.le_refl _) _⟩)
    | (rw [rounds_succ]; go_wp2_with fail)
  all_goals first
    | (go_ret2; exact ⟨mvEnd_of (mv_bad (by unfold okp; omega)) HR.out, (Below.refl _ _).alloc (Nat.le_refl _) _⟩)
    | (rw [rounds_succ]; go_wp2_with fail)
  all_goals first
    | (go_ret2; exact ⟨mvEnd_of (mv_bad (by unfold okp; omega)) HR.out, (Below.refl _ _).alloc (Nat.le_refl _) _⟩)
    | (rw [rounds_succ]; go_wp2_with fail)
  · go_ret2; exact ⟨mvEnd_of ((mv_behind (by unfold okp; omega) (by omega) (by omega)).trans (by rw [show i - g + c = i + c - g from by omega])) HR.out, (Below.refl _ _).alloc (Nat.le_refl _) _⟩
  · go_ret2; exact ⟨mvEnd_of (mv_ahead (by unfold okp; omega) (by omega)) HR.out, (Below.refl _ _).alloc (Nat.le_refl _) _⟩
  · go_ret2; exact ⟨mvEnd_of (mv_gone (by unfold okp; omega) (by omega) (by omega)) HR.out, (Below.refl _ _).alloc (Nat.le_refl _) _⟩
end Go.Proofs.Ytddhhncjfcolcaa.F
