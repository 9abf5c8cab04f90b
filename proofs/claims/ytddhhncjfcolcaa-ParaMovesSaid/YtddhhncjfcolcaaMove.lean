/- para.Move and the reference's Move tell the same of any four numbers: the contracts of both, and of 'names'. -/
import Derived.Test.YtddhhncjfcolcaaRows
import Derived.WalkKit
import Derived.WalkSpells
import Derived.WalkLawsBesides
namespace Go.Proofs.Ytddhhncjfcolcaa
open Go.RowKit
/-- a place that Move takes -/
def okp (n : Int) : Prop := 0 ≤ n ∧ n ≤ 1099511627776
instance (n : Int) : Decidable (okp n) := by unfold okp; infer_instance
/-- what Move tells -/
def mv (i a g c : Int) : Int × Int :=
  if okp i ∧ okp a ∧ okp g ∧ okp c then (if i < a then i else if i < a + g then a else i - g + c, 0) else (0, 2)
theorem mv_bad {i a g c : Int} (h : ¬ (okp i ∧ okp a ∧ okp g ∧ okp c)) : mv i a g c = (0, 2) := by unfold mv; rw [if_neg h]
theorem mv_ahead {i a g c : Int} (h : okp i ∧ okp a ∧ okp g ∧ okp c) (h1 : i < a) : mv i a g c = (i, 0) := by unfold mv; rw [if_pos h, if_pos h1]
theorem mv_gone {i a g c : Int} (h : okp i ∧ okp a ∧ okp g ∧ okp c) (h1 : ¬ i < a) (h2 : i < a + g) : mv i a g c = (a, 0) := by unfold mv; rw [if_pos h, if_neg h1, if_pos h2]
theorem mv_behind {i a g c : Int} (h : okp i ∧ okp a ∧ okp g ∧ okp c) (h1 : ¬ i < a) (h2 : ¬ i < a + g) : mv i a g c = (i - g + c, 0) := by unfold mv; rw [if_pos h, if_neg h1, if_neg h2]
def mvP (i a g c : Int) : Int := (mv i a g c).1
def mvE (i a g c : Int) : Int := (mv i a g c).2
theorem mvEnd_of {i a g c p q : Int} (h : mv i a g c = (p, q)) : (Ending.returned (.tuple #[.int .i64 p, .int .i64 q])) = .returned (.tuple #[.int .i64 (mvP i a g c), .int .i64 (mvE i a g c)]) := by unfold mvP mvE; rw [h]

set_option maxHeartbeats 1000000 in
theorem move_any (i a g c : Int) (w : World) :
    Calls Try.prog 16 #[.int .i64 i, .int .i64 a, .int .i64 g, .int .i64 c] w fun e w' => e = .returned (.tuple #[.int .i64 (mvP i a g c), .int .i64 (mvE i a g c)]) ∧ w = w' := by
  have i0 : ∀ (a b c d : Int) (w : World), (Instr.index 61 (.agg #[.int .i64 a, .int .i64 b, .int .i64 c, .int .i64 d]) (.int .i64 0)).run Try.prog w = .ok (.int .i64 a) w := fun a b c d w => by kernel_rfl
  have i1 : ∀ (a b c d : Int) (w : World), (Instr.index 61 (.agg #[.int .i64 a, .int .i64 b, .int .i64 c, .int .i64 d]) (.int .i64 1)).run Try.prog w = .ok (.int .i64 b) w := fun a b c d w => by kernel_rfl
  have i2 : ∀ (a b c d : Int) (w : World), (Instr.index 61 (.agg #[.int .i64 a, .int .i64 b, .int .i64 c, .int .i64 d]) (.int .i64 2)).run Try.prog w = .ok (.int .i64 c) w := fun a b c d w => by kernel_rfl
  have i3 : ∀ (a b c d : Int) (w : World), (Instr.index 61 (.agg #[.int .i64 a, .int .i64 b, .int .i64 c, .int .i64 d]) (.int .i64 3)).run Try.prog w = .ok (.int .i64 d) w := fun a b c d w => by kernel_rfl
  go_enter Try.func16, Try.ntmps16
  go_wp2_with fail
  refine wp_loop_rounds 5 ?_
  rw [rounds_succ]
  go_wp2_with fail
  all_goals first
    | (go_ret2; exact ⟨mvEnd_of (mv_bad (by unfold okp; omega)), rfl⟩)
    | (rw [rounds_succ]; go_wp2_with fail)
  all_goals first
    | (go_ret2; exact ⟨mvEnd_of (mv_bad (by unfold okp; omega)), rfl⟩)
    | (rw [rounds_succ]; go_wp2_with fail)
  all_goals first
    | (go_ret2; exact ⟨mvEnd_of (mv_bad (by unfold okp; omega)), rfl⟩)
    | (rw [rounds_succ]; go_wp2_with fail)
  all_goals first
    | (go_ret2; exact ⟨mvEnd_of (mv_bad (by unfold okp; omega)), rfl⟩)
    | (rw [rounds_succ]; go_wp2_with fail)
  · go_ret2; exact ⟨mvEnd_of (mv_ahead (by unfold okp; omega) (by omega)), rfl⟩
  · go_ret2; exact ⟨mvEnd_of (mv_gone (by unfold okp; omega) (by omega) (by omega)), rfl⟩
  · go_ret2; exact ⟨mvEnd_of (mv_behind (by unfold okp; omega) (by omega) (by omega)), rfl⟩


theorem names5 (w : World) : Calls Try.prog 18 #[] w fun e w' => e = .returned (.bool true) ∧ w = w' := by
  go_enter Try.func18, Try.ntmps18
  go_wp2_with fail
  go_ret
  exact ⟨rfl, rfl⟩

set_option maxHeartbeats 1000000 in
theorem refMove_any (i a g c : Int) (w : World) :
    Calls Try.prog 17 #[.int .i64 i, .int .i64 a, .int .i64 g, .int .i64 c] w fun e w' => e = .returned (.tuple #[.int .i64 (mvP i a g c), .int .i64 (mvE i a g c)]) ∧ Below w.heap.size w w' := by
  go_enter Try.func17, Try.ntmps17
  go_wp2_with fail
  refine wp_loop_rounds 5 ?_
  rw [rounds_succ]
  go_wp2_with fail
  all_goals first
    | (go_ret2; exact ⟨mvEnd_of (mv_bad (by unfold okp; omega)), (Below.refl _ _).alloc (Nat.le_refl _) _⟩)
    | (rw [rounds_succ]; go_wp2_with fail)
  all_goals first
    | (go_ret2; exact ⟨mvEnd_of (mv_bad (by unfold okp; omega)), (Below.refl _ _).alloc (Nat.le_refl _) _⟩)
    | (rw [rounds_succ]; go_wp2_with fail)
  all_goals first
    | (go_ret2; exact ⟨mvEnd_of (mv_bad (by unfold okp; omega)), (Below.refl _ _).alloc (Nat.le_refl _) _⟩)
    | (rw [rounds_succ]; go_wp2_with fail)
  all_goals first
    | (go_ret2; exact ⟨mvEnd_of (mv_bad (by unfold okp; omega)), (Below.refl _ _).alloc (Nat.le_refl _) _⟩)
    | (rw [rounds_succ]; go_wp2_with fail)
  · go_ret2; exact ⟨mvEnd_of ((mv_behind (by unfold okp; omega) (by omega) (by omega)).trans (by rw [show i - g + c = i + c - g from by omega])), (Below.refl _ _).alloc (Nat.le_refl _) _⟩
  · go_ret2; exact ⟨mvEnd_of (mv_ahead (by unfold okp; omega) (by omega)), (Below.refl _ _).alloc (Nat.le_refl _) _⟩
  · go_ret2; exact ⟨mvEnd_of (mv_gone (by unfold okp; omega) (by omega) (by omega)), (Below.refl _ _).alloc (Nat.le_refl _) _⟩

/-- ParaMoves: the walk -/
theorem paraMoves_any (i a g c : Int) (w : World) :
    Calls Try.prog 3 #[.agg #[.int .i64 i, .int .i64 a, .int .i64 g, .int .i64 c]] w fun e w' => e = .returned (.bool true) ∧ Below w.heap.size w w' := by
  have e1 : mvP 5 3 1 4 = 8 := by decide
  have e2 : mvE 5 3 1 4 = 0 := by decide
  go_enter Try.func3, Try.ntmps3
  go_wp2_with fail
  refine (move_any _ _ _ _ _).mono ?_
  rintro e w' ⟨rfl, rfl⟩
  go_wp2_with fail
  refine (refMove_any _ _ _ _ _).mono ?_
  rintro e w2 ⟨rfl, hb2⟩
  go_wp2_with fail
  refine (move_any _ _ _ _ _).mono ?_
  rintro e w' ⟨rfl, rfl⟩
  rw [e1, e2]
  clear e1 e2
  go_wp2_with fail
  refine (names5 _).mono ?_
  rintro e w' ⟨rfl, rfl⟩
  go_wp2_with fail
  go_ret
  exact ⟨rfl, ((Below.refl _ _).alloc (Nat.le_refl _) _).trans (hb2.mono (by simp))⟩
end Go.Proofs.Ytddhhncjfcolcaa
