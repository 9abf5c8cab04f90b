/- The tree of a rope in memory; the contracts of size, deep, breaks, made. -/
import Derived.Test.YtenjldfflkinkaaRopT
import Derived.Test.YtenjldfflkinkaaFGCls
import Derived.StillTailTactics
namespace Go.Proofs.Ytenjldfflkinkaa.Rop
set_option linter.unusedVariables false
set_option linter.unusedSimpArgs false
open Go.RowKit Go.Proofs.Ytenjldfflkinkaa.F Go.Proofs.YtenjldfflkinkaaW.PrintWords Go.Proofs.YtenjldfflkinkaaW.PrintLast Go.Proofs.YtenjldfflkinkaaW.PrintMore

/-- is it a separator? -/
def sep (c : Int) : Bool := decide (clsOf c = 11)
/-- A pointer to a tree, in blocks below n. -/
def NodeAt (n : Nat) (W : World) : Option Addr → RT → Prop
  | p, .nil => p = none
  | p, .node l c r => ∃ (b : Nat) (pl pr : Option Addr), p = some ⟨b, 0, none⟩ ∧ b < n ∧ W.cell? ⟨b, 0, none⟩ = some (.int .i32 c) ∧ W.cell? ⟨b, 1, none⟩ = some (.pointer pl) ∧ W.cell? ⟨b, 2, none⟩ = some (.pointer pr) ∧
      W.cell? ⟨b, 3, none⟩ = some (.int .i64 ((RT.node l c r).sz : Int)) ∧ W.cell? ⟨b, 4, none⟩ = some (.int .i64 ((RT.node l c r).dp : Int)) ∧ W.cell? ⟨b, 5, none⟩ = some (.int .i64 ((RT.node l c r).bk sep : Int)) ∧ NodeAt n W pl l ∧ NodeAt n W pr r
theorem NodeAt.below {n : Nat} {A B : World} (h : Below n A B) : ∀ {p : Option Addr} {t : RT}, NodeAt n A p t → NodeAt n B p t
  | _, .nil, ht => ht
  | _, .node _ _ _, ⟨b, pl, pr, hp, hb, h0, h1, h2, h3, h4, h5, hl, hr⟩ => ⟨b, pl, pr, hp, hb, (h.cell (p := ⟨b, 0, none⟩) hb).trans h0, (h.cell (p := ⟨b, 1, none⟩) hb).trans h1, (h.cell (p := ⟨b, 2, none⟩) hb).trans h2, (h.cell (p := ⟨b, 3, none⟩) hb).trans h3, (h.cell (p := ⟨b, 4, none⟩) hb).trans h4, (h.cell (p := ⟨b, 5, none⟩) hb).trans h5, hl.below h, hr.below h⟩
theorem NodeAt.mono {n m : Nat} {W : World} (h : n ≤ m) : ∀ {p : Option Addr} {t : RT}, NodeAt n W p t → NodeAt m W p t
  | _, .nil, ht => ht
  | _, .node _ _ _, ⟨b, pl, pr, hp, hb, h0, h1, h2, h3, h4, h5, hl, hr⟩ => ⟨b, pl, pr, hp, Nat.lt_of_lt_of_le hb h, h0, h1, h2, h3, h4, h5, hl.mono h, hr.mono h⟩
/-- A pointer to a tree, in the world as it stands. -/
def Nd (W : World) (p : Option Addr) (t : RT) : Prop := NodeAt W.heap.size W p t
theorem Nd.below {A B : World} {p : Option Addr} {t : RT} (ht : Nd A p t) (h : Below A.heap.size A B) : Nd B p t := (NodeAt.below h ht).mono h.size
theorem Nd.nil (W : World) : Nd W none .nil := rfl
theorem Nd.none_iff {W : World} {p : Option Addr} {t : RT} (h : Nd W p t) : p = none ↔ t = .nil := by
  cases t with
  | nil => exact ⟨fun _ => rfl, fun _ => h⟩
  | node l c r =>
    obtain ⟨b, pl, pr, rfl, _⟩ := h
    exact ⟨fun h => (by cases h), fun h => (by cases h)⟩

theorem size_calls {w : World} {p : Option Addr} {t : RT} (h : Nd w p t) : Calls Try.prog 46 #[.pointer p] w fun e w' => e = .returned (.int .i64 (t.sz : Int)) ∧ w = w' := by
  cases t with
  | nil =>
    obtain rfl : p = none := h
    go_enter Try.func46, Try.ntmps46
    go_wp2
    go_ret
    exact ⟨rfl, rfl⟩
  | node l c r =>
    obtain ⟨b, pl, pr, rfl, hb, h0, h1, h2, h3, h4, h5, hl, hr⟩ := h
    go_enter Try.func46, Try.ntmps46
    go_wp2
    go_ret
    exact ⟨rfl, rfl⟩
theorem deep_calls {w : World} {p : Option Addr} {t : RT} (h : Nd w p t) : Calls Try.prog 53 #[.pointer p] w fun e w' => e = .returned (.int .i64 (t.dp : Int)) ∧ w = w' := by
  cases t with
  | nil =>
    obtain rfl : p = none := h
    go_enter Try.func53, Try.ntmps53
    go_wp2
    go_ret
    exact ⟨rfl, rfl⟩
  | node l c r =>
    obtain ⟨b, pl, pr, rfl, hb, h0, h1, h2, h3, h4, h5, hl, hr⟩ := h
    go_enter Try.func53, Try.ntmps53
    go_wp2
    go_ret
    exact ⟨rfl, rfl⟩
theorem breaks_calls {w : World} {p : Option Addr} {t : RT} (h : Nd w p t) : Calls Try.prog 50 #[.pointer p] w fun e w' => e = .returned (.int .i64 (t.bk sep : Int)) ∧ w = w' := by
  cases t with
  | nil =>
    obtain rfl : p = none := h
    go_enter Try.func50, Try.ntmps50
    go_wp2
    go_ret
    exact ⟨rfl, rfl⟩
  | node l c r =>
    obtain ⟨b, pl, pr, rfl, hb, h0, h1, h2, h3, h4, h5, hl, hr⟩ := h
    go_enter Try.func50, Try.ntmps50
    go_wp2
    go_ret
    exact ⟨rfl, rfl⟩
theorem cell_off {W : World} {b o o' : Nat} {v : Value} (h : o ≠ o') : (W.setCell ⟨b, o, none⟩ v).cell? ⟨b, o', none⟩ = W.cell? ⟨b, o', none⟩ :=
  World.cell?_setCell_other _ _ _ _ (by intro e; injection e with _ e2 _; exact h e2)
theorem Nd.mk {W : World} {b : Nat} {pl pr : Option Addr} {l r : RT} {c : Int} (hb : b < W.heap.size) (h0 : W.cell? ⟨b, 0, none⟩ = some (.int .i32 c)) (h1 : W.cell? ⟨b, 1, none⟩ = some (.pointer pl)) (h2 : W.cell? ⟨b, 2, none⟩ = some (.pointer pr))
    (h3 : W.cell? ⟨b, 3, none⟩ = some (.int .i64 ((RT.node l c r).sz : Int))) (h4 : W.cell? ⟨b, 4, none⟩ = some (.int .i64 ((RT.node l c r).dp : Int))) (h5 : W.cell? ⟨b, 5, none⟩ = some (.int .i64 ((RT.node l c r).bk sep : Int))) (hl : Nd W pl l) (hr : Nd W pr r) : Nd W (some ⟨b, 0, none⟩) (.node l c r) :=
  ⟨b, pl, pr, rfl, hb, h0, h1, h2, h3, h4, h5, hl, hr⟩
set_option maxHeartbeats 2000000 in
theorem made_calls {w : World} {pl pr : Option Addr} {l r : RT} {c : Int} (hl : Nd w pl l) (hr : Nd w pr r) (hs : l.sz + r.sz ≤ 1000000000000000) :
    Calls Try.prog 59 #[.pointer pl, .int .i32 c, .pointer pr] w fun e w' => ∃ p, e = .returned (.pointer p) ∧ Nd w' p (.node l c r) ∧ Below w.heap.size w w' := by
  have b1 := RT.dp_le l
  have b2 := RT.dp_le r
  have b3 := RT.bk_le sep l
  have b4 := RT.bk_le sep r
  have hcl : ucd_Class.f c = some (clsOf c) := rfl
  obtain ⟨d, hd⟩ : ∃ d : Nat, 1 + max l.dp r.dp = d := ⟨_, rfl⟩
  obtain ⟨q, hq⟩ : ∃ q : Int, clsOf c = q := ⟨_, rfl⟩
  have hbk : (RT.node l c r).bk sep = l.bk sep + r.bk sep + if q = 11 then 1 else 0 := by
    rw [← hq]
    simp [RT.bk, sep]
  have HBK := Aside0.mk hbk
  have HD := Aside0.mk hd
  rw [hq] at hcl
  have HQ := Aside0.mk hq
  have HL := Aside0.mk hl
  have HR := Aside0.mk hr
  clear hl hr hbk hq hd
  by_cases hlt : l.dp < r.dp
  all_goals
    by_cases h11 : q = 11
    · subst h11
      go_enter Try.func59, Try.ntmps59
      go_wp2_with (first
        | (go_at_call 46; (first | (with_reducible refine (size_calls HL.out).mono ?_) | (with_reducible refine (size_calls HR.out).mono ?_)); rintro e w' ⟨rfl, rfl⟩)
        | (go_at_call 53; (first | (with_reducible refine (deep_calls HL.out).mono ?_) | (with_reducible refine (deep_calls HR.out).mono ?_)); rintro e w' ⟨rfl, rfl⟩)
        | (go_at_call 50; (first | (with_reducible refine (breaks_calls HL.out).mono ?_) | (with_reducible refine (breaks_calls HR.out).mono ?_)); rintro e w' ⟨rfl, rfl⟩)
        | (go_at_call 67; refine (ucd_Class.calls _ _ _ hcl).mono ?_; rintro e w2 ⟨rfl, hb2⟩
           have hc5 := hb2.cell (p := ⟨w.heap.size, 5, none⟩) (by simp)
           have hf5 := hb2.frozen (p := ⟨w.heap.size, 5, none⟩) (by simp)
           simp at hc5 hf5))
      go_ret
      have hb := ((Below.refl w.heap.size w).alloc (Nat.le_refl _) _).trans (hb2.mono (by simp))
      have hb3 := hb.setCell (p := ⟨w.heap.size, 5, none⟩) (Nat.le_refl _) (.int .i64 ((l.bk sep : Int) + (r.bk sep : Int) + 1))
      refine ⟨_, rfl, Nd.mk (b := w.heap.size) (by have := hb2.size; simp at this; first | omega | (simp; omega)) ?_ ?_ ?_ ?_ ?_ ?_ (HL.out.below hb3) (HR.out.below hb3), hb3⟩
      · rw [cell_off (by decide)]
        exact (hb2.cell (p := ⟨w.heap.size, 0, none⟩) (by simp)).trans (by simp)
      · rw [cell_off (by decide)]
        exact (hb2.cell (p := ⟨w.heap.size, 1, none⟩) (by simp)).trans (by simp)
      · rw [cell_off (by decide)]
        exact (hb2.cell (p := ⟨w.heap.size, 2, none⟩) (by simp)).trans (by simp)
      · rw [cell_off (by decide)]
        refine (hb2.cell (p := ⟨w.heap.size, 3, none⟩) (by simp)).trans ?_
        simp [RT.sz]
      · rw [cell_off (by decide)]
        refine (hb2.cell (p := ⟨w.heap.size, 4, none⟩) (by simp)).trans ?_
        simp [RT.dp]
        omega
      · rw [World.cell?_setCell_same _ _ _ hc5, HBK.out]
        simp
    · have hq1 : (q == 11) = false := by simpa using h11
      go_enter Try.func59, Try.ntmps59
      go_wp2_with (first
        | (go_at_call 46; (first | (with_reducible refine (size_calls HL.out).mono ?_) | (with_reducible refine (size_calls HR.out).mono ?_)); rintro e w' ⟨rfl, rfl⟩)
        | (go_at_call 53; (first | (with_reducible refine (deep_calls HL.out).mono ?_) | (with_reducible refine (deep_calls HR.out).mono ?_)); rintro e w' ⟨rfl, rfl⟩)
        | (go_at_call 50; (first | (with_reducible refine (breaks_calls HL.out).mono ?_) | (with_reducible refine (breaks_calls HR.out).mono ?_)); rintro e w' ⟨rfl, rfl⟩)
        | (go_at_call 67; refine (ucd_Class.calls _ _ _ hcl).mono ?_; rintro e w2 ⟨rfl, hb2⟩))
      go_ret
      have hb := ((Below.refl w.heap.size w).alloc (Nat.le_refl _) _).trans (hb2.mono (by simp))
      refine ⟨_, rfl, Nd.mk (b := w.heap.size) (by have := hb2.size; simp at this; first | omega | (simp; omega)) ((hb2.cell (p := ⟨w.heap.size, 0, none⟩) (by simp)).trans (by simp)) ((hb2.cell (p := ⟨w.heap.size, 1, none⟩) (by simp)).trans (by simp)) ((hb2.cell (p := ⟨w.heap.size, 2, none⟩) (by simp)).trans (by simp)) ?_ ?_ ?_ (HL.out.below hb) (HR.out.below hb), hb⟩
      · refine (hb2.cell (p := ⟨w.heap.size, 3, none⟩) (by simp)).trans ?_
        simp [RT.sz]
      · refine (hb2.cell (p := ⟨w.heap.size, 4, none⟩) (by simp)).trans ?_
        simp [RT.dp]
        omega
      · refine (hb2.cell (p := ⟨w.heap.size, 5, none⟩) (by simp)).trans ?_
        rw [HBK.out, if_neg h11]
        simp
end Go.Proofs.Ytenjldfflkinkaa.Rop
