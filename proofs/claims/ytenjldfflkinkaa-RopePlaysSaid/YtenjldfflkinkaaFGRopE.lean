/- The contracts of a rope's methods: Len, Breaks, Deep, span, Insert, Delete, Split, Concat, At. -/
import Derived.Test.YtenjldfflkinkaaFGRopD
import Derived.Deep.LoopGhost
namespace Go.Proofs.Ytenjldfflkinkaa.Rop
set_option linter.unusedVariables false
set_option linter.unusedSimpArgs false
open Go.RowKit Go.Proofs.Ytenjldfflkinkaa.F Go.Proofs.YtenjldfflkinkaaW.PrintWords Go.Proofs.YtenjldfflkinkaaW.PrintLast Go.Proofs.YtenjldfflkinkaaW.PrintMore

section
variable {w : World} {p : Option Addr} {t : RT}
theorem Len_calls (h : IsR w p t) : Calls Try.prog 17 #[.pointer p] w fun e w' => e = .returned (.int .i64 (t.sz : Int)) ∧ w = w' := by
  have hno := none_no h
  obtain ⟨b, q, rfl, h1, h2, h3, h4⟩ := h
  have hs := size_calls h4
  clear h4
  go_enter Try.func17, Try.ntmps17
  go_wp2_with (first
    | (go_at_call 45; (with_reducible refine hno.mono ?_); rintro e w' ⟨rfl, rfl⟩)
    | (go_at_call 46; (with_reducible refine hs.mono ?_); rintro e w' ⟨rfl, rfl⟩))
  go_ret
  exact ⟨rfl, rfl⟩
theorem Len_no (h : NoR w p) : Calls Try.prog 17 #[.pointer p] w fun e w' => e = .returned (.int .i64 0) ∧ w = w' := by
  have hno := none_yes h
  clear h
  go_enter Try.func17, Try.ntmps17
  go_wp2_with (go_at_call 45; (with_reducible refine hno.mono ?_); rintro e w' ⟨rfl, rfl⟩)
  go_ret
  exact ⟨rfl, rfl⟩
theorem Breaks_calls (h : IsR w p t) : Calls Try.prog 23 #[.pointer p] w fun e w' => e = .returned (.int .i64 (t.bk sep : Int)) ∧ w = w' := by
  have hno := none_no h
  obtain ⟨b, q, rfl, h1, h2, h3, h4⟩ := h
  have hs := breaks_calls h4
  clear h4
  go_enter Try.func23, Try.ntmps23
  go_wp2_with (first
    | (go_at_call 45; (with_reducible refine hno.mono ?_); rintro e w' ⟨rfl, rfl⟩)
    | (go_at_call 50; (with_reducible refine hs.mono ?_); rintro e w' ⟨rfl, rfl⟩))
  go_ret
  exact ⟨rfl, rfl⟩
theorem Breaks_no (h : NoR w p) : Calls Try.prog 23 #[.pointer p] w fun e w' => e = .returned (.int .i64 0) ∧ w = w' := by
  have hno := none_yes h
  clear h
  go_enter Try.func23, Try.ntmps23
  go_wp2_with (go_at_call 45; (with_reducible refine hno.mono ?_); rintro e w' ⟨rfl, rfl⟩)
  go_ret
  exact ⟨rfl, rfl⟩
theorem Deep_calls (h : IsR w p t) : Calls Try.prog 25 #[.pointer p] w fun e w' => e = .returned (.int .i64 (t.dp : Int)) ∧ w = w' := by
  have hno := none_no h
  obtain ⟨b, q, rfl, h1, h2, h3, h4⟩ := h
  have hs := deep_calls h4
  clear h4
  go_enter Try.func25, Try.ntmps25
  go_wp2_with (first
    | (go_at_call 45; (with_reducible refine hno.mono ?_); rintro e w' ⟨rfl, rfl⟩)
    | (go_at_call 53; (with_reducible refine hs.mono ?_); rintro e w' ⟨rfl, rfl⟩))
  go_ret
  exact ⟨rfl, rfl⟩
theorem Deep_no (h : NoR w p) : Calls Try.prog 25 #[.pointer p] w fun e w' => e = .returned (.int .i64 0) ∧ w = w' := by
  have hno := none_yes h
  clear h
  go_enter Try.func25, Try.ntmps25
  go_wp2_with (go_at_call 45; (with_reducible refine hno.mono ?_); rintro e w' ⟨rfl, rfl⟩)
  go_ret
  exact ⟨rfl, rfl⟩
/-- what is wrong with places -/
def spanE (n a b : Int) : Int := if a < 0 ∨ n < b ∨ b < a then 4 else 0
theorem span_calls (h : IsR w p t) (a b : Int) : Calls Try.prog 41 #[.pointer p, .int .i64 a, .int .i64 b] w fun e w' => e = .returned (.int .i64 (spanE (t.sz : Int) a b)) ∧ w = w' := by
  have hno := none_no h
  have hlen := Len_calls h
  clear h
  unfold spanE
  by_cases h1 : a < 0
  · rw [if_pos (.inl h1)]
    have h1' : decide (a < 0) = true := decide_eq_true h1
    go_enter Try.func41, Try.ntmps41
    go_wp2_with (first
      | (go_at_call 45; (with_reducible refine hno.mono ?_); rintro e w' ⟨rfl, rfl⟩)
      | (go_at_call 17; (with_reducible refine hlen.mono ?_); rintro e w' ⟨rfl, rfl⟩))
    go_ret
    exact ⟨rfl, rfl⟩
  · have h1' : decide (a < 0) = false := decide_eq_false h1
    by_cases h2 : (t.sz : Int) < b
    · rw [if_pos (.inr (.inl h2))]
      have h2' : decide ((t.sz : Int) < b) = true := decide_eq_true h2
      go_enter Try.func41, Try.ntmps41
      go_wp2_with (first
        | (go_at_call 45; (with_reducible refine hno.mono ?_); rintro e w' ⟨rfl, rfl⟩)
        | (go_at_call 17; (with_reducible refine hlen.mono ?_); rintro e w' ⟨rfl, rfl⟩))
      go_ret
      exact ⟨rfl, rfl⟩
    · have h2' : decide ((t.sz : Int) < b) = false := decide_eq_false h2
      by_cases h3 : b < a
      · rw [if_pos (.inr (.inr h3))]
        have h3' : decide (b < a) = true := decide_eq_true h3
        go_enter Try.func41, Try.ntmps41
        go_wp2_with (first
          | (go_at_call 45; (with_reducible refine hno.mono ?_); rintro e w' ⟨rfl, rfl⟩)
          | (go_at_call 17; (with_reducible refine hlen.mono ?_); rintro e w' ⟨rfl, rfl⟩))
        go_ret
        exact ⟨rfl, rfl⟩
      · rw [if_neg (by omega)]
        have h3' : decide (b < a) = false := decide_eq_false h3
        go_enter Try.func41, Try.ntmps41
        go_wp2_with (first
          | (go_at_call 45; (with_reducible refine hno.mono ?_); rintro e w' ⟨rfl, rfl⟩)
          | (go_at_call 17; (with_reducible refine hlen.mono ?_); rintro e w' ⟨rfl, rfl⟩))
        go_ret
        exact ⟨rfl, rfl⟩
theorem span_no (h : NoR w p) (a b : Int) : Calls Try.prog 41 #[.pointer p, .int .i64 a, .int .i64 b] w fun e w' => e = .returned (.int .i64 1) ∧ w = w' := by
  have hno := none_yes h
  clear h
  go_enter Try.func41, Try.ntmps41
  go_wp2_with (go_at_call 45; (with_reducible refine hno.mono ?_); rintro e w' ⟨rfl, rfl⟩)
  go_ret
  exact ⟨rfl, rfl⟩
/-! ### Insert -/
def GivesE (t : RT) (w : World) (e : Ending) (w' : World) : Prop := ∃ p, e = .returned (.tuple #[.pointer p, .int .i64 0]) ∧ IsR w' p t ∧ Below w.heap.size w w'
def insT (t u : RT) (i : Int) : RT := RT.glue (RT.glue (RT.cut t i).1 u) (RT.cut t i).2
def delT (t : RT) (a b : Int) : RT := RT.glue (RT.cut t a).1 (RT.cut (RT.cut t a).2 (b - a)).2
set_option maxRecDepth 100000 in
set_option maxHeartbeats 2000000 in
theorem Insert_calls {zs : List Int} {A : Option Addr} {c : Nat} (h : IsR w p t) (hC : Kd.C (Kd.int .i32) w A zs.length zs) (hc : zs.length ≤ c) (hm : c ≤ 9223372036854775807) (i : Int) (h0 : 0 ≤ i) (h1 : i ≤ (t.sz : Int)) (hs : t.sz + zs.length ≤ 800000000000000) :
    Calls Try.prog 14 #[.pointer p, .int .i64 i, .slice A zs.length c] w (GivesE (insT t (RT.of zs) i) w) := by
  have hsp := span_calls h i i
  have e0 : spanE (t.sz : Int) i i = 0 := by unfold spanE; rw [if_neg (by omega)]
  rw [e0] at hsp
  obtain ⟨b, q, rfl, k1, k2, k3, k4⟩ := h
  have hcut := cut_calls t i (by omega) h0 (by omega) k4
  have hsum := RT.cut_sum t i
  have hof := RT.of_sz zs
  have hgs := RT.glue_sz (RT.cut t i).1 (RT.of zs)
  unfold insT
  generalize RT.cut t i = xy at hcut hsum hgs ⊢
  obtain ⟨x, y⟩ := xy
  simp only at hcut hsum hgs ⊢
  have hs1 : x.sz + (RT.of zs).sz ≤ 800000000000000 := by omega
  have hs2 : (RT.glue x (RT.of zs)).sz + y.sz ≤ 800000000000000 := by omega
  have HC := Aside0.mk hC
  have hs3 : zs.length ≤ 800000000000000 := by omega
  clear e0 k4 hsum hof hgs hC h0 h1 hs
  go_enter Try.func14, Try.ntmps14
  go_wp2_with (first
    | (go_at_call 41; (with_reducible refine hsp.mono ?_); rintro e w' ⟨rfl, rfl⟩)
    | (go_at_call 42; (with_reducible refine hcut.mono ?_); rintro e w1 ⟨p1, q1, rfl, hn1, hm1, hb1⟩)
    | (go_at_call 34; (with_reducible refine (grown_calls (Kd.C_below HC.out hb1) hc hm hs3).mono ?_); rintro e w2 ⟨p2, rfl, hn2, hb2⟩; have hbt2 := below_step hb1 hb2)
    | (go_at_call 43; (with_reducible refine (glue_calls (hn1.below hb2) hn2 hs1).mono ?_); rintro e w3 ⟨p3, rfl, hn3, hb3⟩; have hbt3 := below_step hbt2 hb3; have hm3 := (hm1.below hb2).below hb3)
    | (go_at_call 43; (with_reducible refine (glue_calls hn3 hm3 hs2).mono ?_); rintro e w4 ⟨p4, rfl, hn4, hb4⟩; have hbt4 := below_step hbt3 hb4)
    | (go_at_call 33; (with_reducible refine (of_calls hn4).mono ?_); rintro e w5 ⟨p5, rfl, hn5, hb5⟩))
  go_ret2
  exact ⟨p5, rfl, hn5, below_step hbt4 hb5⟩
set_option maxRecDepth 100000 in
set_option maxHeartbeats 2000000 in
theorem Insert_bad {v : Value} {i : Int} {x : Int} (hx : x ≠ 0) (hsp : Calls Try.prog 41 #[.pointer p, .int .i64 i, .int .i64 i] w fun e w' => e = .returned (.int .i64 x) ∧ w = w') :
    Calls Try.prog 14 #[.pointer p, .int .i64 i, v] w fun e w' => e = .returned (.tuple #[.pointer none, .int .i64 x]) ∧ w = w' := by
  have hx1 : (x != 0) = true := by simpa using hx
  go_enter Try.func14, Try.ntmps14
  go_wp2_with (go_at_call 41; (with_reducible refine hsp.mono ?_); rintro e w' ⟨rfl, rfl⟩)
  go_ret2
  exact ⟨rfl, rfl⟩
set_option maxRecDepth 100000 in
set_option maxHeartbeats 2000000 in
theorem Delete_calls (h : IsR w p t) (a b : Int) (h0 : 0 ≤ a) (h1 : a ≤ b) (h2 : b ≤ (t.sz : Int)) (hs : t.sz ≤ 800000000000000) :
    Calls Try.prog 13 #[.pointer p, .int .i64 a, .int .i64 b] w (GivesE (delT t a b) w) := by
  have hsp := span_calls h a b
  have e0 : spanE (t.sz : Int) a b = 0 := by unfold spanE; rw [if_neg (by omega)]
  rw [e0] at hsp
  obtain ⟨g, q, rfl, k1, k2, k3, k4⟩ := h
  have hcut := cut_calls t a (by omega) h0 (by omega) k4
  have hsum := RT.cut_sum t a
  unfold delT
  generalize RT.cut t a = xy at hcut hsum ⊢
  obtain ⟨x, y⟩ := xy
  simp only at hcut hsum ⊢
  have hcut2 := fun w q => cut_calls y (b - a) (by omega) (by omega) (by omega) (w := w) (p := q)
  have hsum2 := RT.cut_sum y (b - a)
  generalize RT.cut y (b - a) = uv at hcut2 hsum2 ⊢
  obtain ⟨u, v⟩ := uv
  simp only at hcut2 hsum2 ⊢
  have hs1 : x.sz + v.sz ≤ 800000000000000 := by omega
  have hb1 : b ≤ 1000000000000000 := by omega
  have HC2 := Aside0.mk hcut2
  clear e0 k4 hsum hsum2 hs hcut2
  go_enter Try.func13, Try.ntmps13
  go_wp2_with (first
    | (go_at_call 41; (with_reducible refine hsp.mono ?_); rintro e w' ⟨rfl, rfl⟩)
    | (go_at_call 42; (with_reducible refine hcut.mono ?_); rintro e w1 ⟨p1, q1, rfl, hn1, hm1, hb1⟩)
    | (go_at_call 42; (with_reducible refine (HC2.out _ _ hm1).mono ?_); rintro e w2 ⟨p2, q2, rfl, hn2, hm2, hb2⟩; have hbt2 := below_step hb1 hb2)
    | (go_at_call 43; (with_reducible refine (glue_calls (hn1.below hb2) hm2 hs1).mono ?_); rintro e w4 ⟨p4, rfl, hn4, hb4⟩; have hbt4 := below_step hbt2 hb4)
    | (go_at_call 33; (with_reducible refine (of_calls hn4).mono ?_); rintro e w5 ⟨p5, rfl, hn5, hb5⟩))
  go_ret2
  exact ⟨p5, rfl, hn5, below_step hbt4 hb5⟩
set_option maxRecDepth 100000 in
set_option maxHeartbeats 2000000 in
theorem Delete_bad {a b : Int} {x : Int} (hx : x ≠ 0) (hsp : Calls Try.prog 41 #[.pointer p, .int .i64 a, .int .i64 b] w fun e w' => e = .returned (.int .i64 x) ∧ w = w') :
    Calls Try.prog 13 #[.pointer p, .int .i64 a, .int .i64 b] w fun e w' => e = .returned (.tuple #[.pointer none, .int .i64 x]) ∧ w = w' := by
  have hx1 : (x != 0) = true := by simpa using hx
  go_enter Try.func13, Try.ntmps13
  go_wp2_with (go_at_call 41; (with_reducible refine hsp.mono ?_); rintro e w' ⟨rfl, rfl⟩)
  go_ret2
  exact ⟨rfl, rfl⟩
def GivesS (t u : RT) (w : World) (e : Ending) (w' : World) : Prop := ∃ p q, e = .returned (.tuple #[.pointer p, .pointer q, .int .i64 0]) ∧ IsR w' p t ∧ IsR w' q u ∧ Below w.heap.size w w'
set_option maxRecDepth 100000 in
set_option maxHeartbeats 2000000 in
theorem Split_calls (h : IsR w p t) (i : Int) (h0 : 0 ≤ i) (h1 : i ≤ (t.sz : Int)) (hs : t.sz ≤ 800000000000000) :
    Calls Try.prog 27 #[.pointer p, .int .i64 i] w (GivesS (RT.cut t i).1 (RT.cut t i).2 w) := by
  have hsp := span_calls h i i
  have e0 : spanE (t.sz : Int) i i = 0 := by unfold spanE; rw [if_neg (by omega)]
  rw [e0] at hsp
  obtain ⟨g, q, rfl, k1, k2, k3, k4⟩ := h
  have hcut := cut_calls t i (by omega) h0 (by omega) k4
  generalize RT.cut t i = xy at hcut ⊢
  obtain ⟨x, y⟩ := xy
  simp only at hcut ⊢
  clear e0 k4 hs
  go_enter Try.func27, Try.ntmps27
  go_wp2_with (first
    | (go_at_call 41; (with_reducible refine hsp.mono ?_); rintro e w' ⟨rfl, rfl⟩)
    | (go_at_call 42; (with_reducible refine hcut.mono ?_); rintro e w1 ⟨p1, q1, rfl, hn1, hm1, hb1⟩)
    | (go_at_call 33; (with_reducible refine (of_calls hn1).mono ?_); rintro e w2 ⟨p2, rfl, hn2, hb2⟩; have hbt2 := below_step hb1 hb2; have hm2 := hm1.below hb2)
    | (go_at_call 33; (with_reducible refine (of_calls hm2).mono ?_); rintro e w3 ⟨p3, rfl, hn3, hb3⟩))
  refine bodyPost_ret (v := .tuple #[.pointer p2, .pointer p3, .int .i64 0]) (by simp [results, Try.results27, go_sem]) rfl ?_
  exact ⟨p2, p3, rfl, hn2.below hb3, hn3, below_step hbt2 hb3⟩
set_option maxRecDepth 100000 in
set_option maxHeartbeats 2000000 in
theorem Split_bad {i : Int} {x : Int} (hx : x ≠ 0) (hsp : Calls Try.prog 41 #[.pointer p, .int .i64 i, .int .i64 i] w fun e w' => e = .returned (.int .i64 x) ∧ w = w') :
    Calls Try.prog 27 #[.pointer p, .int .i64 i] w fun e w' => e = .returned (.tuple #[.pointer none, .pointer none, .int .i64 x]) ∧ w = w' := by
  have hx1 : (x != 0) = true := by simpa using hx
  go_enter Try.func27, Try.ntmps27
  go_wp2_with (go_at_call 41; (with_reducible refine hsp.mono ?_); rintro e w' ⟨rfl, rfl⟩)
  exact bodyPost_ret (v := .tuple #[.pointer none, .pointer none, .int .i64 x]) (by simp [results, Try.results27, go_sem]) rfl ⟨rfl, rfl⟩
end
end Go.Proofs.Ytenjldfflkinkaa.Rop
