/- The contracts of join, cut and glue. -/
import Derived.Test.YtenjldfflkinkaaFGRopB
namespace Go.Proofs.Ytenjldfflkinkaa.Rop
set_option linter.unusedVariables false
set_option linter.unusedSimpArgs false
open Go.RowKit Go.Proofs.Ytenjldfflkinkaa.F Go.Proofs.YtenjldfflkinkaaW.PrintWords Go.Proofs.YtenjldfflkinkaaW.PrintLast Go.Proofs.YtenjldfflkinkaaW.PrintMore

set_option maxRecDepth 100000 in
set_option maxHeartbeats 4000000 in
/-- the left one is deeper -/
theorem join_a {w : World} {pl pr : Option Addr} {ll lr r : RT} {lc c : Int} (hl : Nd w pl (RT.node ll lc lr)) (hr : Nd w pr r) (hs : ll.sz + lr.sz + r.sz ≤ 800000000000000) (h1 : r.dp + 1 < (RT.node ll lc lr).dp)
    (ih : ∀ {w : World} {pl pr : Option Addr}, Nd w pl lr → Nd w pr r → Calls Try.prog 64 #[.pointer pl, .int .i32 c, .pointer pr] w (Gives (RT.join lr c r) w)) :
    Calls Try.prog 64 #[.pointer pl, .int .i32 c, .pointer pr] w (Gives (RT.even ll lc (RT.join lr c r)) w) := by
  have b1 := RT.dp_le r
  have b4 := RT.dp_le (RT.node ll lc lr)
  have e1 : (RT.node ll lc lr).sz = ll.sz + lr.sz + 1 := rfl
  have e2 := RT.sz_join lr c r
  have hsj : ll.sz + (RT.join lr c r).sz ≤ 900000000000000 := by omega
  obtain ⟨d, hd⟩ : ∃ d, (RT.node ll lc lr).dp = d := ⟨_, rfl⟩
  have HN := Aside0.mk hl
  have HR := Aside0.mk hr
  rw [hd] at h1 b4
  have h1' : ((r.dp : Nat) : Int) + 1 < (d : Int) := by omega
  obtain ⟨b, qa, qb, rfl, hb, c0, c1, c2, c3, c4, c5, hll, hlr⟩ := hl
  have HLL := Aside0.mk (show Nd w qa ll from hll)
  have HLR := Aside0.mk (show Nd w qb lr from hlr)
  have hdl : Calls Try.prog 53 #[.pointer (some ⟨b, 0, none⟩)] w fun e w' => e = .returned (.int .i64 (d : Int)) ∧ w = w' := by
    have := deep_calls HN.out
    rw [hd] at this
    exact this
  have hdr := deep_calls HR.out
  clear hr hd hll hlr c3 c4 c5 e1 e2
  go_enter Try.func64, Try.ntmps64
  go_wp2_with (go_at_call 53; (first | (with_reducible refine hdl.mono ?_) | (with_reducible refine hdr.mono ?_)); rintro e w' ⟨rfl, rfl⟩)
  go_region_held3 (fun W' => W'.cell? ⟨b, 0, none⟩ = some (.int .i32 lc) ∧ W'.cell? ⟨b, 1, none⟩ = some (.pointer qa) ∧ W'.cell? ⟨b, 2, none⟩ = some (.pointer qb) ∧ Below w.heap.size w W')
    (((try dsimp only); (repeat' apply And.intro); all_goals (first | assumption | exact Below.refl _ _ | exact below_drew1 (pw_below_drewN (Below.refl _ _) _) | exact below_drew1 (Below.refl _ _) | exact below_drew1 (by assumption) | exact below_step (by assumption) (by assumption) | go_keep)))
    (first
      | (go_at_call 64; (with_reducible refine (ih (HLR.out.below (by (first | assumption | exact Below.refl _ _ | exact pw_below_drewN (Below.refl _ _) _ | exact below_drew1 (pw_below_drewN (Below.refl _ _) _) | exact below_drew1 (Below.refl _ _) | exact pw_below_drewN (by assumption) _ | exact below_drew1 (by assumption)))) (HR.out.below (by (first | assumption | exact Below.refl _ _ | exact pw_below_drewN (Below.refl _ _) _ | exact below_drew1 (pw_below_drewN (Below.refl _ _) _) | exact below_drew1 (Below.refl _ _) | exact pw_below_drewN (by assumption) _ | exact below_drew1 (by assumption))))).mono ?_); rintro e w1 ⟨p1, rfl, hn1, hb1⟩; have hbt1 := below_step (w := w) (by (first | assumption | exact Below.refl _ _ | exact pw_below_drewN (Below.refl _ _) _ | exact below_drew1 (pw_below_drewN (Below.refl _ _) _) | exact below_drew1 (Below.refl _ _) | exact pw_below_drewN (by assumption) _ | exact below_drew1 (by assumption))) hb1; have k1_0 := (hbt1.cell (p := ⟨b, 0, none⟩) hb).trans c0; have k1_1 := (hbt1.cell (p := ⟨b, 1, none⟩) hb).trans c1; have k1_2 := (hbt1.cell (p := ⟨b, 2, none⟩) hb).trans c2)
      | (go_at_call 73; (with_reducible refine (even_calls (l := ll) (HLL.out.below hbt1) hn1 hsj).mono ?_); rintro e w2 ⟨p2, rfl, hn2, hb2⟩; have hbt2 := below_step (w := w) hbt1 hb2; have k2_0 := (hbt2.cell (p := ⟨b, 0, none⟩) hb).trans c0; have k2_1 := (hbt2.cell (p := ⟨b, 1, none⟩) hb).trans c1; have k2_2 := (hbt2.cell (p := ⟨b, 2, none⟩) hb).trans c2))
  go_wp2
  go_ret
  exact ⟨p2, rfl, hn2, hbt2⟩
set_option maxRecDepth 100000 in
set_option maxHeartbeats 4000000 in
/-- the right one is deeper -/
theorem join_b {w : World} {pl pr : Option Addr} {l rl rr : RT} {rc c : Int} (hl : Nd w pl l) (hr : Nd w pr (RT.node rl rc rr)) (hs : l.sz + rl.sz + rr.sz ≤ 800000000000000) (h1 : l.dp + 1 < (RT.node rl rc rr).dp)
    (ih : ∀ {w : World} {pl pr : Option Addr}, Nd w pl l → Nd w pr rl → Calls Try.prog 64 #[.pointer pl, .int .i32 c, .pointer pr] w (Gives (RT.join l c rl) w)) :
    Calls Try.prog 64 #[.pointer pl, .int .i32 c, .pointer pr] w (Gives (RT.even (RT.join l c rl) rc rr) w) := by
  have b1 := RT.dp_le l
  have b4 := RT.dp_le (RT.node rl rc rr)
  have e1 : (RT.node rl rc rr).sz = rl.sz + rr.sz + 1 := rfl
  have e2 := RT.sz_join l c rl
  have hsj : (RT.join l c rl).sz + rr.sz ≤ 900000000000000 := by omega
  obtain ⟨d, hd⟩ : ∃ d, (RT.node rl rc rr).dp = d := ⟨_, rfl⟩
  have HN := Aside0.mk hr
  have HL := Aside0.mk hl
  rw [hd] at h1 b4
  have hdb : d ≤ 1000000000000000 := by omega
  have h1' : ((l.dp : Nat) : Int) + 1 < (d : Int) := by omega
  have h0' : ((l.dp : Nat) : Int) ≤ (d : Int) + 1 := by omega
  obtain ⟨b, qa, qb, rfl, hb, c0, c1, c2, c3, c4, c5, hrl, hrr⟩ := hr
  have HRL := Aside0.mk (show Nd w qa rl from hrl)
  have HRR := Aside0.mk (show Nd w qb rr from hrr)
  have hdr : Calls Try.prog 53 #[.pointer (some ⟨b, 0, none⟩)] w fun e w' => e = .returned (.int .i64 (d : Int)) ∧ w = w' := by
    have := deep_calls HN.out
    rw [hd] at this
    exact this
  have hdl := deep_calls HL.out
  clear hl hd hrl hrr c3 c4 c5 e1 e2
  go_enter Try.func64, Try.ntmps64
  go_wp2_with (go_at_call 53; (first | (with_reducible refine hdl.mono ?_) | (with_reducible refine hdr.mono ?_)); rintro e w' ⟨rfl, rfl⟩)
  go_region_held3 (fun W' => W'.cell? ⟨b, 0, none⟩ = some (.int .i32 rc) ∧ W'.cell? ⟨b, 1, none⟩ = some (.pointer qa) ∧ W'.cell? ⟨b, 2, none⟩ = some (.pointer qb) ∧ Below w.heap.size w W')
    (((try dsimp only); (repeat' apply And.intro); all_goals (first | assumption | exact Below.refl _ _ | exact below_drew1 (pw_below_drewN (Below.refl _ _) _) | exact below_drew1 (Below.refl _ _) | exact below_drew1 (by assumption) | exact below_step (by assumption) (by assumption) | go_keep)))
    (first
      | (go_at_call 64; (with_reducible refine (ih (HL.out.below (by (first | assumption | exact Below.refl _ _ | exact pw_below_drewN (Below.refl _ _) _ | exact below_drew1 (pw_below_drewN (Below.refl _ _) _) | exact below_drew1 (Below.refl _ _) | exact pw_below_drewN (by assumption) _ | exact below_drew1 (by assumption)))) (HRL.out.below (by (first | assumption | exact Below.refl _ _ | exact pw_below_drewN (Below.refl _ _) _ | exact below_drew1 (pw_below_drewN (Below.refl _ _) _) | exact below_drew1 (Below.refl _ _) | exact pw_below_drewN (by assumption) _ | exact below_drew1 (by assumption))))).mono ?_); rintro e w1 ⟨p1, rfl, hn1, hb1⟩; have hbt1 := below_step (w := w) (by (first | assumption | exact Below.refl _ _ | exact pw_below_drewN (Below.refl _ _) _ | exact below_drew1 (pw_below_drewN (Below.refl _ _) _) | exact below_drew1 (Below.refl _ _) | exact pw_below_drewN (by assumption) _ | exact below_drew1 (by assumption))) hb1; have k1_0 := (hbt1.cell (p := ⟨b, 0, none⟩) hb).trans c0; have k1_1 := (hbt1.cell (p := ⟨b, 1, none⟩) hb).trans c1; have k1_2 := (hbt1.cell (p := ⟨b, 2, none⟩) hb).trans c2)
      | (go_at_call 73; (with_reducible refine (even_calls (r := rr) hn1 (HRR.out.below hbt1) hsj).mono ?_); rintro e w2 ⟨p2, rfl, hn2, hb2⟩; have hbt2 := below_step (w := w) hbt1 hb2; have k2_0 := (hbt2.cell (p := ⟨b, 0, none⟩) hb).trans c0; have k2_1 := (hbt2.cell (p := ⟨b, 1, none⟩) hb).trans c1; have k2_2 := (hbt2.cell (p := ⟨b, 2, none⟩) hb).trans c2))
  go_wp2
  go_ret
  exact ⟨p2, rfl, hn2, hbt2⟩
set_option maxRecDepth 100000 in
set_option maxHeartbeats 4000000 in
theorem join_c {w : World} {pl pr : Option Addr} {l r : RT} {c : Int} (hl : Nd w pl l) (hr : Nd w pr r) (hs : l.sz + r.sz ≤ 900000000000000) (h1 : l.dp ≤ r.dp + 1) (h2 : r.dp ≤ l.dp + 1) :
    Calls Try.prog 64 #[.pointer pl, .int .i32 c, .pointer pr] w (Gives (RT.node l c r) w) := by
  have b1 := RT.dp_le l
  have b2 := RT.dp_le r
  have HL := Aside0.mk hl
  have HR := Aside0.mk hr
  clear hl hr
  have h1' : ((l.dp : Nat) : Int) ≤ (r.dp : Int) + 1 := by omega
  have h2' : ((r.dp : Nat) : Int) ≤ (l.dp : Int) + 1 := by omega
  go_enter Try.func64, Try.ntmps64
  go_wp2_with (first
    | (go_at_call 53; (first | (with_reducible refine (deep_calls HL.out).mono ?_) | (with_reducible refine (deep_calls HR.out).mono ?_)); rintro e w' ⟨rfl, rfl⟩)
    | (go_at_call 59; refine (made_calls HL.out HR.out (by omega)).mono ?_; rintro e w1 ⟨p1, rfl, hn1, hb1⟩))
  go_ret
  exact ⟨p1, rfl, hn1, hb1⟩
theorem join_n (c : Int) (n : Nat) : ∀ (l r : RT), l.sz + r.sz ≤ n → l.sz + r.sz ≤ 800000000000000 → ∀ {w : World} {pl pr : Option Addr}, Nd w pl l → Nd w pr r → Calls Try.prog 64 #[.pointer pl, .int .i32 c, .pointer pr] w (Gives (RT.join l c r) w) := by
  induction n with
  | zero =>
    intro l r h hs w pl pr hl hr
    have b1 := RT.dp_le l
    have b2 := RT.dp_le r
    rw [RT.join_mid (by omega) (by omega)]
    exact join_c hl hr (by omega) (by omega) (by omega)
  | succ n ih =>
    intro l r h hs w pl pr hl hr
    by_cases h1 : r.dp + 1 < l.dp
    · cases l with
      | nil => simp [RT.dp] at h1
      | node ll lc lr =>
        simp only [RT.sz] at h hs
        rw [RT.join_left h1]
        exact join_a hl hr (by omega) h1 (ih lr r (by omega) (by omega))
    · by_cases h2 : l.dp + 1 < r.dp
      · cases r with
        | nil => simp [RT.dp] at h2
        | node rl rc rr =>
          simp only [RT.sz] at h hs
          rw [RT.join_right h2]
          exact join_b hl hr (by omega) h2 (ih l rl (by omega) (by omega))
      · rw [RT.join_mid (by omega) (by omega)]
        exact join_c hl hr (by omega) (by omega) (by omega)
theorem join_calls {w : World} {pl pr : Option Addr} {l r : RT} {c : Int} (hl : Nd w pl l) (hr : Nd w pr r) (hs : l.sz + r.sz ≤ 800000000000000) :
    Calls Try.prog 64 #[.pointer pl, .int .i32 c, .pointer pr] w (Gives (RT.join l c r) w) := join_n c _ l r (Nat.le_refl _) hs hl hr
/-! ### cut -/
def Gives2 (t u : RT) (w : World) (e : Ending) (w' : World) : Prop := ∃ p q, e = .returned (.tuple #[.pointer p, .pointer q]) ∧ Nd w' p t ∧ Nd w' q u ∧ Below w.heap.size w w'
set_option maxRecDepth 100000 in
set_option maxHeartbeats 4000000 in
theorem cut_nil {w : World} {i : Int} : Calls Try.prog 42 #[.pointer none, .int .i64 i] w (Gives2 .nil .nil w) := by
  go_enter Try.func42, Try.ntmps42
  go_wp2
  go_ret2
  exact ⟨none, none, rfl, Nd.nil _, Nd.nil _, Below.refl _ _⟩
set_option maxRecDepth 100000 in
set_option maxHeartbeats 4000000 in
theorem cut_a {w : World} {p : Option Addr} {l r : RT} {c i : Int} (h : Nd w p (RT.node l c r)) (hs : l.sz + r.sz ≤ 800000000000000) (hi : i ≤ (l.sz : Int)) 
    (ih : ∀ {w : World} {p : Option Addr}, Nd w p l → Calls Try.prog 42 #[.pointer p, .int .i64 i] w (Gives2 (RT.cut l i).1 (RT.cut l i).2 w)) :
    Calls Try.prog 42 #[.pointer p, .int .i64 i] w (Gives2 (RT.cut l i).1 (RT.join (RT.cut l i).2 c r) w) := by
  have hsum := RT.cut_sum l i
  have hsj : (RT.cut l i).2.sz + r.sz ≤ 800000000000000 := by omega
  clear hsum
  obtain ⟨b, qa, qb, rfl, hb, c0, c1, c2, c3, c4, c5, hl, hr⟩ := h
  have HL := Aside0.mk (show Nd w qa l from hl)
  have HR := Aside0.mk (show Nd w qb r from hr)
  have hsz := size_calls HL.out
  clear c3 c4 c5 hl hr
  go_enter Try.func42, Try.ntmps42
  go_wp2_with (first
    | (go_at_call 46; (with_reducible refine hsz.mono ?_); rintro e w' ⟨rfl, rfl⟩)
    | (go_at_call 42; (with_reducible refine (ih HL.out).mono ?_); rintro e w1 ⟨p1, q1, rfl, hn1, hm1, hb1⟩; have k1_0 := (hb1.cell (p := ⟨b, 0, none⟩) hb).trans c0; have k1_1 := (hb1.cell (p := ⟨b, 1, none⟩) hb).trans c1; have k1_2 := (hb1.cell (p := ⟨b, 2, none⟩) hb).trans c2))
  have hw1 : w1.heap.size ≤ w1.heap.size := Nat.le_refl _
  have hb' : b < w1.heap.size := Nat.lt_of_lt_of_le hb hb1.size
  have HB1 := Aside0.mk hb1
  clear hb1
  go_region_held3 (fun W' => W'.cell? ⟨b, 0, none⟩ = some (.int .i32 c) ∧ W'.cell? ⟨b, 2, none⟩ = some (.pointer qb) ∧ Below w1.heap.size w1 W')
    (((try dsimp only); (repeat' apply And.intro); all_goals (first | assumption | exact Below.refl _ _ | exact below_drew1 (Below.refl _ _) | exact below_drew1 (by assumption) | exact below_step (by assumption) (by assumption) | go_keep)))
    (first
      | (go_at_call 64; (with_reducible refine (join_calls (hm1.below (by (first | assumption | exact Below.refl _ _ | exact pw_below_drewN (Below.refl _ _) _ | exact below_drew1 (pw_below_drewN (Below.refl _ _) _) | exact below_drew1 (Below.refl _ _) | exact pw_below_drewN (by assumption) _ | exact below_drew1 (by assumption)))) ((HR.out.below HB1.out).below (by (first | assumption | exact Below.refl _ _ | exact pw_below_drewN (Below.refl _ _) _ | exact below_drew1 (pw_below_drewN (Below.refl _ _) _) | exact below_drew1 (Below.refl _ _) | exact pw_below_drewN (by assumption) _ | exact below_drew1 (by assumption)))) hsj).mono ?_); rintro e w2 ⟨p2, rfl, hn2, hb2⟩; have hbt2 := below_step (w := w1) (by (first | assumption | exact Below.refl _ _ | exact pw_below_drewN (Below.refl _ _) _ | exact below_drew1 (pw_below_drewN (Below.refl _ _) _) | exact below_drew1 (Below.refl _ _) | exact pw_below_drewN (by assumption) _ | exact below_drew1 (by assumption))) hb2; have k2_0 := (hbt2.cell (p := ⟨b, 0, none⟩) hb').trans k1_0; have k2_2 := (hbt2.cell (p := ⟨b, 2, none⟩) hb').trans k1_2))
  go_wp2
  go_ret2
  exact ⟨p1, p2, rfl, hn1.below hbt2, hn2, below_step HB1.out hbt2⟩
set_option maxRecDepth 100000 in
set_option maxHeartbeats 4000000 in
theorem cut_b {w : World} {p : Option Addr} {l r : RT} {c i : Int} (h : Nd w p (RT.node l c r)) (hs : l.sz + r.sz ≤ 800000000000000) (hi : (l.sz : Int) < i) (hi2 : i ≤ 1000000000000000)
    (ih : ∀ {w : World} {p : Option Addr}, Nd w p r → Calls Try.prog 42 #[.pointer p, .int .i64 (i - (l.sz : Int) - 1)] w (Gives2 (RT.cut r (i - (l.sz : Int) - 1)).1 (RT.cut r (i - (l.sz : Int) - 1)).2 w)) :
    Calls Try.prog 42 #[.pointer p, .int .i64 i] w (Gives2 (RT.join l c (RT.cut r (i - (l.sz : Int) - 1)).1) (RT.cut r (i - (l.sz : Int) - 1)).2 w) := by
  have hsum := RT.cut_sum r (i - (l.sz : Int) - 1)
  have hsj : l.sz + (RT.cut r (i - (l.sz : Int) - 1)).1.sz ≤ 800000000000000 := by omega
  clear hsum
  obtain ⟨b, qa, qb, rfl, hb, c0, c1, c2, c3, c4, c5, hl, hr⟩ := h
  have HL := Aside0.mk (show Nd w qa l from hl)
  have HR := Aside0.mk (show Nd w qb r from hr)
  have hsz := size_calls HL.out
  clear c3 c4 c5 hl hr
  go_enter Try.func42, Try.ntmps42
  go_wp2_with (first
    | (go_at_call 46; (with_reducible refine hsz.mono ?_); rintro e w' ⟨rfl, rfl⟩)
    | (go_at_call 42; (with_reducible refine (ih HR.out).mono ?_); rintro e w1 ⟨p1, q1, rfl, hn1, hm1, hb1⟩; have k1_0 := (hb1.cell (p := ⟨b, 0, none⟩) hb).trans c0; have k1_1 := (hb1.cell (p := ⟨b, 1, none⟩) hb).trans c1; have k1_2 := (hb1.cell (p := ⟨b, 2, none⟩) hb).trans c2))
  have hb' : b < w1.heap.size := Nat.lt_of_lt_of_le hb hb1.size
  have HB1 := Aside0.mk hb1
  clear hb1
  go_region_held3 (fun W' => W'.cell? ⟨b, 0, none⟩ = some (.int .i32 c) ∧ W'.cell? ⟨b, 1, none⟩ = some (.pointer qa) ∧ Below w1.heap.size w1 W')
    (((try dsimp only); (repeat' apply And.intro); all_goals (first | assumption | exact Below.refl _ _ | exact below_drew1 (Below.refl _ _) | exact below_drew1 (by assumption) | exact below_step (by assumption) (by assumption) | go_keep)))
    (first
      | (go_at_call 64; (with_reducible refine (join_calls ((HL.out.below HB1.out).below (by (first | assumption | exact Below.refl _ _ | exact pw_below_drewN (Below.refl _ _) _ | exact below_drew1 (pw_below_drewN (Below.refl _ _) _) | exact below_drew1 (Below.refl _ _) | exact pw_below_drewN (by assumption) _ | exact below_drew1 (by assumption)))) (hn1.below (by (first | assumption | exact Below.refl _ _ | exact pw_below_drewN (Below.refl _ _) _ | exact below_drew1 (pw_below_drewN (Below.refl _ _) _) | exact below_drew1 (Below.refl _ _) | exact pw_below_drewN (by assumption) _ | exact below_drew1 (by assumption)))) hsj).mono ?_); rintro e w2 ⟨p2, rfl, hn2, hb2⟩; have hbt2 := below_step (w := w1) (by (first | assumption | exact Below.refl _ _ | exact pw_below_drewN (Below.refl _ _) _ | exact below_drew1 (pw_below_drewN (Below.refl _ _) _) | exact below_drew1 (Below.refl _ _) | exact pw_below_drewN (by assumption) _ | exact below_drew1 (by assumption))) hb2; have k2_0 := (hbt2.cell (p := ⟨b, 0, none⟩) hb').trans k1_0; have k2_2 := (hbt2.cell (p := ⟨b, 1, none⟩) hb').trans k1_1))
  go_wp2
  go_ret2
  exact ⟨p2, q1, rfl, hn2, hm1.below hbt2, below_step HB1.out hbt2⟩
theorem cut_calls : ∀ (t : RT) (i : Int), t.sz ≤ 800000000000000 → 0 ≤ i → i ≤ 1000000000000000 → ∀ {w : World} {p : Option Addr}, Nd w p t → Calls Try.prog 42 #[.pointer p, .int .i64 i] w (Gives2 (RT.cut t i).1 (RT.cut t i).2 w)
  | .nil, i, _, _, _, w, p, h => by
    obtain rfl : p = none := h
    exact cut_nil
  | .node l c r, i, hs, h0, h1, w, p, h => by
    simp only [RT.sz] at hs
    unfold RT.cut
    by_cases hi : i ≤ (l.sz : Int)
    · rw [if_pos hi]
      exact cut_a h (by omega) hi (cut_calls l i (by omega) h0 h1)
    · rw [if_neg hi]
      exact cut_b h (by omega) (by omega) h1 (cut_calls r _ (by omega) (by omega) (by omega))
/-! ### glue -/
set_option maxRecDepth 100000 in
set_option maxHeartbeats 4000000 in
theorem glue_calls {w : World} {pa pb : Option Addr} {a b : RT} (ha : Nd w pa a) (hb : Nd w pb b) (hs : a.sz + b.sz ≤ 800000000000000) :
    Calls Try.prog 43 #[.pointer pa, .pointer pb] w (Gives (RT.glue a b) w) := by
  cases a with
  | nil =>
    obtain rfl : pa = none := ha
    have HB := Aside0.mk hb
    clear hb
    go_enter Try.func43, Try.ntmps43
    go_wp2
    go_ret
    exact ⟨pb, rfl, HB.out, Below.refl _ _⟩
  | node l c r =>
    have HA := Aside0.mk ha
    have HB := Aside0.mk hb
    obtain ⟨g1, g2⟩ := RT.last_one (t := RT.node l c r) (fun h => by cases h)
    have g3 := RT.cut_sum (RT.node l c r) (((RT.node l c r).sz : Int) - 1)
    have hpos : 0 < (RT.node l c r).sz := by simp only [RT.sz]; omega
    obtain ⟨n, hn⟩ : ∃ n, (RT.node l c r).sz = n := ⟨_, rfl⟩
    obtain ⟨g, qa, qb, rfl, hg, c0, c1, c2, c3, c4, c5, hl, hr⟩ := ha
    have hcut := cut_calls (RT.node l c r) (((RT.node l c r).sz : Int) - 1) (by omega) (by omega) (by omega) HA.out
    have hglue : RT.glue (RT.node l c r) b = RT.join (RT.cut (RT.node l c r) (((RT.node l c r).sz : Int) - 1)).1 (RT.top (RT.cut (RT.node l c r) (((RT.node l c r).sz : Int) - 1)).2) b := rfl
    rw [hglue]
    rw [hn] at c3 hcut g1 g3 hpos hs ⊢
    have hn0 : (1 : Int) ≤ (n : Int) := by omega
    have hn1 : (n : Int) ≤ 800000000000000 := by omega
    obtain ⟨x, y, hxy⟩ : ∃ x y, RT.cut (RT.node l c r) ((n : Int) - 1) = (x, y) := ⟨_, _, rfl⟩
    rw [hxy] at hcut g1 g3 ⊢
    simp only at hcut g1 g3 ⊢
    have hsj : x.sz + b.sz ≤ 800000000000000 := by omega
    clear c0 c1 c2 c4 c5 hl hr hxy hglue g2 g3 hpos hb
    cases y with
    | nil => simp [RT.sz] at g1
    | node yl yc yr =>
      clear g1 hn hs
      have htop : RT.top (RT.node yl yc yr) = yc := rfl
      rw [htop]
      clear htop
      go_enter Try.func43, Try.ntmps43
      go_wp2_with (first
        | (go_at_call 42; (with_reducible refine hcut.mono ?_); rintro e w1 ⟨p1, q1, rfl, hn1, hm1, hb1⟩; have HB1 := Aside0.mk hb1; have HX := Aside0.mk hn1; have HY := Aside0.mk hm1; obtain ⟨v, va, vb, rfl, hv, v0, v1, v2, v3, v4, v5, hvl, hvr⟩ := hm1; clear v1 v2 v3 v4 v5 hvl hvr hb1 hn1)
        | (go_at_call 64; (with_reducible refine (join_calls HX.out (HB.out.below HB1.out) hsj).mono ?_); rintro e w2 ⟨p2, rfl, hn2, hb2⟩))
      go_ret
      exact ⟨p2, rfl, hn2, below_step HB1.out hb2⟩
end Go.Proofs.Ytenjldfflkinkaa.Rop
