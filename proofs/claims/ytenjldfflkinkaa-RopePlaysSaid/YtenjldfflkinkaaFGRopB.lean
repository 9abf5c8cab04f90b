/- The contracts of even, case by case. -/
import Derived.Test.YtenjldfflkinkaaFGRopA
namespace Go.Proofs.Ytenjldfflkinkaa.Rop
set_option linter.unusedVariables false
set_option linter.unusedSimpArgs false
open Go.RowKit Go.Proofs.Ytenjldfflkinkaa.F Go.Proofs.YtenjldfflkinkaaW.PrintWords Go.Proofs.YtenjldfflkinkaaW.PrintLast Go.Proofs.YtenjldfflkinkaaW.PrintMore

theorem Nd.drewN {w : World} {p : Option Addr} {t : RT} (h : Nd w p t) (n : Nat) : Nd (w.drewN n) p t := h.below (pw_below_drewN (Below.refl _ _) n)
theorem deep_q {w : World} {p : Option Addr} {t : RT} (h : Nd w p t) {n : Nat} : Calls Try.prog 53 #[.pointer p] (w.drewN n) fun e w'' => e = .returned (.int .i64 (t.dp : Int)) ∧ ∃ m, w'' = w.drewN m :=
  (deep_calls (h.drewN n)).mono fun _ _ ⟨he, hw⟩ => ⟨he, n, hw.symm⟩
def Gives (t : RT) (w : World) (e : Ending) (w' : World) : Prop := ∃ p, e = .returned (.pointer p) ∧ Nd w' p t ∧ Below w.heap.size w w'
set_option maxRecDepth 100000 in
set_option maxHeartbeats 4000000 in
/-- the left one is too deep, its left part is not less deep than its right one -/
theorem even_a {w : World} {pl pr : Option Addr} {ll lr r : RT} {lc c : Int} (hl : Nd w pl (RT.node ll lc lr)) (hr : Nd w pr r) (hs : ll.sz + lr.sz + r.sz ≤ 900000000000000) (h1 : r.dp + 1 < (RT.node ll lc lr).dp) (h2 : lr.dp ≤ ll.dp) :
    Calls Try.prog 73 #[.pointer pl, .int .i32 c, .pointer pr] w (Gives (RT.node ll lc (RT.node lr c r)) w) := by
  have b1 := RT.dp_le r
  have b4 := RT.dp_le (RT.node ll lc lr)
  have e1 : (RT.node ll lc lr).sz = ll.sz + (lr).sz + 1 := rfl
  obtain ⟨d, hd⟩ : ∃ d, (RT.node ll lc lr).dp = d := ⟨_, rfl⟩
  have HN := Aside0.mk hl
  have HR := Aside0.mk hr
  rw [hd] at h1 b4
  have hdb : d ≤ 1000000000000000 := by (try simp only [RT.sz] at *); omega
  have h1' : ((r.dp : Nat) : Int) + 1 < (d : Int) := by omega
  have b2 := RT.dp_le ll
  have b3 := RT.dp_le lr
  have h2' : ((lr.dp : Nat) : Int) ≤ (ll.dp : Int) := by omega
  obtain ⟨b, qa, qb, rfl, hb, c0, c1, c2, c3, c4, c5, hll, hlr⟩ := hl
  have HLL := Aside0.mk (show Nd w qa ll from hll)
  have HLR := Aside0.mk (show Nd w qb lr from hlr)
  have hdl : Calls Try.prog 53 #[.pointer (some ⟨b, 0, none⟩)] w fun e w' => e = .returned (.int .i64 (d : Int)) ∧ w = w' := by
    have := deep_calls HN.out
    rw [hd] at this
    exact this
  have hdr := deep_calls HR.out
  clear hr hd hll hlr c3 c4 c5 e1
  go_enter Try.func73, Try.ntmps73
  go_wp2_with (go_at_call 53; (first | (with_reducible refine hdl.mono ?_) | (with_reducible refine hdr.mono ?_)); rintro e w' ⟨rfl, rfl⟩)
  go_quiet ((go_at_call 53; first | exact deep_q HLL.out | exact deep_q HLR.out))
  go_wp2
  go_region_held3 (fun W' => W'.cell? ⟨b, 0, none⟩ = some (.int .i32 lc) ∧ W'.cell? ⟨b, 1, none⟩ = some (.pointer qa) ∧ W'.cell? ⟨b, 2, none⟩ = some (.pointer qb) ∧ Below w.heap.size w W')
    (((try dsimp only); (repeat' apply And.intro); all_goals (first | assumption | exact Below.refl _ _ | exact below_drew1 (pw_below_drewN (Below.refl _ _) _) | exact below_drew1 (by assumption) | exact below_step (by assumption) (by assumption) | go_keep)))
    (first
      | (go_at_call 59; (with_reducible refine (made_calls (l := lr) (r := r) (HLR.out.below (by (first | assumption | exact Below.refl _ _ | exact pw_below_drewN (Below.refl _ _) _ | exact below_drew1 (pw_below_drewN (Below.refl _ _) _) | exact below_drew1 (Below.refl _ _) | exact pw_below_drewN (by assumption) _ | exact below_drew1 (by assumption)))) (HR.out.below (by (first | assumption | exact Below.refl _ _ | exact pw_below_drewN (Below.refl _ _) _ | exact below_drew1 (pw_below_drewN (Below.refl _ _) _) | exact below_drew1 (Below.refl _ _) | exact pw_below_drewN (by assumption) _ | exact below_drew1 (by assumption)))) (by (try simp only [RT.sz]); omega)).mono ?_); rintro e w1 ⟨p1, rfl, hn1, hb1⟩; have hbt1 := below_step (w := w) (by (first | assumption | exact Below.refl _ _ | exact pw_below_drewN (Below.refl _ _) _ | exact below_drew1 (pw_below_drewN (Below.refl _ _) _) | exact below_drew1 (Below.refl _ _) | exact pw_below_drewN (by assumption) _ | exact below_drew1 (by assumption))) hb1; have k1_0 := (hbt1.cell (p := ⟨b, 0, none⟩) hb).trans c0; have k1_1 := (hbt1.cell (p := ⟨b, 1, none⟩) hb).trans c1; have k1_2 := (hbt1.cell (p := ⟨b, 2, none⟩) hb).trans c2)
      | (go_at_call 59; (with_reducible refine (made_calls (l := ll) (r := RT.node lr c r) (HLL.out.below hbt1) hn1 (by (try simp only [RT.sz]); omega)).mono ?_); rintro e w2 ⟨p2, rfl, hn2, hb2⟩; have hbt2 := below_step (w := w) hbt1 hb2; have k2_0 := (hbt2.cell (p := ⟨b, 0, none⟩) hb).trans c0; have k2_1 := (hbt2.cell (p := ⟨b, 1, none⟩) hb).trans c1; have k2_2 := (hbt2.cell (p := ⟨b, 2, none⟩) hb).trans c2))
  go_wp2
  go_ret
  exact ⟨p2, rfl, hn2, hbt2⟩
set_option maxRecDepth 100000 in
set_option maxHeartbeats 4000000 in
/-- the left one is too deep, its right part is deeper than its left one -/
theorem even_b {w : World} {pl pr : Option Addr} {ll lx ly r : RT} {lc m c : Int} (hl : Nd w pl (RT.node ll lc (RT.node lx m ly))) (hr : Nd w pr r) (hs : ll.sz + (lx.sz + ly.sz) + r.sz ≤ 900000000000000) (h1 : r.dp + 1 < (RT.node ll lc (RT.node lx m ly)).dp) (h2 : ll.dp < (RT.node lx m ly).dp) :
    Calls Try.prog 73 #[.pointer pl, .int .i32 c, .pointer pr] w (Gives (RT.node (RT.node ll lc lx) m (RT.node ly c r)) w) := by
  have b1 := RT.dp_le r
  have b4 := RT.dp_le (RT.node ll lc (RT.node lx m ly))
  have e1 : (RT.node ll lc (RT.node lx m ly)).sz = ll.sz + ((RT.node lx m ly)).sz + 1 := rfl
  obtain ⟨d, hd⟩ : ∃ d, (RT.node ll lc (RT.node lx m ly)).dp = d := ⟨_, rfl⟩
  have HN := Aside0.mk hl
  have HR := Aside0.mk hr
  rw [hd] at h1 b4
  have hdb : d ≤ 1000000000000000 := by (try simp only [RT.sz] at *); omega
  have h1' : ((r.dp : Nat) : Int) + 1 < (d : Int) := by omega
  have e2 : (RT.node lx m ly).sz = lx.sz + ly.sz + 1 := rfl
  have b2 := RT.dp_le ll
  have b3 := RT.dp_le (RT.node lx m ly)
  obtain ⟨d2, hd2⟩ : ∃ d, (RT.node lx m ly).dp = d := ⟨_, rfl⟩
  rw [hd2] at h2 b3
  have h2' : ((ll.dp : Nat) : Int) < (d2 : Int) := by omega
  obtain ⟨b, qa, qb, rfl, hb, c0, c1, c2, c3, c4, c5, hll, hlr⟩ := hl
  have HLL := Aside0.mk (show Nd w qa ll from hll)
  have HM := Aside0.mk (show Nd w qb (RT.node lx m ly) from hlr)
  obtain ⟨g, qx, qy, rfl, hg, g0, g1, g2, g3, g4, g5, hlx, hly⟩ := hlr
  have HLX := Aside0.mk (show Nd w qx lx from hlx)
  have HLY := Aside0.mk (show Nd w qy ly from hly)
  have hdl : Calls Try.prog 53 #[.pointer (some ⟨b, 0, none⟩)] w fun e w' => e = .returned (.int .i64 (d : Int)) ∧ w = w' := by
    have := deep_calls HN.out
    rw [hd] at this
    exact this
  have hdr := deep_calls HR.out
  have hdm : ∀ n, Calls Try.prog 53 #[.pointer (some ⟨g, 0, none⟩)] (w.drewN n) fun e w'' => e = .returned (.int .i64 (d2 : Int)) ∧ ∃ k, w'' = w.drewN k := fun n => by
    have := deep_q HM.out (n := n)
    rw [hd2] at this
    exact this
  clear hr hd hd2 hll hlx hly c3 c4 c5 g3 g4 g5 e1 e2
  go_enter Try.func73, Try.ntmps73
  go_wp2_with (go_at_call 53; (first | (with_reducible refine hdl.mono ?_) | (with_reducible refine hdr.mono ?_)); rintro e w' ⟨rfl, rfl⟩)
  go_quiet ((go_at_call 53; first | exact deep_q HLL.out | exact hdm _))
  go_wp2
  go_region_held3 (fun W' => W'.cell? ⟨b, 0, none⟩ = some (.int .i32 lc) ∧ W'.cell? ⟨b, 1, none⟩ = some (.pointer qa) ∧ W'.cell? ⟨g, 0, none⟩ = some (.int .i32 m) ∧ W'.cell? ⟨g, 1, none⟩ = some (.pointer qx) ∧ W'.cell? ⟨g, 2, none⟩ = some (.pointer qy) ∧ Below w.heap.size w W')
    (((try dsimp only); (repeat' apply And.intro); all_goals (first | assumption | exact Below.refl _ _ | exact below_drew1 (pw_below_drewN (Below.refl _ _) _) | exact below_drew1 (by assumption) | exact below_step (by assumption) (by assumption) | go_keep)))
    (first
      | (go_at_call 59; (with_reducible refine (made_calls (l := ll) (r := lx) (HLL.out.below (by (first | assumption | exact Below.refl _ _ | exact pw_below_drewN (Below.refl _ _) _ | exact below_drew1 (pw_below_drewN (Below.refl _ _) _) | exact below_drew1 (Below.refl _ _) | exact pw_below_drewN (by assumption) _ | exact below_drew1 (by assumption)))) (HLX.out.below (by (first | assumption | exact Below.refl _ _ | exact pw_below_drewN (Below.refl _ _) _ | exact below_drew1 (pw_below_drewN (Below.refl _ _) _) | exact below_drew1 (Below.refl _ _) | exact pw_below_drewN (by assumption) _ | exact below_drew1 (by assumption)))) (by (try simp only [RT.sz]); omega)).mono ?_); rintro e w1 ⟨p1, rfl, hn1, hb1⟩; have hbt1 := below_step (w := w) (by (first | assumption | exact Below.refl _ _ | exact pw_below_drewN (Below.refl _ _) _ | exact below_drew1 (pw_below_drewN (Below.refl _ _) _) | exact below_drew1 (Below.refl _ _) | exact pw_below_drewN (by assumption) _ | exact below_drew1 (by assumption))) hb1; have k1_0 := (hbt1.cell (p := ⟨b, 0, none⟩) hb).trans c0; have k1_1 := (hbt1.cell (p := ⟨b, 1, none⟩) hb).trans c1; have k1_2 := (hbt1.cell (p := ⟨g, 0, none⟩) hg).trans g0; have k1_3 := (hbt1.cell (p := ⟨g, 1, none⟩) hg).trans g1; have k1_4 := (hbt1.cell (p := ⟨g, 2, none⟩) hg).trans g2)
      | (go_at_call 59; (with_reducible refine (made_calls (l := ly) (r := r) (HLY.out.below hbt1) (HR.out.below hbt1) (by (try simp only [RT.sz]); omega)).mono ?_); rintro e w2 ⟨p2, rfl, hn2, hb2⟩; have hbt2 := below_step (w := w) hbt1 hb2; have k2_0 := (hbt2.cell (p := ⟨b, 0, none⟩) hb).trans c0; have k2_1 := (hbt2.cell (p := ⟨b, 1, none⟩) hb).trans c1; have k2_2 := (hbt2.cell (p := ⟨g, 0, none⟩) hg).trans g0; have k2_3 := (hbt2.cell (p := ⟨g, 1, none⟩) hg).trans g1; have k2_4 := (hbt2.cell (p := ⟨g, 2, none⟩) hg).trans g2)
      | (go_at_call 59; (with_reducible refine (made_calls (l := RT.node ll lc lx) (r := RT.node ly c r) (hn1.below hb2) hn2 (by (try simp only [RT.sz]); omega)).mono ?_); rintro e w3 ⟨p3, rfl, hn3, hb3⟩; have hbt3 := below_step (w := w) hbt2 hb3; have k3_0 := (hbt3.cell (p := ⟨b, 0, none⟩) hb).trans c0; have k3_1 := (hbt3.cell (p := ⟨b, 1, none⟩) hb).trans c1; have k3_2 := (hbt3.cell (p := ⟨g, 0, none⟩) hg).trans g0; have k3_3 := (hbt3.cell (p := ⟨g, 1, none⟩) hg).trans g1; have k3_4 := (hbt3.cell (p := ⟨g, 2, none⟩) hg).trans g2))
  go_wp2
  go_ret
  exact ⟨p3, rfl, hn3, hbt3⟩
set_option maxRecDepth 100000 in
set_option maxHeartbeats 4000000 in
/-- the right one is too deep, its right part is not less deep than its left one -/
theorem even_c {w : World} {pl pr : Option Addr} {l rl rr : RT} {rc c : Int} (hl : Nd w pl l) (hr : Nd w pr (RT.node rl rc rr)) (hs : l.sz + rl.sz + rr.sz ≤ 900000000000000) (h1 : l.dp + 1 < (RT.node rl rc rr).dp) (h2 : rl.dp ≤ rr.dp) :
    Calls Try.prog 73 #[.pointer pl, .int .i32 c, .pointer pr] w (Gives (RT.node (RT.node l c rl) rc rr) w) := by
  have b1 := RT.dp_le l
  have b4 := RT.dp_le (RT.node rl rc rr)
  have e1 : (RT.node rl rc rr).sz = (rl).sz + rr.sz + 1 := rfl
  obtain ⟨d, hd⟩ : ∃ d, (RT.node rl rc rr).dp = d := ⟨_, rfl⟩
  have HN := Aside0.mk hr
  have HL := Aside0.mk hl
  rw [hd] at h1 b4
  have hdb : d ≤ 1000000000000000 := by (try simp only [RT.sz] at *); omega
  have h1' : ((l.dp : Nat) : Int) + 1 < (d : Int) := by omega
  have h0' : ((l.dp : Nat) : Int) ≤ (d : Int) + 1 := by omega
  have b2 := RT.dp_le rl
  have b3 := RT.dp_le rr
  have h2' : ((rl.dp : Nat) : Int) ≤ (rr.dp : Int) := by omega
  obtain ⟨b, qa, qb, rfl, hb, c0, c1, c2, c3, c4, c5, hrl, hrr⟩ := hr
  have HRL := Aside0.mk (show Nd w qa rl from hrl)
  have HRR := Aside0.mk (show Nd w qb rr from hrr)
  have hdr : Calls Try.prog 53 #[.pointer (some ⟨b, 0, none⟩)] w fun e w' => e = .returned (.int .i64 (d : Int)) ∧ w = w' := by
    have := deep_calls HN.out
    rw [hd] at this
    exact this
  have hdl := deep_calls HL.out
  clear hl hd hrl hrr c3 c4 c5 e1
  go_enter Try.func73, Try.ntmps73
  go_wp2_with (go_at_call 53; (first | (with_reducible refine hdl.mono ?_) | (with_reducible refine hdr.mono ?_)); rintro e w' ⟨rfl, rfl⟩)
  go_quiet ((go_at_call 53; first | exact deep_q HRL.out | exact deep_q HRR.out))
  go_wp2
  go_region_held3 (fun W' => W'.cell? ⟨b, 0, none⟩ = some (.int .i32 rc) ∧ W'.cell? ⟨b, 1, none⟩ = some (.pointer qa) ∧ W'.cell? ⟨b, 2, none⟩ = some (.pointer qb) ∧ Below w.heap.size w W')
    (((try dsimp only); (repeat' apply And.intro); all_goals (first | assumption | exact Below.refl _ _ | exact below_drew1 (pw_below_drewN (Below.refl _ _) _) | exact below_drew1 (by assumption) | exact below_step (by assumption) (by assumption) | go_keep)))
    (first
      | (go_at_call 59; (with_reducible refine (made_calls (l := l) (r := rl) (HL.out.below (by (first | assumption | exact Below.refl _ _ | exact pw_below_drewN (Below.refl _ _) _ | exact below_drew1 (pw_below_drewN (Below.refl _ _) _) | exact below_drew1 (Below.refl _ _) | exact pw_below_drewN (by assumption) _ | exact below_drew1 (by assumption)))) (HRL.out.below (by (first | assumption | exact Below.refl _ _ | exact pw_below_drewN (Below.refl _ _) _ | exact below_drew1 (pw_below_drewN (Below.refl _ _) _) | exact below_drew1 (Below.refl _ _) | exact pw_below_drewN (by assumption) _ | exact below_drew1 (by assumption)))) (by (try simp only [RT.sz]); omega)).mono ?_); rintro e w1 ⟨p1, rfl, hn1, hb1⟩; have hbt1 := below_step (w := w) (by (first | assumption | exact Below.refl _ _ | exact pw_below_drewN (Below.refl _ _) _ | exact below_drew1 (pw_below_drewN (Below.refl _ _) _) | exact below_drew1 (Below.refl _ _) | exact pw_below_drewN (by assumption) _ | exact below_drew1 (by assumption))) hb1; have k1_0 := (hbt1.cell (p := ⟨b, 0, none⟩) hb).trans c0; have k1_1 := (hbt1.cell (p := ⟨b, 1, none⟩) hb).trans c1; have k1_2 := (hbt1.cell (p := ⟨b, 2, none⟩) hb).trans c2)
      | (go_at_call 59; (with_reducible refine (made_calls (l := RT.node l c rl) (r := rr) hn1 (HRR.out.below hbt1) (by (try simp only [RT.sz]); omega)).mono ?_); rintro e w2 ⟨p2, rfl, hn2, hb2⟩; have hbt2 := below_step (w := w) hbt1 hb2; have k2_0 := (hbt2.cell (p := ⟨b, 0, none⟩) hb).trans c0; have k2_1 := (hbt2.cell (p := ⟨b, 1, none⟩) hb).trans c1; have k2_2 := (hbt2.cell (p := ⟨b, 2, none⟩) hb).trans c2))
  go_wp2
  go_ret
  exact ⟨p2, rfl, hn2, hbt2⟩
set_option maxRecDepth 100000 in
set_option maxHeartbeats 4000000 in
/-- the right one is too deep, its left part is deeper than its right one -/
theorem even_d {w : World} {pl pr : Option Addr} {l rx ry rr : RT} {rc m c : Int} (hl : Nd w pl l) (hr : Nd w pr (RT.node (RT.node rx m ry) rc rr)) (hs : l.sz + (rx.sz + ry.sz) + rr.sz ≤ 900000000000000) (h1 : l.dp + 1 < (RT.node (RT.node rx m ry) rc rr).dp) (h2 : rr.dp < (RT.node rx m ry).dp) :
    Calls Try.prog 73 #[.pointer pl, .int .i32 c, .pointer pr] w (Gives (RT.node (RT.node l c rx) m (RT.node ry rc rr)) w) := by
  have b1 := RT.dp_le l
  have b4 := RT.dp_le (RT.node (RT.node rx m ry) rc rr)
  have e1 : (RT.node (RT.node rx m ry) rc rr).sz = ((RT.node rx m ry)).sz + rr.sz + 1 := rfl
  obtain ⟨d, hd⟩ : ∃ d, (RT.node (RT.node rx m ry) rc rr).dp = d := ⟨_, rfl⟩
  have HN := Aside0.mk hr
  have HL := Aside0.mk hl
  rw [hd] at h1 b4
  have hdb : d ≤ 1000000000000000 := by (try simp only [RT.sz] at *); omega
  have h1' : ((l.dp : Nat) : Int) + 1 < (d : Int) := by omega
  have h0' : ((l.dp : Nat) : Int) ≤ (d : Int) + 1 := by omega
  have e2 : (RT.node rx m ry).sz = rx.sz + ry.sz + 1 := rfl
  have b2 := RT.dp_le rr
  have b3 := RT.dp_le (RT.node rx m ry)
  obtain ⟨d2, hd2⟩ : ∃ d, (RT.node rx m ry).dp = d := ⟨_, rfl⟩
  rw [hd2] at h2 b3
  have h2' : ((rr.dp : Nat) : Int) < (d2 : Int) := by omega
  obtain ⟨b, qa, qb, rfl, hb, c0, c1, c2, c3, c4, c5, hrl, hrr⟩ := hr
  have HRR := Aside0.mk (show Nd w qb rr from hrr)
  have HM := Aside0.mk (show Nd w qa (RT.node rx m ry) from hrl)
  obtain ⟨g, qx, qy, rfl, hg, g0, g1, g2, g3, g4, g5, hrx, hry⟩ := hrl
  have HRX := Aside0.mk (show Nd w qx rx from hrx)
  have HRY := Aside0.mk (show Nd w qy ry from hry)
  have hdr : Calls Try.prog 53 #[.pointer (some ⟨b, 0, none⟩)] w fun e w' => e = .returned (.int .i64 (d : Int)) ∧ w = w' := by
    have := deep_calls HN.out
    rw [hd] at this
    exact this
  have hdl := deep_calls HL.out
  have hdm : ∀ n, Calls Try.prog 53 #[.pointer (some ⟨g, 0, none⟩)] (w.drewN n) fun e w'' => e = .returned (.int .i64 (d2 : Int)) ∧ ∃ k, w'' = w.drewN k := fun n => by
    have := deep_q HM.out (n := n)
    rw [hd2] at this
    exact this
  clear hl hd hd2 hrr hrx hry c3 c4 c5 g3 g4 g5 e1 e2
  go_enter Try.func73, Try.ntmps73
  go_wp2_with (go_at_call 53; (first | (with_reducible refine hdl.mono ?_) | (with_reducible refine hdr.mono ?_)); rintro e w' ⟨rfl, rfl⟩)
  go_quiet ((go_at_call 53; first | exact hdm _ | exact deep_q HRR.out))
  go_wp2
  go_region_held3 (fun W' => W'.cell? ⟨b, 0, none⟩ = some (.int .i32 rc) ∧ W'.cell? ⟨b, 2, none⟩ = some (.pointer qb) ∧ W'.cell? ⟨g, 0, none⟩ = some (.int .i32 m) ∧ W'.cell? ⟨g, 1, none⟩ = some (.pointer qx) ∧ W'.cell? ⟨g, 2, none⟩ = some (.pointer qy) ∧ Below w.heap.size w W')
    (((try dsimp only); (repeat' apply And.intro); all_goals (first | assumption | exact Below.refl _ _ | exact below_drew1 (pw_below_drewN (Below.refl _ _) _) | exact below_drew1 (by assumption) | exact below_step (by assumption) (by assumption) | go_keep)))
    (first
      | (go_at_call 59; (with_reducible refine (made_calls (l := l) (r := rx) (HL.out.below (by (first | assumption | exact Below.refl _ _ | exact pw_below_drewN (Below.refl _ _) _ | exact below_drew1 (pw_below_drewN (Below.refl _ _) _) | exact below_drew1 (Below.refl _ _) | exact pw_below_drewN (by assumption) _ | exact below_drew1 (by assumption)))) (HRX.out.below (by (first | assumption | exact Below.refl _ _ | exact pw_below_drewN (Below.refl _ _) _ | exact below_drew1 (pw_below_drewN (Below.refl _ _) _) | exact below_drew1 (Below.refl _ _) | exact pw_below_drewN (by assumption) _ | exact below_drew1 (by assumption)))) (by (try simp only [RT.sz]); omega)).mono ?_); rintro e w1 ⟨p1, rfl, hn1, hb1⟩; have hbt1 := below_step (w := w) (by (first | assumption | exact Below.refl _ _ | exact pw_below_drewN (Below.refl _ _) _ | exact below_drew1 (pw_below_drewN (Below.refl _ _) _) | exact below_drew1 (Below.refl _ _) | exact pw_below_drewN (by assumption) _ | exact below_drew1 (by assumption))) hb1; have k1_0 := (hbt1.cell (p := ⟨b, 0, none⟩) hb).trans c0; have k1_1 := (hbt1.cell (p := ⟨b, 2, none⟩) hb).trans c2; have k1_2 := (hbt1.cell (p := ⟨g, 0, none⟩) hg).trans g0; have k1_3 := (hbt1.cell (p := ⟨g, 1, none⟩) hg).trans g1; have k1_4 := (hbt1.cell (p := ⟨g, 2, none⟩) hg).trans g2)
      | (go_at_call 59; (with_reducible refine (made_calls (l := ry) (r := rr) (HRY.out.below hbt1) (HRR.out.below hbt1) (by (try simp only [RT.sz]); omega)).mono ?_); rintro e w2 ⟨p2, rfl, hn2, hb2⟩; have hbt2 := below_step (w := w) hbt1 hb2; have k2_0 := (hbt2.cell (p := ⟨b, 0, none⟩) hb).trans c0; have k2_1 := (hbt2.cell (p := ⟨b, 2, none⟩) hb).trans c2; have k2_2 := (hbt2.cell (p := ⟨g, 0, none⟩) hg).trans g0; have k2_3 := (hbt2.cell (p := ⟨g, 1, none⟩) hg).trans g1; have k2_4 := (hbt2.cell (p := ⟨g, 2, none⟩) hg).trans g2)
      | (go_at_call 59; (with_reducible refine (made_calls (l := RT.node l c rx) (r := RT.node ry rc rr) (hn1.below hb2) hn2 (by (try simp only [RT.sz]); omega)).mono ?_); rintro e w3 ⟨p3, rfl, hn3, hb3⟩; have hbt3 := below_step (w := w) hbt2 hb3; have k3_0 := (hbt3.cell (p := ⟨b, 0, none⟩) hb).trans c0; have k3_1 := (hbt3.cell (p := ⟨b, 2, none⟩) hb).trans c2; have k3_2 := (hbt3.cell (p := ⟨g, 0, none⟩) hg).trans g0; have k3_3 := (hbt3.cell (p := ⟨g, 1, none⟩) hg).trans g1; have k3_4 := (hbt3.cell (p := ⟨g, 2, none⟩) hg).trans g2))
  go_wp2
  go_ret
  exact ⟨p3, rfl, hn3, hbt3⟩
set_option maxRecDepth 100000 in
set_option maxHeartbeats 4000000 in
/-- none of the two is too deep -/
theorem even_e {w : World} {pl pr : Option Addr} {l r : RT} {c : Int} (hl : Nd w pl l) (hr : Nd w pr r) (hs : l.sz + r.sz ≤ 900000000000000) (h1 : l.dp ≤ r.dp + 1) (h2 : r.dp ≤ l.dp + 1) :
    Calls Try.prog 73 #[.pointer pl, .int .i32 c, .pointer pr] w (Gives (RT.node l c r) w) := by
  have b1 := RT.dp_le l
  have b2 := RT.dp_le r
  have HL := Aside0.mk hl
  have HR := Aside0.mk hr
  clear hl hr
  have h1' : ((l.dp : Nat) : Int) ≤ (r.dp : Int) + 1 := by omega
  have h2' : ((r.dp : Nat) : Int) ≤ (l.dp : Int) + 1 := by omega
  go_enter Try.func73, Try.ntmps73
  go_wp2_with (first
    | (go_at_call 53; (first | (with_reducible refine (deep_calls HL.out).mono ?_) | (with_reducible refine (deep_calls HR.out).mono ?_)); rintro e w' ⟨rfl, rfl⟩)
    | (go_at_call 59; refine (made_calls HL.out HR.out (by omega)).mono ?_; rintro e w1 ⟨p1, rfl, hn1, hb1⟩))
  go_ret
  exact ⟨p1, rfl, hn1, hb1⟩
theorem even_calls {w : World} {pl pr : Option Addr} {l r : RT} {c : Int} (hl : Nd w pl l) (hr : Nd w pr r) (hs : l.sz + r.sz ≤ 900000000000000) :
    Calls Try.prog 73 #[.pointer pl, .int .i32 c, .pointer pr] w (Gives (RT.even l c r) w) := by
  unfold RT.even
  by_cases h1 : r.dp + 1 < l.dp
  · rw [if_pos h1]
    cases l with
    | nil => simp [RT.dp] at h1
    | node ll lc lr =>
      simp only [RT.sz] at hs
      simp only []
      by_cases h2 : lr.dp ≤ ll.dp
      · rw [if_pos h2]
        exact even_a hl hr (by omega) h1 h2
      · rw [if_neg h2]
        cases lr with
        | nil => simp [RT.dp] at h2
        | node a m b =>
          simp only [RT.sz] at hs
          exact even_b hl hr (by omega) h1 (by omega)
  · rw [if_neg h1]
    by_cases h2 : l.dp + 1 < r.dp
    · rw [if_pos h2]
      cases r with
      | nil => simp [RT.dp] at h2
      | node rl rc rr =>
        simp only [RT.sz] at hs
        simp only []
        by_cases h3 : rl.dp ≤ rr.dp
        · rw [if_pos h3]
          exact even_c hl hr (by omega) h2 h3
        · rw [if_neg h3]
          cases rl with
          | nil => simp [RT.dp] at h3
          | node a m b =>
            simp only [RT.sz] at hs
            exact even_d hl hr (by omega) h2 (by omega)
    · rw [if_neg h2]
      exact even_e hl hr hs (by omega) (by omega)
end Go.Proofs.Ytenjldfflkinkaa.Rop
