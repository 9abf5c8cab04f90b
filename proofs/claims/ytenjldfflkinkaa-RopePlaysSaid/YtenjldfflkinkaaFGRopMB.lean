/- YtenjldfflkinkaaFGRopP4, YtenjldfflkinkaaFGRopP5, YtenjldfflkinkaaFGRopPV, YtenjldfflkinkaaFGRopPW: in one text. -/
import Derived.Test.YtenjldfflkinkaaFGRopPL
import Derived.Test.YtenjldfflkinkaaFGRopR
namespace Go.Proofs.Ytenjldfflkinkaa.Rop
set_option linter.unusedVariables false
set_option linter.unusedSimpArgs false
open Go.RowKit Go.Proofs.Ytenjldfflkinkaa.F Go.Proofs.YtenjldfflkinkaaW.PrintWords Go.Proofs.YtenjldfflkinkaaW.PrintLast Go.Proofs.YtenjldfflkinkaaW.PrintMore
theorem Concat_n {w : World} {b b' n n' : Nat} {l l' : List Int} (h : RL w b l) (h' : RL w b' l') (hn : l.length = n) (hn' : l'.length = n') (hl : n ≤ 100000) (hl' : n' ≤ 100000) : Calls Try.prog 26 #[.pointer (some ⟨b, 0, none⟩), .pointer (some ⟨b', 0, none⟩)] w (OneE (l ++ l') w) :=
  Concat_L h h' (by omega)

set_option maxRecDepth 100000 in
set_option maxHeartbeats 8000000 in
theorem play_concat {w : World} {adr adl : Addr} {N m cr cl b n c nz cz : Nat} {A Az : Option Addr} {l z : List Int} {b' n' c' q kk : Nat} {A' : Option Addr} {l' : List Int} {f t : Int} (hP : Pair w adr adl m b A n c l) (hm : N = m + 1) (hN : N ≤ 100) (hl : n ≤ 100000) (hZ : Kd.C (Kd.int .i32) w Az nz z) (hnz : z.length = nz) (hz : nz ≤ 1000) (hrz : Runes z) (hP' : Pair w adr adl kk b' A' n' c' l') (hl' : n' ≤ 100000) (hq : am f N = q) (hqk : q + kk = m) (hf : -9223372036854775808 ≤ f ∧ f ≤ 9223372036854775807) :
    Calls Try.prog 31 #[.slice (some adr) N cr, .slice (some adl) N cl, .agg #[.int .i64 4, .int .i64 f, .int .i64 t, .slice Az nz cz]] w (Played (n + n') w) := by
  have HP := Aside0.mk hP'
  obtain ⟨r0, s0, hn, hT, hC, hc, hr⟩ := hP
  have CAm := Aside0.mk (fun W => (by have := am_calls (w := W) f N (by omega) (by omega) hf; rw [hq] at this; exact this : Calls Try.prog 22 #[.int .i64 f, .int .i64 (N : Int)] W fun e w' => e = .returned (.int .i64 (q : Int)) ∧ W = w'))
  have hmq : (m : Int) - (q : Int) = (kk : Int) := by omega
  have hkN : (kk : Int) < (N : Int) := by omega
  have hmb : (m : Int) ≤ 100 := by omega
  have hqb : (q : Int) ≤ 100 := by omega
  clear hP' hq hqk hf
  have hmn : (N : Int) - 1 = (m : Int) := by omega
  have hml : (m : Int) < (N : Int) := by omega
  have hNb : (N : Int) ≤ 100 := by omega
  have hN1 : 1 ≤ (N : Int) := by omega
  have HT := Aside0.mk hT
  have HC := Aside0.mk hC
  have HZ := Aside0.mk hZ
  have HNl := Aside0.mk hn
  have HNz := Aside0.mk hnz
  have HR := Aside0.mk hr
  have HRz := Aside0.mk hrz
  have HCc := Aside0.mk hc
  have HM := Aside0.mk hm
  clear hT hC hZ hn hnz hr hrz hm
  go_enter Try.func31, Try.ntmps31
  go_wp2
  obtain ⟨Wd, hWd⟩ : ∃ Wd, w.alloc (Obj.cells #[Value.int IntKind.i64 4, Value.int IntKind.i64 f, Value.int IntKind.i64 t, Value.slice Az nz cz] 60) = Wd := ⟨_, rfl⟩
  have m0 : Wd.cell? ⟨w.heap.size, 0, none⟩ = some (.int .i64 4) := by rw [← hWd, new_cell]; rfl
  have m1 : Wd.cell? ⟨w.heap.size, 1, none⟩ = some (.int .i64 f) := by rw [← hWd, new_cell]; rfl
  have m2 : Wd.cell? ⟨w.heap.size, 2, none⟩ = some (.int .i64 t) := by rw [← hWd, new_cell]; rfl
  have m3 : Wd.cell? ⟨w.heap.size, 3, none⟩ = some (.slice Az nz cz) := by rw [← hWd, new_cell]; rfl
  have hbd : Below w.heap.size w Wd := by rw [← hWd]; exact (Below.refl _ _).alloc (Nat.le_refl _) _
  have r1 := (hbd.cell (p := adr.add m) (World.block_lt_of_cell? w _ r0)).trans r0
  have s1 := (hbd.cell (p := adl.add m) (World.block_lt_of_cell? w _ s0)).trans s0
  have TD := Aside0.mk (HT.out.below hbd)
  have LD := Aside0.mk (Kd.C_below HC.out hbd)
  have ZD := Aside0.mk (Kd.C_below HZ.out hbd)
  have BD := Aside0.mk hbd
  have PD := Aside0.mk (HP.out.below hbd)
  rw [hWd]
  clear hWd hbd r0 s0 HT HC HZ HP
  generalize w.heap.size = g at m0 m1 m2 m3 ⊢
  go_quiet (fail)
  have hbx := pw_below_drewN (Below.refl Wd.heap.size Wd) nq
  have hgl := World.block_lt_of_cell? Wd _ m0
  have p0 := (hbx.cell (p := ⟨g, 0, none⟩) hgl).trans m0
  have p1 := (hbx.cell (p := ⟨g, 1, none⟩) hgl).trans m1
  have p2 := (hbx.cell (p := ⟨g, 2, none⟩) hgl).trans m2
  have p3 := (hbx.cell (p := ⟨g, 3, none⟩) hgl).trans m3
  have TX := Aside0.mk (TD.out.below hbx)
  have LX := Aside0.mk (Kd.C_below LD.out hbx)
  have ZX := Aside0.mk (Kd.C_below ZD.out hbx)
  have BX := Aside0.mk (below_step BD.out hbx)
  have PX := Aside0.mk (PD.out.below hbx)
  have hgx : g < (Wd.drewN nq).heap.size := Nat.lt_of_lt_of_le hgl hbx.size
  generalize Wd.drewN nq = X at p0 p1 p2 p3 TX LX ZX BX PX hgx ⊢
  clear hbx hgl m0 m1 m2 m3 TD LD ZD BD PD r1 s1
  obtain ⟨u, hu⟩ : ∃ u, spanE (n : Int) f f = u := ⟨_, rfl⟩
  have HU := Aside0.mk hu
  clear hu
  go_wp2_with (first
    | ((with_reducible refine gate_dst (N := 30) rfl ?_); refine Kd.R_lit (Kd.int .i32) X.heap.size 21 rfl (N := 30) rfl (xs := ([] : List Int)) (inner := []) (ok := fun _ => True) (okp := fun _ => True) ?hr (Reps.none _ _) (fun _ hk => hk) trivial (Below.refl _ X) (Nat.le_refl _) (by simp) ?_; (case hr => first | (go_simp; done) | (go_simp; rfl)); intro v1 w1 ho1 bt1 hg1 hn1; have HO1 := Aside0.mk ho1; clear hg1 hn1 ho1; have p0_1 := (bt1.cell (p := ⟨g, 0, none⟩) hgx).trans p0; have p1_1 := (bt1.cell (p := ⟨g, 1, none⟩) hgx).trans p1; have p2_1 := (bt1.cell (p := ⟨g, 2, none⟩) hgx).trans p2; have p3_1 := (bt1.cell (p := ⟨g, 3, none⟩) hgx).trans p3; have BT1 := Aside0.mk bt1; clear bt1)
    | ((with_reducible refine gate_dst (N := 33) rfl ?_); at_builtin; refine Kd.R_append_rows (Kd.int .i32) (w0 := X) X.heap.size rfl (.tmp 30) (.tmp 32) 23 21 (.int .i32 0) 4 rfl Try.underlying23 info21 rfl (by decide) (by omega) v1 [] z _ _ _ (fun _ => True) (fun _ => False) rfl rfl HO1.out (Kd.C_below ZX.out BT1.out) (fun _ _ h => h) (fun _ h => h.elim) (fun _ _ => trivial) BT1.out BT1.out.size (by simp; omega) ?_; intro v2 w2 ho2 bt2 hg2 hn2; obtain ⟨A2, c2, rfl, hC2, hc2, hm2⟩ := own_row ho2 HNz.out; have C2 := Aside0.mk hC2; have HO2 := Aside0.mk ho2; have K2 := Aside0.mk hc2; have M2 := Aside0.mk hm2; clear hg2 hn2 hC2 hc2 hm2 ho2; have p0_2 := (bt2.cell (p := ⟨g, 0, none⟩) hgx).trans p0; have p1_2 := (bt2.cell (p := ⟨g, 1, none⟩) hgx).trans p1; have p2_2 := (bt2.cell (p := ⟨g, 2, none⟩) hgx).trans p2; have p3_2 := (bt2.cell (p := ⟨g, 3, none⟩) hgx).trans p3; have BT2 := Aside0.mk bt2; clear bt2)
    | (go_at_call 55; (with_reducible refine (Wrong_n (Kd.C_below LX.out BT2.out) HNl.out HCc.out (show spanE (n : Int) f f = u from HU.out)).mono ?_); rintro e w3 ⟨rfl, hb⟩; have bt3 := below_step BT2.out hb; have P3 := Aside0.mk (PX.out.below bt3); have r3 := P3.out.r; have T3 := Aside0.mk (TX.out.below bt3); have p0_3 := (bt3.cell (p := ⟨g, 0, none⟩) hgx).trans p0; have p1_3 := (bt3.cell (p := ⟨g, 1, none⟩) hgx).trans p1; have p2_3 := (bt3.cell (p := ⟨g, 2, none⟩) hgx).trans p2; have p3_3 := (bt3.cell (p := ⟨g, 3, none⟩) hgx).trans p3; have BT3 := Aside0.mk bt3; clear bt3; clear hb)
    | (go_at_call 22; (with_reducible refine (CAm.out _).mono ?_); rintro e w' ⟨rfl, rfl⟩)
    | (go_at_call 26; (with_reducible refine (Concat_n T3.out P3.out.h HNl.out P3.out.hn hl hl').mono ?_); rintro e w4 ⟨b2, rfl, ht, hb⟩; have bt4 := below_step BT3.out hb; have T4 := Aside0.mk ht; have P4 := Aside0.mk (P3.out.below hb); clear ht; have p0_4 := (bt4.cell (p := ⟨g, 0, none⟩) hgx).trans p0; have p1_4 := (bt4.cell (p := ⟨g, 1, none⟩) hgx).trans p1; have p2_4 := (bt4.cell (p := ⟨g, 2, none⟩) hgx).trans p2; have p3_4 := (bt4.cell (p := ⟨g, 3, none⟩) hgx).trans p3; have BT4 := Aside0.mk bt4; clear bt4; clear hb))
  have hbd : Below w4.heap.size w4 w4.drew := below_drew1 (Below.refl _ _)
  have PD_ := Aside0.mk (P4.out.below hbd)
  have TD_ := Aside0.mk (T4.out.below hbd)
  have BD_ := Aside0.mk (below_step BT4.out hbd)
  have LD_ := Aside0.mk (Kd.C_below LX.out BD_.out)
  refine start_ (n := 18) (S := fun w' => w'.cell? (adl.add kk) = some (.slice A' n' c')) (ds := []) #[false, false, false, false, false, false, false, false, false, false, false, false, false, false, false, false, false, false] (by kernel_rfl) rfl rfl PD_.out.s (fun hHeld => ?_)
  generalize w4.drew = D at PD_ TD_ BD_ LD_ hHeld ⊢
  clear hbd P4 T4 BT4 P3 T3
  refine pure_ (i := 0) (N := some 130) (v := ?_) (a' := ?_) #[true, false, false, false, false, false, false, false, false, false, false, false, false, false, false, false, false, false] rfl rfl (by kernel_rfl) (fun _ _ _ h => h) (Or.inl ⟨by rfl, ?_⟩) ?_ ?_
  rotate_left
  · intro w'
    go_simp
    with_reducible rfl
  rotate_left
  · simp only [Act.put, List.setIfInBounds_toArray, List.set_cons_zero, List.set_cons_succ, i64_w, i32_w]
    rfl
  refine pure_ (i := 2) (N := some 132) (v := ?_) (a' := ?_) #[true, false, true, false, false, false, false, false, false, false, false, false, false, false, false, false, false, false] rfl rfl (by kernel_rfl) (fun _ _ _ h => h) (Or.inl ⟨by rfl, ?_⟩) ?_ ?_
  rotate_left
  · intro w'
    go_simp
    with_reducible rfl
  rotate_left
  · simp only [Act.put, List.setIfInBounds_toArray, List.set_cons_zero, List.set_cons_succ, i64_w, i32_w]
    rfl
  refine pure_ (i := 4) (N := some 134) (v := ?_) (a' := ?_) #[true, false, true, false, true, false, false, false, false, false, false, false, false, false, false, false, false, false] rfl rfl (by kernel_rfl) (fun _ _ _ h => h) (Or.inl ⟨by rfl, ?_⟩) ?_ ?_
  rotate_left
  · intro w'
    go_simp
    with_reducible rfl
  rotate_left
  · simp only [Act.put, List.setIfInBounds_toArray, List.set_cons_zero, List.set_cons_succ, i64_w, i32_w]
    rfl
  refine pure_ (i := 5) (N := some 135) (v := ?_) (a' := ?_) #[true, false, true, false, true, true, false, false, false, false, false, false, false, false, false, false, false, false] rfl rfl (by kernel_rfl) (fun _ _ _ h => h) (Or.inl ⟨by rfl, ?_⟩) ?_ ?_
  rotate_left
  · intro w'
    go_simp
    with_reducible rfl
  rotate_left
  · simp only [Act.put, List.setIfInBounds_toArray, List.set_cons_zero, List.set_cons_succ, i64_w, i32_w]
    rfl
  refine pure_ (i := 6) (N := some 136) (v := ?_) (a' := ?_) #[true, false, true, false, true, true, true, false, false, false, false, false, false, false, false, false, false, false] rfl rfl (by kernel_rfl) (fun _ _ _ h => h) (Or.inl ⟨by rfl, ?_⟩) ?_ ?_
  rotate_left
  · intro w'
    go_simp
    with_reducible rfl
  rotate_left
  · simp only [Act.put, List.setIfInBounds_toArray, List.set_cons_zero, List.set_cons_succ, i64_w, i32_w]
    rfl
  refine take_ (i := 7) (N := some 137) (v := ?_) (a' := ?_) #[true, false, true, false, true, true, true, true, false, false, false, false, false, false, false, false, false, false] rfl rfl (by kernel_rfl) (fun _ _ _ h => h) (Or.inl ⟨by rfl, ?_⟩) hHeld ?_ ?_
  rotate_left
  · rintro w' s0
    go_simp
    with_reducible rfl
  rotate_left
  · simp only [Act.put, List.setIfInBounds_toArray, List.set_cons_zero, List.set_cons_succ, i64_w, i32_w]
    rfl
  refine pure_ (i := 9) (N := some 139) (v := ?_) (a' := ?_) #[true, false, true, false, true, true, true, true, false, true, false, false, false, false, false, false, false, false] rfl rfl (by kernel_rfl) (fun _ _ _ h => h) (Or.inl ⟨by rfl, ?_⟩) ?_ ?_
  rotate_left
  · intro w'
    go_simp
    with_reducible rfl
  rotate_left
  · simp only [Act.put, List.setIfInBounds_toArray, List.set_cons_zero, List.set_cons_succ, i64_w, i32_w]
    rfl
  refine pure_ (i := 10) (N := some 140) (v := ?_) (a' := ?_) #[true, false, true, false, true, true, true, true, false, true, true, false, false, false, false, false, false, false] rfl rfl (by kernel_rfl) (fun _ _ _ h => h) (Or.inl ⟨by rfl, ?_⟩) ?_ ?_
  rotate_left
  · intro w'
    go_simp
    with_reducible rfl
  rotate_left
  · simp only [Act.put, List.setIfInBounds_toArray, List.set_cons_zero, List.set_cons_succ, i64_w, i32_w]
    rfl
  refine one_ (i := 1) (N := some 131) #[true, true, true, false, true, true, true, true, false, true, true, false, false, false, false, false, false, false] rfl rfl (by kernel_rfl) (by decide) (fun K hK => ?_)
  refine Kd.R_lit_step (Kd.int .i32) D.heap.size 21 ?hg (N := 131) ?hd (xs := ([] : List Int)) (inner := []) (ok := fun _ => True) (okp := fun _ => True) ?hr ?hp (fun _ hk => hk) trivial (Below.refl _ D) (Nat.le_refl _) (by simp) ?_; (case hd => rfl); (case hg => rfl); (case hr => first | (go_simp; done) | (go_simp; rfl)); (case hp => exact (Reps.none _ _))
  intro v5 w5 ho5 hb5 hg5 hn5
  have HO5 := Aside0.mk ho5
  have HB5 := Aside0.mk hb5
  clear hg5 hn5 ho5 hb5
  refine hK.out _ _ (PD_.out.below HB5.out).s (fun hHeld => ?_)
  clear hK K
  refine norm_ (a' := ?_) ?_ ?_
  rotate_left
  · show Act.put _ (some 131) _ = _
    simp only [Act.put, List.setIfInBounds_toArray, List.set_cons_zero, List.set_cons_succ, i64_w, i32_w]
    rfl
  refine one_ (i := 3) (N := some 133) #[true, true, true, true, true, true, true, true, false, true, true, false, false, false, false, false, false, false] rfl rfl (by kernel_rfl) (by decide) (fun K hK => ?_)
  refine Kd.R_append_rows_step (Kd.int .i32) (w0 := D) D.heap.size (by rfl) (.tmp 131) (.tmp 132) 23 21 (.int .i32 0) 4 rfl Try.underlying23 info21 rfl (by decide) (by omega) v5 ([]) l _ _ _ (fun _ => True) (fun _ => False) rfl rfl HO5.out (Kd.C_below LD_.out HB5.out) (fun _ _ h => h) (fun _ h => h.elim) (fun _ _ => trivial) HB5.out HB5.out.size (by have := HNl.out; simp; omega) ?_
  intro v6 w6 ho6 hb6 hg6 hn6
  have HO6 := Aside0.mk ho6
  have HB6 := Aside0.mk hb6
  clear hg6 hn6 ho6 hb6
  refine hK.out _ _ (PD_.out.below HB6.out).s (fun hHeld => ?_)
  clear hK K
  refine norm_ (a' := ?_) ?_ ?_
  rotate_left
  · show Act.put _ (some 133) _ = _
    simp only [Act.put, List.setIfInBounds_toArray, List.set_cons_zero, List.set_cons_succ, i64_w, i32_w]
    rfl
  refine one_ (i := 8) (N := some 138) #[true, true, true, true, true, true, true, true, true, true, true, false, false, false, false, false, false, false] rfl rfl (by kernel_rfl) (by decide) (fun K hK => ?_)
  refine Kd.R_append_rows_step (Kd.int .i32) (w0 := D) D.heap.size (by rfl) (.tmp 133) (.tmp 137) 23 21 (.int .i32 0) 4 rfl Try.underlying23 info21 rfl (by decide) (by omega) v6 ([] ++ l) l' _ _ _ (fun _ => True) (fun _ => False) rfl rfl HO6.out (Kd.C_below PD_.out.hC HB6.out) (fun _ _ h => h) (fun _ h => h.elim) (fun _ _ => trivial) HB6.out HB6.out.size (by have := HNl.out; simp; omega) ?_
  intro v7 w7 ho7 hb7 hg7 hn7
  have HO7 := Aside0.mk ho7
  have HB7 := Aside0.mk hb7
  clear hg7 hn7 ho7 hb7
  refine hK.out _ _ (PD_.out.below HB7.out).s (fun hHeld => ?_)
  clear hK K
  refine norm_ (a' := ?_) ?_ ?_
  rotate_left
  · show Act.put _ (some 138) _ = _
    simp only [Act.put, List.setIfInBounds_toArray, List.set_cons_zero, List.set_cons_succ, i64_w, i32_w]
    rfl
  refine pure_ (i := 11) (N := some 141) (v := ?_) (a' := ?_) #[true, true, true, true, true, true, true, true, true, true, true, true, false, false, false, false, false, false] rfl rfl (by kernel_rfl) (fun _ _ _ h => h) (Or.inl ⟨by rfl, ?_⟩) ?_ ?_
  rotate_left
  · intro w'
    go_simp
    with_reducible rfl
  rotate_left
  · simp only [Act.put, List.setIfInBounds_toArray, List.set_cons_zero, List.set_cons_succ, i64_w, i32_w]
    rfl
  refine pure_ (i := 12) (N := some 142) (v := ?_) (a' := ?_) #[true, true, true, true, true, true, true, true, true, true, true, true, true, false, false, false, false, false] rfl rfl (by kernel_rfl) (fun _ _ _ h => h) (Or.inl ⟨by rfl, ?_⟩) ?_ ?_
  rotate_left
  · intro w'
    go_simp
    with_reducible rfl
  rotate_left
  · simp only [Act.put, List.setIfInBounds_toArray, List.set_cons_zero, List.set_cons_succ, i64_w, i32_w]
    rfl
  refine pure_ (i := 13) (N := some 143) (v := ?_) (a' := ?_) #[true, true, true, true, true, true, true, true, true, true, true, true, true, true, false, false, false, false] rfl rfl (by kernel_rfl) (fun _ _ _ h => h) (Or.inl ⟨by rfl, ?_⟩) ?_ ?_
  rotate_left
  · intro w'
    go_simp
    with_reducible rfl
  rotate_left
  · simp only [Act.put, List.setIfInBounds_toArray, List.set_cons_zero, List.set_cons_succ, i64_w, i32_w]
    rfl
  refine pure_ (i := 14) (N := some 144) (v := ?_) (a' := ?_) #[true, true, true, true, true, true, true, true, true, true, true, true, true, true, true, false, false, false] rfl rfl (by kernel_rfl) (fun _ _ _ h => h) (Or.inl ⟨by rfl, ?_⟩) ?_ ?_
  rotate_left
  · intro w'
    go_simp
    with_reducible rfl
  rotate_left
  · simp only [Act.put, List.setIfInBounds_toArray, List.set_cons_zero, List.set_cons_succ, i64_w, i32_w]
    rfl
  refine pure_ (i := 15) (N := some 6) (v := ?_) (a' := ?_) #[true, true, true, true, true, true, true, true, true, true, true, true, true, true, true, true, false, false] rfl rfl (by kernel_rfl) (fun _ _ _ h => h) (Or.inl ⟨by rfl, ?_⟩) ?_ ?_
  rotate_left
  · intro w'
    go_simp
    with_reducible rfl
  rotate_left
  · simp only [Act.put, List.setIfInBounds_toArray, List.set_cons_zero, List.set_cons_succ, i64_w, i32_w]
    rfl
  refine pure_ (i := 16) (N := some 7) (v := ?_) (a' := ?_) #[true, true, true, true, true, true, true, true, true, true, true, true, true, true, true, true, true, false] rfl rfl (by kernel_rfl) (fun _ _ _ h => h) (Or.inl ⟨by rfl, ?_⟩) ?_ ?_
  rotate_left
  · intro w'
    go_simp
    with_reducible rfl
  rotate_left
  · simp only [Act.put, List.setIfInBounds_toArray, List.set_cons_zero, List.set_cons_succ, i64_w, i32_w]
    rfl
  refine pure_ (i := 17) (N := some 8) (v := ?_) (a' := ?_) #[true, true, true, true, true, true, true, true, true, true, true, true, true, true, true, true, true, true] rfl rfl (by kernel_rfl) (fun _ _ _ h => h) (Or.inl ⟨by rfl, ?_⟩) ?_ ?_
  rotate_left
  · intro w'
    go_simp
    with_reducible rfl
  rotate_left
  · simp only [Act.put, List.setIfInBounds_toArray, List.set_cons_zero, List.set_cons_succ, i64_w, i32_w]
    rfl
  refine done_ (by kernel_rfl) ?_
  try go_wp2
  have hlen : (l ++ l').length = n + n' := by have := HNl.out; have := PD_.out.hn; simp; omega
  obtain ⟨A7, c7, rfl, hC7, hc7, _⟩ := own_row (l := l ++ l') HO7.out hlen
  have hbf := below_step BX.out (below_step BD_.out HB7.out)
  refine bodyPost_ret (v := .tuple #[.pointer (some ⟨b2, 0, none⟩), .slice A7 (n + n') c7, .bool true]) (by simp [results, Try.results31, go_sem]) rfl ⟨hbf, .inr ⟨b2, A7, n + n', c7, l ++ l', rfl, ⟨TD_.out.below HB7.out, hC7, hc7, HR.out.app PD_.out.hr, hlen⟩, Nat.le_refl _⟩⟩
end Go.Proofs.Ytenjldfflkinkaa.Rop
namespace Go.Proofs.Ytenjldfflkinkaa.Rop
set_option linter.unusedVariables false
set_option linter.unusedSimpArgs false
open Go.RowKit Go.Proofs.Ytenjldfflkinkaa.F Go.Proofs.YtenjldfflkinkaaW.PrintWords Go.Proofs.YtenjldfflkinkaaW.PrintLast Go.Proofs.YtenjldfflkinkaaW.PrintMore
theorem zero_ints (n : Nat) : ∀ (i : Nat) (v : Value), (Builtin.zeroCells (Value.int .i32 0).cells n)[i]? = some v → v = .int .i32 0 := by
  intro i v h
  simp [Builtin.zeroCells, Value.cells] at h
  obtain ⟨a, h1, h2⟩ := h
  rw [← h2]
  simp [Nat.mod_one]
/-- cells of a block -/
theorem blk_cell {W : World} {g t j : Nat} {cur : Array Value} (h : W.heap[g]? = some (.cells cur t (0, 0))) : W.cell? ⟨g, j, none⟩ = cur[j]? := by
  simp [World.cell?, h]
theorem blk_frozen {W : World} {g t j : Nat} {cur : Array Value} (h : W.heap[g]? = some (.cells cur t (0, 0))) : W.frozen? ⟨g, j, none⟩ = false := by
  simp [World.frozen?, h]
/-- append to an empty one: a block of its own, all its cells runes -/
theorem append_fresh {ops : Array Oper} {rest : List Oper} {o : Oper} {a : Act} {Q : Exit → Act → World → Prop} {W : World} (hg : o.guard = none) (s x : Operand)
    (hop : o.op = .call { callee := .builtin .append, args := #[s, x], argTypes := #[23, 23] }) (b : Addr) (hs : a.eval s = .slice (some b) 0 0) {A : Option Addr} {nz c : Nat} {z : List Int} (hx : a.eval x = .slice A nz c)
    (hC : Kd.C (Kd.int .i32) W A nz z) (hn : z.length = nz) (h0 : 0 < nz) (hb : nz ≤ 1000000)
    (h : ∀ (cap : Nat) (cur : Array Value) (w1 : World), w1.heap[W.heap.size]? = some (.cells cur 21 (0, 0)) → nz ≤ cur.size → (∀ (i : Nat) (v : Value), cur[i]? = some v → ∃ x, v = .int .i32 x) → (∀ j, j < nz → cur[j]? = some (.int .i32 (z.getD j 0))) → nz ≤ cap → cap ≤ 9223372036854775807 → Below W.heap.size W w1 →
      wpList Try.prog ops Q rest (a.put o.dst (.slice (some ⟨W.heap.size, 0, none⟩) nz cap)) w1) : wpList Try.prog ops Q (o :: rest) a W := by
  obtain ⟨i0, hi, hz0, hz1, hz2⟩ := info_parts info21
  obtain ⟨ad, rfl, _⟩ := num_read32 hC hn 0 h0
  have hnews : ∀ (j : Nat) (v : Value), (z.map (Value.int .i32))[j]? = some v → W.cell? (ad.add j) = some v := by
    intro j v hj
    rw [List.getElem?_map] at hj
    obtain ⟨x, hx1, rfl⟩ := Option.map_eq_some_iff.1 hj
    obtain ⟨hjl, rfl⟩ := List.getElem?_eq_some_iff.1 hx1
    obtain ⟨ad', he, hc⟩ := num_read32 hC hn j (by omega)
    obtain rfl : ad = ad' := Option.some.inj he
    rw [hc, List.getD_eq_getElem?_getD, List.getElem?_eq_getElem hjl]
    rfl
  have hrun := run_append_grow (P := Try.prog) W 23 o.type 21 i0 (.int .i32 0) Try.underlying23 hi hz0 b 0 0 [] (by simp) (fun j v h => by simp at h) ad nz c (z.map (Value.int .i32)) (by simp [hz1, hn]) hnews (by omega) (by omega) (growslice_fits (by omega) (by rw [hz2]; omega))
  have hge := grownCap_ge W (0 + nz) 0 21
  have hcm : grownCap W (0 + nz) 0 21 ≤ maxLen := grownCap_le_maxLen W (0 + nz) 0 21 (by simp only [maxLen]; omega)
  refine wpList_plain hg fun K hK' => ?_
  unfold Oper.wp
  simp only [Nat.zero_add] at hrun hge hcm
  simp only [maxLen] at hcm
  obtain ⟨cap, hcap⟩ : ∃ cap, grownCap W nz 0 21 = cap := ⟨_, rfl⟩
  rw [hcap] at hrun hge hcm
  obtain ⟨cur, hcur⟩ : ∃ cur, ([] : List Value).toArray ++ (z.map (Value.int .i32)).toArray ++ Builtin.zeroCells (Value.int .i32 0).cells (cap - nz) = cur := ⟨_, rfl⟩
  rw [hcur] at hrun
  have hget : ∀ i : Nat, cur[i]? = if h : i < nz then some (.int .i32 (z.getD i 0)) else (Builtin.zeroCells (Value.int .i32 0).cells (cap - nz))[i - nz]? := by
    intro i
    rw [← hcur]
    by_cases hi : i < nz
    · rw [dif_pos hi, Array.getElem?_append_left (by simp [hn]; exact hi)]
      simp [List.getD_eq_getElem?_getD, show i < z.length by omega]
    · rw [dif_neg hi, Array.getElem?_append_right (by simp [hn]; omega)]
      simp [hn]
  simp [execOp, hop, resolve, invoke, builtin, hs, hx, hrun, Result.andThen]
  refine hK' _ _ (h cap cur _ ?_ ?_ ?_ ?_ hge hcm ?_)
  · exact World.alloc_heap_new W.drew _
  · rw [← hcur]
    simp [hn]
  · intro i v hv
    rw [hget] at hv
    split at hv
    · injection hv with hv
      exact ⟨_, hv.symm⟩
    · exact ⟨0, zero_ints _ _ _ hv⟩
  · intro j hj
    rw [hget, dif_pos hj]
  · exact below_alloc (below_drew1 (Below.refl _ _)) _
/-- a rope stays where one block of runes alone was written -/
theorem RL.keep {W W' : World} {b g : Nat} {l : List Int} (h : RL W b l) (hg : ∀ pl, W.cell? ⟨g, 1, none⟩ ≠ some (.pointer pl)) (hk : ∀ k, k < W.heap.size → k ≠ g → W'.heap[k]? = W.heap[k]?) (hs : W.heap.size ≤ W'.heap.size) : RL W' b l := by
  obtain ⟨t, ⟨b1, q, hp, h1, h2, h3, h4⟩, h5, h6⟩ := h
  have hS : KeepS (fun k => k < W.heap.size ∧ k ≠ g) W W' := fun k hk' => hk k hk'.1 hk'.2
  have hb : b1 < W.heap.size ∧ b1 ≠ g := ⟨h1, fun e => by subst e; exact hg _ h3⟩
  refine ⟨t, ⟨b1, q, hp, Nat.lt_of_lt_of_le h1 hs, ?_, ?_, ?_⟩, h5, h6⟩
  · rw [hS.cell hb]; exact h2
  · rw [hS.cell hb]; exact h3
  · exact NodeIn.nd (NodeIn.keep hS (NodeAt.inS (S := fun k => k < W.heap.size ∧ k ≠ g) (fun b pl hb hc => ⟨hb, fun e => by subst e; exact hg _ hc⟩) (Nat.le_refl _) h4))
theorem New_n {w : World} {A : Option Addr} {n c : Nat} {l : List Int} (hC : Kd.C (Kd.int .i32) w A n l) (hn : l.length = n) (hc : n ≤ c) (hm : c ≤ 9223372036854775807) (hb : n ≤ 100000) : Calls Try.prog 10 #[.slice A n c] w (OneR l w) := by
  subst hn
  exact New_L hC hc hm (by omega)

set_option maxRecDepth 100000 in
set_option maxHeartbeats 8000000 in
theorem play_new {w : World} {adr adl : Addr} {N m cr cl b n c nz cz : Nat} {A Az : Option Addr} {l z : List Int} {k f t : Int} (hP : Pair w adr adl m b A n c l) (hm : N = m + 1) (hN : N ≤ 100) (hl : n ≤ 100000) (hZ : Kd.C (Kd.int .i32) w Az nz z) (hnz : z.length = nz) (hz : nz ≤ 1000) (hrz : Runes z) (h0 : (k == 0) = false) (h1 : (k == 1) = false) (h2 : (k == 2) = false) (h3 : (k == 3) = false) (h4 : (k == 4) = false) (hz0 : 0 < nz) :
    Calls Try.prog 31 #[.slice (some adr) N cr, .slice (some adl) N cl, .agg #[.int .i64 k, .int .i64 f, .int .i64 t, .slice Az nz cz]] w (Played (nz) w) := by
  obtain ⟨r0, s0, hn, hT, hC, hc, hr⟩ := hP
  have hmn : (N : Int) - 1 = (m : Int) := by omega
  have hml : (m : Int) < (N : Int) := by omega
  have hNb : (N : Int) ≤ 100 := by omega
  have hN1 : 1 ≤ (N : Int) := by omega
  have HT := Aside0.mk hT
  have HC := Aside0.mk hC
  have HZ := Aside0.mk hZ
  have HNl := Aside0.mk hn
  have HNz := Aside0.mk hnz
  have HR := Aside0.mk hr
  have HRz := Aside0.mk hrz
  have HCc := Aside0.mk hc
  have HM := Aside0.mk hm
  clear hT hC hZ hn hnz hr hrz hm
  go_enter Try.func31, Try.ntmps31
  go_wp2
  obtain ⟨Wd, hWd⟩ : ∃ Wd, w.alloc (Obj.cells #[Value.int IntKind.i64 k, Value.int IntKind.i64 f, Value.int IntKind.i64 t, Value.slice Az nz cz] 60) = Wd := ⟨_, rfl⟩
  have m0 : Wd.cell? ⟨w.heap.size, 0, none⟩ = some (.int .i64 k) := by rw [← hWd, new_cell]; rfl
  have m1 : Wd.cell? ⟨w.heap.size, 1, none⟩ = some (.int .i64 f) := by rw [← hWd, new_cell]; rfl
  have m2 : Wd.cell? ⟨w.heap.size, 2, none⟩ = some (.int .i64 t) := by rw [← hWd, new_cell]; rfl
  have m3 : Wd.cell? ⟨w.heap.size, 3, none⟩ = some (.slice Az nz cz) := by rw [← hWd, new_cell]; rfl
  have hbd : Below w.heap.size w Wd := by rw [← hWd]; exact (Below.refl _ _).alloc (Nat.le_refl _) _
  have r1 := (hbd.cell (p := adr.add m) (World.block_lt_of_cell? w _ r0)).trans r0
  have s1 := (hbd.cell (p := adl.add m) (World.block_lt_of_cell? w _ s0)).trans s0
  have TD := Aside0.mk (HT.out.below hbd)
  have LD := Aside0.mk (Kd.C_below HC.out hbd)
  have ZD := Aside0.mk (Kd.C_below HZ.out hbd)
  have BD := Aside0.mk hbd
  rw [hWd]
  clear hWd hbd r0 s0 HT HC HZ
  generalize w.heap.size = g at m0 m1 m2 m3 ⊢
  go_quiet (fail)
  have hbx := pw_below_drewN (Below.refl Wd.heap.size Wd) nq
  have hgl := World.block_lt_of_cell? Wd _ m0
  have p0 := (hbx.cell (p := ⟨g, 0, none⟩) hgl).trans m0
  have p1 := (hbx.cell (p := ⟨g, 1, none⟩) hgl).trans m1
  have p2 := (hbx.cell (p := ⟨g, 2, none⟩) hgl).trans m2
  have p3 := (hbx.cell (p := ⟨g, 3, none⟩) hgl).trans m3
  have TX := Aside0.mk (TD.out.below hbx)
  have LX := Aside0.mk (Kd.C_below LD.out hbx)
  have ZX := Aside0.mk (Kd.C_below ZD.out hbx)
  have BX := Aside0.mk (below_step BD.out hbx)
  have hgx : g < (Wd.drewN nq).heap.size := Nat.lt_of_lt_of_le hgl hbx.size
  generalize Wd.drewN nq = X at p0 p1 p2 p3 TX LX ZX BX hgx ⊢
  clear hbx hgl m0 m1 m2 m3 TD LD ZD BD r1 s1
  obtain ⟨u, hu⟩ : ∃ u, spanE (n : Int) f f = u := ⟨_, rfl⟩
  have HU := Aside0.mk hu
  clear hu
  have HZ0 := Aside0.mk hz0
  have hba : Below X.heap.size X (X.alloc (.cells #[] 21)) := (Below.refl _ _).alloc (Nat.le_refl _) _
  have a3 := (hba.cell (p := ⟨g, 3, none⟩) hgx).trans p3
  have BA := Aside0.mk hba
  have hgA : X.heap.size < (X.alloc (.cells #[] 21)).heap.size := by simp
  obtain ⟨y, hy⟩ : ∃ y, (X.alloc (.cells #[] 21)).heap.size = y := ⟨_, rfl⟩
  have HYX := Aside0.mk (show X.heap.size ≤ y by rw [← hy]; exact Nat.le_of_lt hgA)
  clear hba hgA
  go_wp2_with (first
    | ((with_reducible refine gate_dst (N := 33) rfl ?_); at_builtin; refine append_fresh rfl (.tmp 30) (.tmp 32) rfl _ rfl rfl (Kd.C_below ZX.out BA.out) HNz.out HZ0.out (by omega) ?_; intro c2 cur w2 hblk hcs hint hcz hc2 hm2 hb2; have HK2 := Aside0.mk hblk; have CS := Aside0.mk hcs; have CI := Aside0.mk hint; have CZ := Aside0.mk hcz; have K2 := Aside0.mk hc2; have M2 := Aside0.mk hm2; have bt2 := below_step BA.out hb2; have G2 := Aside0.mk (show (X.alloc (.cells #[] 21)).heap.size < w2.heap.size from (Array.getElem?_eq_some_iff.1 hblk).1); clear hblk hcs hint hcz hc2 hm2 hb2; rw [hy] at HK2 G2 ⊢; have p0_2 := (bt2.cell (p := ⟨g, 0, none⟩) hgx).trans p0; have p1_2 := (bt2.cell (p := ⟨g, 1, none⟩) hgx).trans p1; have p2_2 := (bt2.cell (p := ⟨g, 2, none⟩) hgx).trans p2; have p3_2 := (bt2.cell (p := ⟨g, 3, none⟩) hgx).trans p3; have BT2 := Aside0.mk bt2; clear bt2)
    | (go_at_call 55; (with_reducible refine (Wrong_n (Kd.C_below LX.out BT2.out) HNl.out HCc.out (show spanE (n : Int) f f = u from HU.out)).mono ?_); rintro e w3 ⟨rfl, hb⟩; have bt3 := below_step BT2.out hb; have HK3 := Aside0.mk ((hb.block _ G2.out).trans HK2.out); have C3 := Aside0.mk (C_lit (W := w3) (zs := z) (by have := HNz.out; omega) (fun j hj => (blk_cell ((hb.block _ G2.out).trans HK2.out)).trans (CZ.out j (by have := HNz.out; omega)))); have G3 := Aside0.mk (Nat.lt_of_lt_of_le G2.out hb.size); have p0_3 := (bt3.cell (p := ⟨g, 0, none⟩) hgx).trans p0; have p1_3 := (bt3.cell (p := ⟨g, 1, none⟩) hgx).trans p1; have p2_3 := (bt3.cell (p := ⟨g, 2, none⟩) hgx).trans p2; have p3_3 := (bt3.cell (p := ⟨g, 3, none⟩) hgx).trans p3; have BT3 := Aside0.mk bt3; clear bt3; clear hb)
    | (go_at_call 10; (with_reducible refine (New_n (by have := C3.out; rw [HNz.out] at this; exact this) HNz.out K2.out M2.out (by omega)).mono ?_); rintro e w4 ⟨b2, rfl, ht, hb⟩; have bt4 := below_step BT3.out hb; have T4 := Aside0.mk ht; have HK4 := Aside0.mk ((hb.block _ G3.out).trans HK3.out); have G4 := Aside0.mk (Nat.lt_of_lt_of_le G3.out hb.size); clear ht; have p0_4 := (bt4.cell (p := ⟨g, 0, none⟩) hgx).trans p0; have p1_4 := (bt4.cell (p := ⟨g, 1, none⟩) hgx).trans p1; have p2_4 := (bt4.cell (p := ⟨g, 2, none⟩) hgx).trans p2; have p3_4 := (bt4.cell (p := ⟨g, 3, none⟩) hgx).trans p3; have BT4 := Aside0.mk bt4; clear bt4; clear hb))
  clear hy HK2 HK3 G2 G3 C3 a3
  go_loopw [46] (fun v46 wr => ∃ (i : Nat) (cu : Array Value), v46 = .int .i64 (i : Int) ∧ i ≤ nz ∧ Aside0 (wr.heap[y]? = some (.cells cu 21 (0, 0))) ∧ Aside0 (nz ≤ cu.size) ∧ Aside0 (∀ (i : Nat) (v : Value), cu[i]? = some v → ∃ x, v = .int .i32 x) ∧ Aside0 (∀ k, k < w4.heap.size → k ≠ y → wr.heap[k]? = w4.heap[k]?) ∧ Aside0 (w4.heap.size ≤ wr.heap.size) ∧ Aside0 (Below X.heap.size X wr)) (fun v46 _ => nz - (intOf v46).toNat)
  case atStart => exact ⟨0, cur, rfl, Nat.zero_le _, HK4, CS, CI, ⟨fun _ _ _ => rfl⟩, ⟨Nat.le_refl _⟩, BT4⟩
  case round =>
    obtain ⟨i, cu, rfl, hi, HK, HS, HI, HE, HZ_, HB⟩ := hrel
    by_cases hlt : i < nz
    · have hlt' : (i : Int) < (nz : Int) := by omega
      obtain ⟨x, hx⟩ : ∃ x, cu[i]? = some (.int .i32 x) := by
        have h1 : i < cu.size := by have := HS.out; omega
        obtain ⟨x, hx⟩ := HI.out i _ (Array.getElem?_eq_getElem h1)
        exact ⟨x, by rw [Array.getElem?_eq_getElem h1, hx]⟩
      have hcx : wr.cell? ⟨y, i, none⟩ = some (.int .i32 x) := (blk_cell HK.out).trans hx
      have hfx : wr.frozen? ⟨y, i, none⟩ = false := blk_frozen HK.out
      clear hx
      have hib : (i : Int) ≤ 1000 := by omega
      go_wp2
      go_roundw
      case measure => simp [intOf]; omega
      case rel =>
        refine ⟨i + 1, _, by go_num, by omega, ⟨blk_set HK.out i _⟩, ⟨by simp; exact HS.out⟩, ⟨?_⟩, ⟨fun k hk hne => (Below.heap_setCell wr ⟨y, i, none⟩ _ k hne).trans (HE.out k hk hne)⟩, ⟨by have := HZ_.out; simpa using this⟩, ⟨HB.out.setCell (p := ⟨y, i, none⟩) HYX.out _⟩⟩
        intro j v hv
        rw [Array.getElem?_setIfInBounds] at hv
        split at hv
        · split at hv
          · injection hv with hv
            exact ⟨_, hv.symm⟩
          · cases hv
        · exact HI.out j v hv
    · have hlt' : ¬ (i : Int) < (nz : Int) := by omega
      have TR := Aside0.mk (RL.keep T4.out (g := y) (fun pl hc => by
        rw [blk_cell HK4.out] at hc
        obtain ⟨x, hx⟩ := CI.out 1 _ hc
        cases hx) HE.out HZ_.out)
      have q3 := (HB.out.cell (p := ⟨g, 3, none⟩) hgx).trans p3
      have hgr : g < wr.heap.size := Nat.lt_of_lt_of_le hgx HB.out.size
      have ZR := Aside0.mk (Kd.C_below ZX.out HB.out)
      go_wp2_with (first
        | ((with_reducible refine gate_dst (N := 57) rfl ?_); refine Kd.R_lit (Kd.int .i32) wr.heap.size 21 rfl (N := 57) rfl (xs := ([] : List Int)) (inner := []) (ok := fun _ => True) (okp := fun _ => True) ?hr (Reps.none _ _) (fun _ hk => hk) trivial (Below.refl _ wr) (Nat.le_refl _) (by simp) ?_; (case hr => first | (go_simp; done) | (go_simp; rfl)); intro v5 w5 ho5 hb5 hg5 hn5; have q35 := (hb5.cell (p := ⟨g, 3, none⟩) hgr).trans q3; have HO5 := Aside0.mk ho5; have HB5 := Aside0.mk hb5; clear hg5 hn5 ho5 hb5)
        | ((with_reducible refine gate_dst (N := 60) rfl ?_); at_builtin; refine Kd.R_append_rows (Kd.int .i32) (w0 := wr) wr.heap.size rfl (.tmp 57) (.tmp 59) 23 21 (.int .i32 0) 4 rfl Try.underlying23 info21 rfl (by decide) (by omega) v5 [] z _ _ _ (fun _ => True) (fun _ => False) rfl rfl HO5.out (Kd.C_below ZR.out HB5.out) (fun _ _ h => h) (fun _ h => h.elim) (fun _ _ => trivial) HB5.out HB5.out.size (by simp; omega) ?_; intro v6 w6 ho6 hb6 hg6 hn6; obtain ⟨A6, c6, rfl, hC6, hc6, _⟩ := own_row ho6 HNz.out; have C6 := Aside0.mk hC6; have K6 := Aside0.mk hc6; have HB6 := Aside0.mk hb6; clear hg6 hn6 ho6 hC6 hc6 hb6))
      refine bodyPost_ret (v := .tuple #[.pointer (some ⟨b2, 0, none⟩), .slice A6 nz c6, .bool true]) (by simp [results, Try.results31, go_sem]) rfl ⟨below_step BX.out (below_step HB.out HB6.out), .inr ⟨b2, A6, nz, c6, z, rfl, ⟨TR.out.below HB6.out, C6.out, K6.out, HRz.out, HNz.out⟩, Nat.le_refl _⟩⟩
set_option maxRecDepth 100000 in
set_option maxHeartbeats 8000000 in
theorem play_new0 {w : World} {adr adl : Addr} {N m cr cl b n c nz cz : Nat} {A Az : Option Addr} {l z : List Int} {k f t : Int} (hP : Pair w adr adl m b A n c l) (hm : N = m + 1) (hN : N ≤ 100) (hl : n ≤ 100000) (hZ : Kd.C (Kd.int .i32) w Az nz z) (hnz : z.length = nz) (hz : nz ≤ 1000) (hrz : Runes z) (h0 : (k == 0) = false) (h1 : (k == 1) = false) (h2 : (k == 2) = false) (h3 : (k == 3) = false) (h4 : (k == 4) = false) (hz0 : nz = 0) :
    Calls Try.prog 31 #[.slice (some adr) N cr, .slice (some adl) N cl, .agg #[.int .i64 k, .int .i64 f, .int .i64 t, .slice Az nz cz]] w (Played (nz) w) := by
  subst hz0
  obtain rfl : z = [] := List.eq_nil_of_length_eq_zero hnz
  obtain ⟨r0, s0, hn, hT, hC, hc, hr⟩ := hP
  have hmn : (N : Int) - 1 = (m : Int) := by omega
  have hml : (m : Int) < (N : Int) := by omega
  have hNb : (N : Int) ≤ 100 := by omega
  have hN1 : 1 ≤ (N : Int) := by omega
  have HT := Aside0.mk hT
  have HC := Aside0.mk hC
  have HZ := Aside0.mk hZ
  have HNl := Aside0.mk hn
  have HNz := Aside0.mk hnz
  have HR := Aside0.mk hr
  have HRz := Aside0.mk hrz
  have HCc := Aside0.mk hc
  have HM := Aside0.mk hm
  clear hT hC hZ hn hnz hr hrz hm
  go_enter Try.func31, Try.ntmps31
  go_wp2
  obtain ⟨Wd, hWd⟩ : ∃ Wd, w.alloc (Obj.cells #[Value.int IntKind.i64 k, Value.int IntKind.i64 f, Value.int IntKind.i64 t, Value.slice Az 0 cz] 60) = Wd := ⟨_, rfl⟩
  have m0 : Wd.cell? ⟨w.heap.size, 0, none⟩ = some (.int .i64 k) := by rw [← hWd, new_cell]; rfl
  have m1 : Wd.cell? ⟨w.heap.size, 1, none⟩ = some (.int .i64 f) := by rw [← hWd, new_cell]; rfl
  have m2 : Wd.cell? ⟨w.heap.size, 2, none⟩ = some (.int .i64 t) := by rw [← hWd, new_cell]; rfl
  have m3 : Wd.cell? ⟨w.heap.size, 3, none⟩ = some (.slice Az 0 cz) := by rw [← hWd, new_cell]; rfl
  have hbd : Below w.heap.size w Wd := by rw [← hWd]; exact (Below.refl _ _).alloc (Nat.le_refl _) _
  have r1 := (hbd.cell (p := adr.add m) (World.block_lt_of_cell? w _ r0)).trans r0
  have s1 := (hbd.cell (p := adl.add m) (World.block_lt_of_cell? w _ s0)).trans s0
  have TD := Aside0.mk (HT.out.below hbd)
  have LD := Aside0.mk (Kd.C_below HC.out hbd)
  have ZD := Aside0.mk (Kd.C_below HZ.out hbd)
  have BD := Aside0.mk hbd
  rw [hWd]
  clear hWd hbd r0 s0 HT HC HZ
  generalize w.heap.size = g at m0 m1 m2 m3 ⊢
  go_quiet (fail)
  have hbx := pw_below_drewN (Below.refl Wd.heap.size Wd) nq
  have hgl := World.block_lt_of_cell? Wd _ m0
  have p0 := (hbx.cell (p := ⟨g, 0, none⟩) hgl).trans m0
  have p1 := (hbx.cell (p := ⟨g, 1, none⟩) hgl).trans m1
  have p2 := (hbx.cell (p := ⟨g, 2, none⟩) hgl).trans m2
  have p3 := (hbx.cell (p := ⟨g, 3, none⟩) hgl).trans m3
  have TX := Aside0.mk (TD.out.below hbx)
  have LX := Aside0.mk (Kd.C_below LD.out hbx)
  have ZX := Aside0.mk (Kd.C_below ZD.out hbx)
  have BX := Aside0.mk (below_step BD.out hbx)
  have hgx : g < (Wd.drewN nq).heap.size := Nat.lt_of_lt_of_le hgl hbx.size
  generalize Wd.drewN nq = X at p0 p1 p2 p3 TX LX ZX BX hgx ⊢
  clear hbx hgl m0 m1 m2 m3 TD LD ZD BD r1 s1
  obtain ⟨u, hu⟩ : ∃ u, spanE (n : Int) f f = u := ⟨_, rfl⟩
  have HU := Aside0.mk hu
  clear hu
  go_wp2_with (first
    | ((with_reducible refine gate_dst (N := 30) rfl ?_); refine Kd.R_lit (Kd.int .i32) X.heap.size 21 rfl (N := 30) rfl (xs := ([] : List Int)) (inner := []) (ok := fun _ => True) (okp := fun _ => True) ?hr (Reps.none _ _) (fun _ hk => hk) trivial (Below.refl _ X) (Nat.le_refl _) (by simp) ?_; (case hr => first | (go_simp; done) | (go_simp; rfl)); intro v1 w1 ho1 bt1 hg1 hn1; have HO1 := Aside0.mk ho1; clear hg1 hn1 ho1; have p0_1 := (bt1.cell (p := ⟨g, 0, none⟩) hgx).trans p0; have p1_1 := (bt1.cell (p := ⟨g, 1, none⟩) hgx).trans p1; have p2_1 := (bt1.cell (p := ⟨g, 2, none⟩) hgx).trans p2; have p3_1 := (bt1.cell (p := ⟨g, 3, none⟩) hgx).trans p3; have BT1 := Aside0.mk bt1; clear bt1)
    | ((with_reducible refine gate_dst (N := 33) rfl ?_); at_builtin; refine Kd.R_append_rows (Kd.int .i32) (w0 := X) X.heap.size rfl (.tmp 30) (.tmp 32) 23 21 (.int .i32 0) 4 rfl Try.underlying23 info21 rfl (by decide) (by omega) v1 [] ([] : List Int) _ _ _ (fun _ => True) (fun _ => False) rfl rfl HO1.out (Kd.C_below ZX.out BT1.out) (fun _ _ h => h) (fun _ h => h.elim) (fun _ _ => trivial) BT1.out BT1.out.size (by simp) ?_; intro v2 w2 ho2 bt2 hg2 hn2; obtain ⟨A2, c2, rfl, hC2, hc2, hm2⟩ := own_row ho2 HNz.out; have C2 := Aside0.mk hC2; have HO2 := Aside0.mk ho2; have K2 := Aside0.mk hc2; have M2 := Aside0.mk hm2; clear hg2 hn2 hC2 hc2 hm2 ho2; have p0_2 := (bt2.cell (p := ⟨g, 0, none⟩) hgx).trans p0; have p1_2 := (bt2.cell (p := ⟨g, 1, none⟩) hgx).trans p1; have p2_2 := (bt2.cell (p := ⟨g, 2, none⟩) hgx).trans p2; have p3_2 := (bt2.cell (p := ⟨g, 3, none⟩) hgx).trans p3; have BT2 := Aside0.mk bt2; clear bt2)
    | (go_at_call 55; (with_reducible refine (Wrong_n (Kd.C_below LX.out BT2.out) HNl.out HCc.out (show spanE (n : Int) f f = u from HU.out)).mono ?_); rintro e w3 ⟨rfl, hb⟩; have bt3 := below_step BT2.out hb; have C3 := Aside0.mk (Kd.C_below C2.out hb); have p0_3 := (bt3.cell (p := ⟨g, 0, none⟩) hgx).trans p0; have p1_3 := (bt3.cell (p := ⟨g, 1, none⟩) hgx).trans p1; have p2_3 := (bt3.cell (p := ⟨g, 2, none⟩) hgx).trans p2; have p3_3 := (bt3.cell (p := ⟨g, 3, none⟩) hgx).trans p3; have BT3 := Aside0.mk bt3; clear bt3; clear hb)
    | (go_at_call 10; (with_reducible refine (New_n C3.out HNz.out K2.out M2.out (by omega)).mono ?_); rintro e w4 ⟨b2, rfl, ht, hb⟩; have bt4 := below_step BT3.out hb; have T4 := Aside0.mk ht; clear ht; have p0_4 := (bt4.cell (p := ⟨g, 0, none⟩) hgx).trans p0; have p1_4 := (bt4.cell (p := ⟨g, 1, none⟩) hgx).trans p1; have p2_4 := (bt4.cell (p := ⟨g, 2, none⟩) hgx).trans p2; have p3_4 := (bt4.cell (p := ⟨g, 3, none⟩) hgx).trans p3; have BT4 := Aside0.mk bt4; clear bt4; clear hb))
  go_loopw [46] (fun v46 wr => v46 = .int .i64 0 ∧ wr = w4) (fun _ _ => 0)
  case atStart => exact ⟨rfl, rfl⟩
  case round =>
    obtain ⟨rfl, rfl⟩ := hrel
    have ZR := Aside0.mk (Kd.C_below ZX.out BT4.out)
    have hgr : g < wr.heap.size := Nat.lt_of_lt_of_le hgx BT4.out.size
    go_wp2_with (first
      | ((with_reducible refine gate_dst (N := 57) rfl ?_); refine Kd.R_lit (Kd.int .i32) wr.heap.size 21 rfl (N := 57) rfl (xs := ([] : List Int)) (inner := []) (ok := fun _ => True) (okp := fun _ => True) ?hr (Reps.none _ _) (fun _ hk => hk) trivial (Below.refl _ wr) (Nat.le_refl _) (by simp) ?_; (case hr => first | (go_simp; done) | (go_simp; rfl)); intro v5 w5 ho5 hb5 hg5 hn5; have q35 := (hb5.cell (p := ⟨g, 3, none⟩) hgr).trans p3_4; have HO5 := Aside0.mk ho5; have HB5 := Aside0.mk hb5; clear hg5 hn5 ho5 hb5)
      | ((with_reducible refine gate_dst (N := 60) rfl ?_); at_builtin; refine Kd.R_append_rows (Kd.int .i32) (w0 := wr) wr.heap.size rfl (.tmp 57) (.tmp 59) 23 21 (.int .i32 0) 4 rfl Try.underlying23 info21 rfl (by decide) (by omega) v5 [] ([] : List Int) _ _ _ (fun _ => True) (fun _ => False) rfl rfl HO5.out (Kd.C_below ZR.out HB5.out) (fun _ _ h => h) (fun _ h => h.elim) (fun _ _ => trivial) HB5.out HB5.out.size (by simp) ?_; intro v6 w6 ho6 hb6 hg6 hn6; obtain ⟨A6, c6, rfl, hC6, hc6, _⟩ := own_row ho6 HNz.out; have C6 := Aside0.mk hC6; have K6 := Aside0.mk hc6; have HB6 := Aside0.mk hb6; clear hg6 hn6 ho6 hC6 hc6 hb6))
    refine bodyPost_ret (v := .tuple #[.pointer (some ⟨b2, 0, none⟩), .slice A6 0 c6, .bool true]) (by simp [results, Try.results31, go_sem]) rfl ⟨below_step BX.out (below_step BT4.out HB6.out), .inr ⟨b2, A6, 0, c6, [], rfl, ⟨T4.out.below HB6.out, C6.out, K6.out, HRz.out, rfl⟩, Nat.le_refl _⟩⟩
end Go.Proofs.Ytenjldfflkinkaa.Rop
namespace Go.Proofs.Ytenjldfflkinkaa.Rop
set_option linter.unusedVariables false
set_option linter.unusedSimpArgs false
open Go.RowKit Go.Proofs.Ytenjldfflkinkaa.F Go.Proofs.YtenjldfflkinkaaW.PrintWords Go.Proofs.YtenjldfflkinkaaW.PrintLast Go.Proofs.YtenjldfflkinkaaW.PrintMore
/-- pointers and slices: no cell of a rope's, no rune -/
def OddV (v : Value) : Prop := (∃ p, v = .pointer p) ∨ ∃ a n c, v = .slice a n c
/-- a block of one's own: its first cells are these, all are odd -/
def Rw (W : World) (ad : Addr) (t : Nat) (vs : List Value) (cap : Nat) : Prop :=
  ∃ (g : Nat) (cur : Array Value), ad = ⟨g, 0, none⟩ ∧ W.heap[g]? = some (.cells cur t (0, 0)) ∧ cur.size = cap ∧ (∀ i : Nat, i < vs.length → cur[i]? = vs[i]?) ∧ (∀ (i : Nat) (v : Value), cur[i]? = some v → OddV v) ∧ vs.length ≤ cap ∧ cap ≤ 9223372036854775807
theorem Rw.keep {W W' : World} {ad : Addr} {t cap : Nat} {vs : List Value} (h : Rw W ad t vs cap) (hk : W'.heap[ad.block]? = W.heap[ad.block]?) : Rw W' ad t vs cap := by
  obtain ⟨g, cur, rfl, h1, h2⟩ := h
  exact ⟨g, cur, rfl, hk.trans h1, h2⟩
theorem Rw.lt {W : World} {ad : Addr} {t cap : Nat} {vs : List Value} (h : Rw W ad t vs cap) : ad.block < W.heap.size := by
  obtain ⟨g, cur, rfl, h1, h2⟩ := h
  exact (Array.getElem?_eq_some_iff.1 h1).1
theorem Rw.below {W W' : World} {ad : Addr} {t cap : Nat} {vs : List Value} (h : Rw W ad t vs cap) (hb : Below W.heap.size W W') : Rw W' ad t vs cap := h.keep (hb.block _ h.lt)
theorem Rw.cell {W : World} {ad : Addr} {t cap : Nat} {vs : List Value} (h : Rw W ad t vs cap) {i : Nat} {v : Value} (hi : vs[i]? = some v) : W.cell? (ad.add i) = some v := by
  obtain ⟨g, cur, rfl, h1, h2, h3, h4⟩ := h
  have hl := (List.getElem?_eq_some_iff.1 hi).1
  have := h3 i hl
  rw [hi] at this
  by_cases h0 : i = 0
  · subst h0
    simpa [Addr.add, World.cell?, h1] using this
  · simpa [Addr.add, h0, World.cell?, h1] using this
theorem Rw.odd {W : World} {ad : Addr} {t cap : Nat} {vs : List Value} (h : Rw W ad t vs cap) {a : Addr} {v : Value} (ha : a.block = ad.block) (hc : W.cell? a = some v) : OddV v := by
  obtain ⟨g, cur, rfl, h1, h2, h3, h4, h5⟩ := h
  simp only at ha
  rw [World.cell?, ha, h1] at hc
  simp only at hc
  split at hc
  · cases hc
  · exact h4 _ _ hc
/-- behind a change of such blocks alone -/
def Only (W W' : World) (g g' : Nat) : Prop := W.heap.size ≤ W'.heap.size ∧ ∀ k, k < W.heap.size → k ≠ g → k ≠ g' → W'.heap[k]? = W.heap[k]?
theorem not_odd_int {k : IntKind} {x : Int} : ¬ OddV (.int k x) := fun h => by rcases h with ⟨p, h⟩ | ⟨a, n, c, h⟩ <;> cases h
theorem not_odd_bool {x : Bool} : ¬ OddV (.bool x) := fun h => by rcases h with ⟨p, h⟩ | ⟨a, n, c, h⟩ <;> cases h
theorem NodeAt.only {W W' : World} {g g' : Nat} (ho : ∀ (a : Addr) (v : Value), (a.block = g ∨ a.block = g') → W.cell? a = some v → OddV v) (h : Only W W' g g') {m : Nat} (hm : m ≤ W.heap.size) : ∀ {p : Option Addr} {t : RT}, NodeAt m W p t → NodeAt W'.heap.size W' p t
  | _, .nil, ht => ht
  | _, .node _ _ _, ⟨b, pl, pr, hp, hb, h0, h1, h2, h3, h4, h5, hl, hr⟩ => by
    have hne : b ≠ g ∧ b ≠ g' := ⟨fun e => not_odd_int (ho _ _ (.inl e) h0), fun e => not_odd_int (ho _ _ (.inr e) h0)⟩
    have hk : W'.heap[b]? = W.heap[b]? := h.2 b (by omega) hne.1 hne.2
    have hc : ∀ o, W'.cell? ⟨b, o, none⟩ = W.cell? ⟨b, o, none⟩ := fun o => by simp only [World.cell?, hk]
    exact ⟨b, pl, pr, hp, by have := h.1; omega, (hc 0).trans h0, (hc 1).trans h1, (hc 2).trans h2, (hc 3).trans h3, (hc 4).trans h4, (hc 5).trans h5, NodeAt.only ho h hm hl, NodeAt.only ho h hm hr⟩
theorem RL.only {W W' : World} {g g' b : Nat} {l : List Int} (ho : ∀ (a : Addr) (v : Value), (a.block = g ∨ a.block = g') → W.cell? a = some v → OddV v) (h : Only W W' g g') (hR : RL W b l) : RL W' b l := by
  obtain ⟨t, ⟨b1, q, hp, h1, h2, h3, h4⟩, h5, h6⟩ := hR
  have hne : b1 ≠ g ∧ b1 ≠ g' := ⟨fun e => not_odd_bool (ho _ _ (.inl e) h2), fun e => not_odd_bool (ho _ _ (.inr e) h2)⟩
  have hk : W'.heap[b1]? = W.heap[b1]? := h.2 b1 h1 hne.1 hne.2
  have hc : ∀ o, W'.cell? ⟨b1, o, none⟩ = W.cell? ⟨b1, o, none⟩ := fun o => by simp only [World.cell?, hk]
  exact ⟨t, ⟨b1, q, hp, Nat.lt_of_lt_of_le h1 h.1, (hc 0).trans h2, (hc 1).trans h3, NodeAt.only ho h (Nat.le_refl _) h4⟩, h5, h6⟩
theorem C_only {W W' : World} {g g' : Nat} {A : Option Addr} {n : Nat} {l : List Int} (ho : ∀ (a : Addr) (v : Value), (a.block = g ∨ a.block = g') → W.cell? a = some v → OddV v) (h : Only W W' g g') (hC : Kd.C (Kd.int .i32) W A n l) : Kd.C (Kd.int .i32) W' A n l := by
  have hr := Kd.reads_of_C (d := (0 : Int)) hC
  refine Kd.C_of_reads (d := (0 : Int)) (h1 := fun _ => rfl) ⟨hr.1, hr.2.1, fun hp => ?_⟩
  obtain ⟨ad, he, hc⟩ := hr.2.2 hp
  refine ⟨ad, he, fun j hj => ?_⟩
  have h1 := hc j hj
  have hlt := World.block_lt_of_cell? W _ h1
  have hne : (ad.add j).block ≠ g ∧ (ad.add j).block ≠ g' := ⟨fun e => not_odd_int (ho _ _ (.inl e) h1), fun e => not_odd_int (ho _ _ (.inr e) h1)⟩
  have hk := h.2 _ hlt hne.1 hne.2
  have : W'.cell? (ad.add j) = W.cell? (ad.add j) := by simp only [World.cell?, hk]
  rw [this]
  exact h1
/-! ### one element appended -/
theorem zero_odd {z : Value} (hz : z.cells = #[z]) (n : Nat) : ∀ (i : Nat) (v : Value), (Builtin.zeroCells z.cells n)[i]? = some v → v = z := by
  intro i v h
  rw [hz] at h
  simp [Builtin.zeroCells] at h
  obtain ⟨a, h1, h2⟩ := h
  rw [← h2]
  simp [Nat.mod_one]
theorem row_append {ops : Array Oper} {rest : List Oper} {o : Oper} {a : Act} {Q : Exit → Act → World → Prop} {W : World} {t e bytes cap N : Nat} {z v : Value} {ad : Addr} {vs : List Value} (hg : o.guard = none) (s x : Operand)
    (hop : o.op = .call { callee := .builtin .append, args := #[s, x], argTypes := #[t, t] }) (ht : Try.prog.underlying t = some (.slice e)) (hinfo : (Try.prog.info? e).map (fun i => (i.zero, i.size, i.bytes)) = some (some z, 1, bytes)) (hz : z.cells = #[z]) (hzo : OddV z) (hb : bytes ≤ 1000)
    (hs : a.eval s = .slice (some ad) N cap) (hx : a.eval x = .slice (some ⟨W.heap.size, 0, none⟩) 1 1) (hR : Rw W ad e vs cap) (hN : vs.length = N) (hN1 : N ≤ 1000) (hv : OddV v) (hv1 : v.oneCell' = true)
    (h : ∀ (ad' : Addr) (cap' : Nat) (w1 : World), Rw w1 ad' e (vs ++ [v]) cap' → (ad'.block = ad.block ∨ W.heap.size ≤ ad'.block) → (∀ k, k < W.heap.size → k ≠ ad.block → w1.heap[k]? = W.heap[k]?) → W.heap.size ≤ w1.heap.size → (∀ b w0, b ≤ ad.block → b ≤ W.heap.size → Below b w0 W → Below b w0 w1) →
      wpList Try.prog ops Q rest (a.put o.dst (.slice (some ad') (N + 1) cap')) w1) : wpList Try.prog ops Q (o :: rest) a (W.alloc (.cells #[v] e)) := by
  obtain ⟨g, cur, rfl, hh, hcs, hcv, hod, hlc, hcm⟩ := hR
  obtain ⟨i0, hi, hzz⟩ := Option.map_eq_some_iff.1 hinfo
  simp only [Prod.mk.injEq] at hzz
  obtain ⟨hz0, hz1, hz2⟩ := hzz
  have hgl : g < W.heap.size := (Array.getElem?_eq_some_iff.1 hh).1
  have hh1 : (W.alloc (.cells #[v] e)).heap[g]? = some (.cells cur e (0, 0)) := (Below.heap_alloc _ _ _ hgl).trans hh
  have hnews : ∀ (j : Nat) (u : Value), [v][j]? = some u → (W.alloc (.cells #[v] e)).cell? ((⟨W.heap.size, 0, none⟩ : Addr).add j) = some u := by
    intro j u hj
    rcases j with _ | j
    · have hn : (W.alloc (.cells #[v] e)).cell? ⟨W.heap.size, 0, none⟩ = some v := by rw [new_cell]; rfl
      have hj' : v = u := by simpa using hj
      subst hj'
      rw [show (⟨W.heap.size, 0, none⟩ : Addr).add 0 = ⟨W.heap.size, 0, none⟩ from rfl]
      exact hn
    · simp at hj
  refine wpList_plain hg fun K hK' => ?_
  unfold Oper.wp
  by_cases hroom : N + 1 ≤ cap
  · have hrun := run_append_room_cells (P := Try.prog) (W.alloc (.cells #[v] e)) t o.type e i0 ht hi g 0 N cap ⟨W.heap.size, 0, none⟩ 1 1 [v] (by simp [hz1]) hnews (by intro u hu; simp at hu; subst hu; exact hv1) hroom
      (fun j hj => by rw [blk_cell hh1]; simp [hz1]; simp at hj; omega) (fun j hj => blk_frozen hh1)
    simp [execOp, hop, resolve, invoke, builtin, hs, hx, hrun, Result.andThen]
    refine hK' _ _ ?_
    have hset : (W.alloc (.cells #[v] e)).setCells g (N * i0.size) [v] = (W.alloc (.cells #[v] e)).setCell ⟨g, N, none⟩ v := by rw [hz1, Nat.mul_one]; rfl
    rw [hset]
    refine h _ _ _ ⟨g, cur.setIfInBounds N v, rfl, blk_set hh1 N v, by simp [hcs], fun i hi => ?_, fun i u hu => ?_, by simp; omega, hcm⟩ (.inl rfl) (fun k hk hne => (Below.heap_setCell _ ⟨g, N, none⟩ _ k hne).trans (Below.heap_alloc _ _ _ hk)) (by simp) (fun b w0 hb1 hb2 hB => (hB.alloc hb2 _).setCell (p := ⟨g, N, none⟩) hb1 _)
    · simp at hi
      rw [Array.getElem?_setIfInBounds]
      by_cases hiN : N = i
      · subst hiN
        rw [if_pos rfl, if_pos (by omega)]
        simp [← hN]
      · rw [if_neg hiN, List.getElem?_append_left (by omega)]
        exact hcv i (by omega)
    · rw [Array.getElem?_setIfInBounds] at hu
      split at hu
      · split at hu
        · injection hu with hu
          subst hu
          exact hv
        · cases hu
      · exact hod i u hu
  · have hrun := run_append_grow (P := Try.prog) (W.alloc (.cells #[v] e)) t o.type e i0 z ht hi hz0 ⟨g, 0, none⟩ N cap vs (by rw [hz1]; omega) (fun j u hj => by
        have hl := (List.getElem?_eq_some_iff.1 hj).1
        have h2 := hcv j hl
        rw [hj] at h2
        by_cases h0 : j = 0
        · subst h0
          simpa [Addr.add, World.cell?, hh1] using h2
        · simpa [Addr.add, h0, World.cell?, hh1] using h2) ⟨W.heap.size, 0, none⟩ 1 1 [v] (by simp [hz1]) hnews (by omega) (by omega) (growslice_fits (by omega) (by rw [hz2]; have := Nat.mul_le_mul (show N + 1 ≤ 1001 by omega) hb; omega))
    have hge := grownCap_ge (W.alloc (.cells #[v] e)) (N + 1) cap e
    have hcm' : grownCap (W.alloc (.cells #[v] e)) (N + 1) cap e ≤ maxLen := grownCap_le_maxLen _ (N + 1) cap e (by simp only [maxLen]; omega)
    obtain ⟨cap', hcap⟩ : ∃ c, grownCap (W.alloc (.cells #[v] e)) (N + 1) cap e = c := ⟨_, rfl⟩
    rw [hcap] at hrun hge hcm'
    simp only [maxLen] at hcm'
    obtain ⟨cu, hcu⟩ : ∃ cu, vs.toArray ++ [v].toArray ++ Builtin.zeroCells z.cells (cap' - (N + 1)) = cu := ⟨_, rfl⟩
    rw [hcu] at hrun
    have hzs : (Builtin.zeroCells z.cells (cap' - (N + 1))).size = cap' - (N + 1) := by rw [hz]; simp [Builtin.zeroCells]
    simp [execOp, hop, resolve, invoke, builtin, hs, hx, hrun, Result.andThen]
    refine hK' _ _ (h ⟨W.heap.size + 1, 0, none⟩ cap' _ ⟨W.heap.size + 1, cu, rfl, ?_, ?_, fun i hi => ?_, fun i u hu => ?_, by simp; omega, hcm'⟩ (.inr (by simp)) (fun k hk hne => ?_) (by simp; omega) (fun b w0 hb1 hb2 hB => ?_))
    · have := World.alloc_heap_new (W.alloc (.cells #[v] e)).drew (.cells cu e)
      simpa using this
    · rw [← hcu]
      simp only [Array.size_append, hzs, List.size_toArray, List.length_singleton]
      omega
    · simp at hi
      rw [← hcu, Array.getElem?_append_left (by simp; omega)]
      simp
    · rw [← hcu] at hu
      by_cases hil : i < N + 1
      · rw [Array.getElem?_append_left (by simp; omega)] at hu
        simp only [List.append_toArray, List.getElem?_toArray] at hu
        by_cases hil2 : i < vs.length
        · rw [List.getElem?_append_left hil2] at hu
          exact hod i u (by rw [hcv i hil2]; exact hu)
        · rw [List.getElem?_append_right (by omega)] at hu
          have hi0 : i - vs.length = 0 := by omega
          rw [hi0] at hu
          simp at hu
          subst hu
          exact hv
      · rw [Array.getElem?_append_right (by simp; omega)] at hu
        have := zero_odd hz _ _ _ hu
        subst this
        exact hzo
    · have hb1 : Below W.heap.size W ((W.alloc (.cells #[v] e)).drew.alloc (.cells cu e)) := below_alloc (below_drew1 ((Below.refl _ _).alloc (Nat.le_refl _) _)) _
      exact hb1.block k hk
    · exact (below_drew1 (hB.alloc hb2 _)).alloc (by simp; omega) _
theorem infoP : (Try.prog.info? 27).map (fun i => (i.zero, i.size, i.bytes)) = some (some (.pointer none), 1, 8) := by kernel_rfl
theorem infoS : (Try.prog.info? 23).map (fun i => (i.zero, i.size, i.bytes)) = some (some (.slice none 0 0), 1, 24) := by kernel_rfl
/-! ### play, of any kind -/
/-- What play tells: a refusal, or a rope and its list. -/
def PlayedV (bnd : Nat) (w : World) (e : Ending) (w' : World) : Prop := ∃ p A n c, e = .returned (.tuple #[.pointer p, .slice A n c, .bool true]) ∧ Below w.heap.size w w' ∧ (p = none ∨ ∃ b l, p = some ⟨b, 0, none⟩ ∧ Found w' b A n c l ∧ n ≤ bnd)
theorem played_v {bnd bnd' : Nat} {w : World} {f : Nat} {args : Array Value} (h : Calls Try.prog f args w (Played bnd w)) (hb : bnd ≤ bnd') : Calls Try.prog f args w (PlayedV bnd' w) :=
  h.mono fun e w' ⟨h1, h2⟩ => by
    rcases h2 with rfl | ⟨b, A, n, c, l, rfl, hF, hn⟩
    · exact ⟨none, none, 0, 0, rfl, h1, .inl rfl⟩
    · exact ⟨_, A, n, c, rfl, h1, .inr ⟨b, l, rfl, hF, by omega⟩⟩
theorem play_L {w : World} {adr adl : Addr} {N m cr cl b n c nz cz bnd : Nat} {A Az : Option Addr} {l z : List Int} {k f t : Int} (hP : Pair w adr adl m b A n c l) (hm : N = m + 1) (hN : N ≤ 100) (hl : n ≤ 100000) (hZ : Kd.C (Kd.int .i32) w Az nz z) (hnz : z.length = nz) (hz : nz ≤ 1000) (hrz : Runes z)
    (hA : ∀ i, i < N → ∃ b A n c l, Pair w adr adl i b A n c l ∧ n ≤ bnd) (hbnd : bnd ≤ 100000) (hf : -9223372036854775808 ≤ f ∧ f ≤ 9223372036854775807) :
    Calls Try.prog 31 #[.slice (some adr) N cr, .slice (some adl) N cl, .agg #[.int .i64 k, .int .i64 f, .int .i64 t, .slice Az nz cz]] w (PlayedV (n + nz + bnd) w) := by
  by_cases hk0 : k = 0
  · subst hk0
    by_cases h : 0 ≤ f ∧ f ≤ (n : Int)
    · obtain ⟨x, rfl⟩ : ∃ x : Nat, f = (x : Int) := ⟨f.toNat, by omega⟩
      exact played_v (play_ins hP hm hN hl hZ hnz hz hrz (by omega)) (by omega)
    · exact played_v (play_insbad hP hm hN hl hZ hnz hz hrz (span_bad (by omega))) (by omega)
  by_cases hk1 : k = 1
  · subst hk1
    by_cases h : 0 ≤ f ∧ f ≤ t ∧ t ≤ (n : Int)
    · obtain ⟨x, rfl⟩ : ∃ x : Nat, f = (x : Int) := ⟨f.toNat, by omega⟩
      obtain ⟨y, rfl⟩ : ∃ x : Nat, t = (x : Int) := ⟨t.toNat, by omega⟩
      exact played_v (play_del hP hm hN hl hZ hnz hz hrz (by omega) (by omega)) (by omega)
    · exact played_v (play_delbad hP hm hN hl hZ hnz hz hrz (span_bad h)) (by omega)
  by_cases hk2 : k = 2
  · subst hk2
    by_cases h : 0 ≤ f ∧ f ≤ (n : Int)
    · obtain ⟨x, rfl⟩ : ∃ x : Nat, f = (x : Int) := ⟨f.toNat, by omega⟩
      exact played_v (play_split2 hP hm hN hl hZ hnz hz hrz (by omega)) (by omega)
    · exact played_v (play_split2bad hP hm hN hl hZ hnz hz hrz (span_bad (by omega))) (by omega)
  by_cases hk3 : k = 3
  · subst hk3
    by_cases h : 0 ≤ f ∧ f ≤ (n : Int)
    · obtain ⟨x, rfl⟩ : ∃ x : Nat, f = (x : Int) := ⟨f.toNat, by omega⟩
      exact played_v (play_split3 hP hm hN hl hZ hnz hz hrz (by omega)) (by omega)
    · exact played_v (play_split3bad hP hm hN hl hZ hnz hz hrz (span_bad (by omega))) (by omega)
  by_cases hk4 : k = 4
  · subst hk4
    obtain ⟨q, hq⟩ : ∃ q, am f N = q := ⟨_, rfl⟩
    have hqN : q < N := by rw [← hq]; exact am_lt f (by omega)
    obtain ⟨b', A', n', c', l', hP', hn'⟩ := hA (m - q) (by omega)
    exact played_v (play_concat hP hm hN hl hZ hnz hz hrz hP' (by omega) hq (by omega) hf) (by omega)
  have e0 : (k == 0) = false := by simpa using hk0
  have e1 : (k == 1) = false := by simpa using hk1
  have e2 : (k == 2) = false := by simpa using hk2
  have e3 : (k == 3) = false := by simpa using hk3
  have e4 : (k == 4) = false := by simpa using hk4
  by_cases hz0 : nz = 0
  · have := play_new0 (cr := cr) (cl := cl) (cz := cz) (f := f) (t := t) hP hm hN hl hZ hnz hz hrz e0 e1 e2 e3 e4 hz0
    exact played_v this (by omega)
  · exact played_v (play_new hP hm hN hl hZ hnz hz hrz e0 e1 e2 e3 e4 (by omega)) (by omega)
end Go.Proofs.Ytenjldfflkinkaa.Rop
namespace Go.Proofs.Ytenjldfflkinkaa.Rop
set_option linter.unusedVariables false
set_option linter.unusedSimpArgs false
open Go.RowKit Go.ChangeShapes Go.WideShapes Go.ChangeAt Go.Joins Go.Proofs.Ytenjldfflkinkaa.F Go.Proofs.YtenjldfflkinkaaW.PrintWords Go.Proofs.YtenjldfflkinkaaW.PrintLast Go.Proofs.YtenjldfflkinkaaW.PrintMore
/-- one rope, and its list -/
structure Ent where
  b : Nat
  A : Option Addr
  n : Nat
  c : Nat
  l : List Int
def Ent.p (x : Ent) : Value := .pointer (some ⟨x.b, 0, none⟩)
def Ent.s (x : Ent) : Value := .slice x.A x.n x.c
def Good (W : World) (bnd : Nat) (x : Ent) : Prop := Found W x.b x.A x.n x.c x.l ∧ x.n ≤ bnd
theorem Found.below {W W' : World} {b n c : Nat} {A : Option Addr} {l : List Int} (h : Found W b A n c l) (hb : Below W.heap.size W W') : Found W' b A n c l := ⟨h.1.below hb, Kd.C_below h.2.1 hb, h.2.2⟩
/-- the two lists as they stand -/
structure St (W0 : World) (bnd : Nat) (W : World) (a5 : Addr) (c5 : Nat) (a6 : Addr) (c6 : Nat) (xs : List Ent) : Prop where
  r5 : Rw W a5 27 (xs.map Ent.p) c5
  r6 : Rw W a6 23 (xs.map Ent.s) c6
  ne : a5.block ≠ a6.block
  b5 : W0.heap.size ≤ a5.block
  b6 : W0.heap.size ≤ a6.block
  good : ∀ x ∈ xs, Good W bnd x
  bel : Below W0.heap.size W0 W
theorem St.below {W0 W W' : World} {bnd c5 c6 : Nat} {a5 a6 : Addr} {xs : List Ent} (h : St W0 bnd W a5 c5 a6 c6 xs) (hb : Below W.heap.size W W') : St W0 bnd W' a5 c5 a6 c6 xs :=
  ⟨h.r5.below hb, h.r6.below hb, h.ne, h.b5, h.b6, fun x hx => ⟨(h.good x hx).1.below hb, (h.good x hx).2⟩, below_step h.bel hb⟩
theorem St.mono {W0 W : World} {bnd bnd' c5 c6 : Nat} {a5 a6 : Addr} {xs : List Ent} (h : St W0 bnd W a5 c5 a6 c6 xs) (hb : bnd ≤ bnd') : St W0 bnd' W a5 c5 a6 c6 xs :=
  ⟨h.r5, h.r6, h.ne, h.b5, h.b6, fun x hx => ⟨(h.good x hx).1, Nat.le_trans (h.good x hx).2 hb⟩, h.bel⟩
theorem St.pair {W0 W : World} {bnd c5 c6 : Nat} {a5 a6 : Addr} {xs : List Ent} (h : St W0 bnd W a5 c5 a6 c6 xs) {i : Nat} (hi : i < xs.length) :
    ∃ b A n c l, Pair W a5 a6 i b A n c l ∧ n ≤ bnd := by
  have hg := h.good _ (List.getElem_mem hi)
  obtain ⟨⟨h1, h2, h3, h4, h5⟩, h6⟩ := hg
  exact ⟨xs[i].b, xs[i].A, xs[i].n, xs[i].c, xs[i].l, ⟨h.r5.cell (v := xs[i].p) (by simp [List.getElem?_eq_getElem hi]), h.r6.cell (v := xs[i].s) (by simp [List.getElem?_eq_getElem hi]), h5, h1, h2, h3, h4⟩, h6⟩
/-- one more of each -/
theorem St.more {W0 W w1 w2 : World} {bnd c5 c6 c5' c6' : Nat} {a5 a6 a5' a6' : Addr} {xs : List Ent} {x : Ent} (h : St W0 bnd W a5 c5 a6 c6 xs) (hx : Good W bnd x)
    (k5 : Rw w1 a5' 27 (xs.map Ent.p ++ [x.p]) c5') (o5 : a5'.block = a5.block ∨ W.heap.size ≤ a5'.block) (m5 : ∀ k, k < W.heap.size → k ≠ a5.block → w1.heap[k]? = W.heap[k]?) (z5 : W.heap.size ≤ w1.heap.size) (e5 : Below W0.heap.size W0 w1)
    (k6 : Rw w2 a6' 23 (xs.map Ent.s ++ [x.s]) c6') (o6 : a6'.block = a6.block ∨ w1.heap.size ≤ a6'.block) (m6 : ∀ k, k < w1.heap.size → k ≠ a6.block → w2.heap[k]? = w1.heap[k]?) (z6 : w1.heap.size ≤ w2.heap.size) (e6 : Below W0.heap.size W0 w2) :
    St W0 bnd w2 a5' c5' a6' c6' (xs ++ [x]) := by
  have l5 := h.r5.lt
  have l6 := h.r6.lt
  have l5' := k5.lt
  have n5 : a5'.block ≠ a6.block := by
    rcases o5 with e | e
    · rw [e]; exact h.ne
    · omega
  have honly : Only W w2 a5.block a6.block := ⟨by omega, fun k hk h1 h2 => (m6 k (by omega) h2).trans (m5 k hk h1)⟩
  have hodd : ∀ (a : Addr) (v : Value), (a.block = a5.block ∨ a.block = a6.block) → W.cell? a = some v → OddV v := fun a v ha hc => by
    rcases ha with ha | ha
    · exact h.r5.odd ha hc
    · exact h.r6.odd ha hc
  have hw := h.bel.size
  refine ⟨?_, ?_, ?_, ?_, ?_, ?_, e6⟩
  · rw [List.map_append]
    exact k5.keep (m6 _ l5' n5)
  · rw [List.map_append]
    exact k6
  · rcases o6 with e | e
    · rw [e]; exact n5
    · omega
  · rcases o5 with e | e
    · rw [e]; exact h.b5
    · omega
  · rcases o6 with e | e
    · rw [e]; exact h.b6
    · omega
  · intro y hy
    have hy' : Good W bnd y := by
      rcases List.mem_append.1 hy with h1 | h1
      · exact h.good y h1
      · rw [List.mem_singleton] at h1
        rw [h1]
        exact hx
    exact ⟨⟨RL.only hodd honly hy'.1.1, C_only hodd honly hy'.1.2.1, hy'.1.2.2⟩, hy'.2⟩
/-! ### the calls that came in, with runes -/
def ActRow2 (W : World) (a : Option Addr) (len cap : Nat) : Prop :=
  (a = none ∧ len = 0 ∧ cap = 0) ∨ ∃ ad, a = some ad ∧ len ≤ cap ∧ cap ≤ 9223372036854775807 ∧ ∀ i, i < len → ∃ k f t A z c, ActAt W ad i k f t A z c ∧ Runes z
theorem runes_wf {l : List Int} (h : ∀ n ∈ l, (Lit.int .i32 n).wf = true) : Runes l := fun n hn => by
  have := h n hn
  simp [Lit.wf, IntKind.min, IntKind.max, IntKind.signed, IntKind.bits] at this
  unfold wrap64
  omega
set_option maxRecDepth 100000 in
theorem open_acts2 {H : Type} {enc : TypeId × Value → H} {W : World} {a : Option Addr} {len cap : Nat} {d : DataW H} {p : List MemPlace} (h : DataW.Trod enc Try.prog W 0 (fun _ => true) true 57 (.slice a len cap) d p) :
    ActRow2 W a len cap := by
  obtain ⟨fuel, hf⟩ := h
  rcases DataW.trod_slice Try.underlying57 hf with ⟨hcs, _⟩ | ⟨x, l, c, elems, rest, n, -, hcs, -, -, hl, hm, hlen, hel, -, -⟩
  · simp [Value.cells] at hcs
    obtain ⟨rfl, rfl, rfl⟩ := hcs
    exact .inl ⟨rfl, rfl, rfl⟩
  · simp [Value.cells] at hcs
    obtain ⟨rfl, rfl, rfl⟩ := hcs
    refine .inr ⟨x, rfl, hl, by simpa [maxLen] using hm, fun i hi => ?_⟩
    have h1 := hel i hi
    rw [cells_act, List.getElem?_eq_getElem (by omega), Option.bind_eq_some_iff] at h1
    obtain ⟨cs, hcs, ht⟩ := h1
    have hget := World.cells?_some hcs
    obtain ⟨xs, m, -, -, hcl, hxl, hparts⟩ := DataW.trod_struct Try.underlying60 ht
    rw [cells_act] at hcl
    match cs, hcl with
    | [c0, c1, c2, c3], _ =>
      match xs, hxl with
      | [y0, y1, y2, y3], _ =>
        have g0 : DataW.trod enc Try.prog W 0 (fun _ => true) true m 3 [c0] = some y0 := by simpa [cells_int] using hparts 0 _ rfl
        have g1 : DataW.trod enc Try.prog W 0 (fun _ => true) true m 3 [c1] = some y1 := by simpa [cells_int] using hparts 1 _ rfl
        have g2 : DataW.trod enc Try.prog W 0 (fun _ => true) true m 3 [c2] = some y2 := by simpa [cells_int] using hparts 2 _ rfl
        have g3 : DataW.trod enc Try.prog W 0 (fun _ => true) true m 23 [c3] = some y3 := by simpa [cells_runes] using hparts 3 _ rfl
        obtain ⟨a0, e0, -, v0⟩ := DataW.trod_int Try.underlying3 g0
        obtain ⟨a1, e1, -, v1⟩ := DataW.trod_int Try.underlying3 g1
        obtain ⟨a2, e2, -, v2⟩ := DataW.trod_int Try.underlying3 g2
        obtain ⟨A, ln, cp, zs, rfl, hin⟩ := open_runes g3
        simp at e0 e1 e2
        subst e0 e1 e2
        have k0 := hget.2.2 0 (by decide)
        have k1 := hget.2.2 1 (by decide)
        have k2 := hget.2.2 2 (by decide)
        have k3 := hget.2.2 3 (by decide)
        rw [add_lit (by decide)] at k1 k2 k3
        obtain ⟨z, rfl, hC, hc, hm2, hwf⟩ := hin.list
        exact ⟨a0, a1, a2, A, z, cp, ⟨by simpa [Addr.add_add] using k0, by simpa using k1, by simpa using k2, by simpa using k3, int_range v0, int_range v1, int_range v2, hC, hc, hm2⟩, runes_wf hwf⟩
/-! ### the walk -/
theorem plays_big {w : World} {A0 A1 : Option Addr} {n0 c0 n1 c1 : Nat} (h : 1000 < n0) :
    Calls Try.prog 8 #[.slice A0 n0 c0, .slice A1 n1 c1] w fun e w' => e = .returned (.bool true) ∧ Below w.heap.size w w' := by
  have h0' : (1000 : Int) < (n0 : Int) := by omega
  go_enter Try.func8, Try.ntmps8
  go_wp2
  go_ret
  exact ⟨rfl, Below.refl _ _⟩
set_option maxRecDepth 100000 in
set_option maxHeartbeats 8000000 in
theorem plays_small {w : World} {A0 A1 : Option Addr} {l0 : List Int} {n0 c0 n1 c1 : Nat} (hC0 : Kd.C (Kd.int .i32) w A0 n0 l0) (hn0 : l0.length = n0) (hc0 : n0 ≤ c0) (hm0 : c0 ≤ 9223372036854775807)
    (h0 : n0 ≤ 1000) (hr0 : Runes l0) (hA : ActRow2 w A1 n1 c1) :
    Calls Try.prog 8 #[.slice A0 n0 c0, .slice A1 n1 c1] w fun e w' => e = .returned (.bool true) ∧ Below w.heap.size w w' := by
  have CNew := Aside0.mk (New_n hC0 hn0 hc0 hm0 (by omega))
  have HC0 := Aside0.mk hC0
  have HN0 := Aside0.mk hn0
  have HR0 := Aside0.mk hr0
  have HA := Aside0.mk hA
  have HCC := Aside0.mk hc0
  have h0' : ¬ (1000 : Int) < (n0 : Int) := by omega
  clear hC0 hn0 hc0 hm0 hA hr0
  go_enter Try.func8, Try.ntmps8
  go_upto_block 0 with (first
    | (go_at_call 10; (with_reducible refine CNew.out.mono ?_); rintro e w1 ⟨b0, rfl, ht, hb⟩; have T1 := Aside0.mk ht; have B1 := Aside0.mk hb; clear ht hb)
    | (go_at_call 29; (with_reducible refine (tells_n (T1.out.below (by repeat (first | exact Below.refl _ _ | apply below_alloc))) (Kd.C_below HC0.out (by repeat (first | exact B1.out | apply below_alloc))) HN0.out HCC.out (by omega) HR0.out).mono ?_); rintro e w2 ⟨rfl, hb⟩; have B2 := Aside0.mk hb; clear hb))
  obtain ⟨D1, hD1⟩ : ∃ D, w1.alloc (Obj.cells #[Value.pointer (some ⟨b0, 0, none⟩)] 27) = D := ⟨_, rfl⟩
  have hd1 : Below w1.heap.size w1 D1 := by rw [← hD1]; exact (Below.refl _ _).alloc (Nat.le_refl _) _
  have hh1 : D1.heap[w1.heap.size]? = some (.cells #[Value.pointer (some ⟨b0, 0, none⟩)] 27 (0, 0)) := by rw [← hD1]; exact World.alloc_heap_new w1 _
  have hz1 : D1.heap.size = w1.heap.size + 1 := by rw [← hD1]; simp
  have hd2 : Below D1.heap.size D1 (D1.alloc (Obj.cells #[Value.slice A0 n0 c0] 23)) := (Below.refl _ _).alloc (Nat.le_refl _) _
  have hh2 := World.alloc_heap_new D1 (.cells #[Value.slice A0 n0 c0] 23)
  have hSt : St w 2000 w2 ⟨w1.heap.size, 0, none⟩ 1 ⟨w1.heap.size + 1, 0, none⟩ 1 [⟨b0, A0, n0, c0, l0⟩] := by
    rw [hD1] at B2
    refine St.below ⟨⟨_, _, rfl, (hd2.block _ (by omega)).trans hh1, rfl, fun i hi => ?_, fun i v hv => ?_, by simp, by omega⟩, ⟨_, _, rfl, by rw [← hz1]; exact hh2, rfl, fun i hi => ?_, fun i v hv => ?_, by simp, by omega⟩, by simp, B1.out.size, by have := B1.out.size; show w.heap.size ≤ w1.heap.size + 1; omega, fun x hx => ?_, below_step (below_step B1.out hd1) hd2⟩ B2.out
    · simp at hi
      subst hi
      rfl
    · rcases i with _ | i
      · simp at hv
        subst hv
        exact .inl ⟨_, rfl⟩
      · simp at hv
    · simp at hi
      subst hi
      rfl
    · rcases i with _ | i
      · simp at hv
        subst hv
        exact .inr ⟨_, _, _, rfl⟩
      · simp at hv
    · simp at hx
      subst hx
      exact ⟨⟨(T1.out.below hd1).below hd2, Kd.C_below (Kd.C_below (Kd.C_below HC0.out B1.out) hd1) hd2, HCC.out, HR0.out, HN0.out⟩, by show n0 ≤ 2000; omega⟩
  have HST := Aside0.mk hSt
  clear hSt hd1 hd2 hh1 hh2 hz1 hD1 B2 T1 CNew
  go_cut [5, 6] (fun v5 v6 wc => ∃ (a5 a6 : Addr) (c5 c6 N : Nat) (xs : List Ent), v5 = .slice (some a5) N c5 ∧ v6 = .slice (some a6) N c6 ∧ Aside0 (xs.length = N) ∧ N ≤ 50 ∧ Aside0 (St w 100000 wc a5 c5 a6 c6 xs))
  case first =>
    go_wp2
    go_loopw [5, 6, 7] (fun v5 v6 v7 wr => ∃ (a5 a6 : Addr) (c5 c6 N m i : Nat) (xs : List Ent), v5 = .slice (some a5) N c5 ∧ v6 = .slice (some a6) N c6 ∧ v7 = .int .i64 (i : Int) ∧ Aside0 (xs.length = N) ∧ Aside0 (N = m + 1) ∧ m ≤ i ∧ i ≤ 40 ∧ Aside0 (St w (2000 * (i + 1)) wr a5 c5 a6 c6 xs)) (fun _ _ v7 _ => 40 - (intOf v7).toNat)
    case atStart => exact ⟨_, _, 1, 1, 1, 0, 0, _, rfl, by simp, rfl, ⟨rfl⟩, ⟨rfl⟩, by omega, by omega, HST⟩
    case round =>
      obtain ⟨a5, a6, c5, c6, N, m, i, xs, rfl, rfl, rfl, HXL, HNM, hmi, hi, HS⟩ := hrel
      have hNi : N ≤ i + 1 := by have := HNM.out; omega
      by_cases hin1 : i < n1
      · have hin1' : (i : Int) < (n1 : Int) := by omega
        by_cases hin2 : i < 40
        · have hin2' : decide ((i : Int) < 40) = true := decide_eq_true (by omega)
          obtain ⟨ad, rfl, hlc, hcm, hact⟩ : ∃ ad, A1 = some ad ∧ n1 ≤ c1 ∧ c1 ≤ 9223372036854775807 ∧ ∃ k f t A z c, ActAt wr ad i k f t A z c ∧ Runes z := by
            rcases HA.out with ⟨_, h, _⟩ | ⟨ad, h1, h2, h3, h4⟩
            · omega
            · obtain ⟨k, f, t, A, z, c, ha, hz⟩ := h4 i hin1
              exact ⟨ad, h1, h2, h3, k, f, t, A, z, c, ha.below HS.out.bel, hz⟩
          obtain ⟨ka, fa, ta, A, z, cz, ha, hrz⟩ := hact
          have HACT := Aside0.mk ha
          have HRZ := Aside0.mk hrz
          obtain ⟨k0, k1, k2, k3, _, _, _, _, _, _⟩ := ha
          obtain ⟨nz, hnz⟩ : ∃ nz, z.length = nz := ⟨_, rfl⟩
          rw [hnz] at k3
          obtain ⟨b, B, n, c, l, hP, hnb⟩ := HS.out.pair (i := m) (by rw [HXL.out]; have := HNM.out; omega)
          have HPR := Aside0.mk hP
          have s0 := hP.s
          have r0 := hP.r
          have hmn : (N : Int) - 1 = (m : Int) := by have := HNM.out; omega
          have hml : (m : Int) < (N : Int) := by have := HNM.out; omega
          have hm0 : (0 : Int) ≤ (m : Int) := by omega
          have hwm : IntKind.i64.wrap (m : Int) = (m : Int) := wrap_small (by omega)
          have hNb : (N : Int) ≤ 100 := by omega
          have hN1 : 1 ≤ (N : Int) := by have := HNM.out; omega
          have hbd : Below wr.heap.size wr (wr.alloc (Obj.cells #[Value.int IntKind.i64 ka, Value.int IntKind.i64 fa, Value.int IntKind.i64 ta, Value.slice A nz cz] 60)) := (Below.refl _ _).alloc (Nat.le_refl _) _
          have sD := (hbd.cell (p := a6.add m) (World.block_lt_of_cell? wr _ s0)).trans s0
          have HBD := Aside0.mk hbd
          have NZ := Aside0.mk hnz
          clear hP hrz hbd hnz
          by_cases hzb : 200 < nz
          · have hzb' : (200 : Int) < (nz : Int) := by omega
            go_wp2
            go_meet
            case rel => exact ⟨a5, a6, c5, c6, N, xs, rfl, rfl, HXL, by omega, ⟨(HS.out.below HBD.out).mono (by omega)⟩⟩
          · have hzb' : ¬ (200 : Int) < (nz : Int) := by omega
            by_cases hlb : 1500 < n
            · have hlb' : decide ((1500 : Int) < (n : Int)) = true := decide_eq_true (by omega)
              go_wp2
              go_meet
              case rel => exact ⟨a5, a6, c5, c6, N, xs, rfl, rfl, HXL, by omega, ⟨(HS.out.below HBD.out).mono (by omega)⟩⟩
            · have hlb' : decide ((1500 : Int) < (n : Int)) = false := decide_eq_false (by omega)
              go_wp2
              obtain ⟨Wd, hWd⟩ : ∃ Wd, wr.alloc (Obj.cells #[Value.int IntKind.i64 ka, Value.int IntKind.i64 fa, Value.int IntKind.i64 ta, Value.slice A nz cz] 60) = Wd := ⟨_, rfl⟩
              have m0 : Wd.cell? ⟨wr.heap.size, 0, none⟩ = some (.int .i64 ka) := by rw [← hWd, new_cell]; rfl
              have m1 : Wd.cell? ⟨wr.heap.size, 1, none⟩ = some (.int .i64 fa) := by rw [← hWd, new_cell]; rfl
              have m2 : Wd.cell? ⟨wr.heap.size, 2, none⟩ = some (.int .i64 ta) := by rw [← hWd, new_cell]; rfl
              have m3 : Wd.cell? ⟨wr.heap.size, 3, none⟩ = some (.slice A nz cz) := by rw [← hWd, new_cell]; rfl
              rw [hWd] at HBD sD ⊢
              have HSD := Aside0.mk (HS.out.below HBD.out)
              have PD := Aside0.mk (HPR.out.below HBD.out)
              have r1 := PD.out.r
              have s1 := PD.out.s
              have ZD := Aside0.mk (show Kd.C (Kd.int .i32) Wd A nz z by have := Kd.C_below HACT.out.hC HBD.out; rw [NZ.out] at this; exact this)
              have RF_ := Aside0.mk HACT.out.hf
              clear hWd HACT HS HPR k0 k1 k2 k3 r0 s0 sD hzb' hlb' HBD
              generalize wr.heap.size = g at m0 m1 m2 m3 ⊢
              have hgl := World.block_lt_of_cell? Wd _ m0
              have CAsk := Aside0.mk (fun W (hW : Below Wd.heap.size Wd W) => asked_L (f := fa) (t := ta) (PD.out.h.below hW) (Kd.C_below PD.out.hC hW) PD.out.hc PD.out.hn (by omega) PD.out.hr)
              have h5l := World.block_lt_of_cell? Wd _ r1
              have h6l := World.block_lt_of_cell? Wd _ s1
              go_region_held3 (fun W' => W'.cell? (a5.add m) = some (.pointer (some ⟨b, 0, none⟩)) ∧ W'.cell? (a6.add m) = some (.slice B n c) ∧ W'.cell? ⟨g, 1, none⟩ = some (.int .i64 fa) ∧ W'.cell? ⟨g, 2, none⟩ = some (.int .i64 ta) ∧ Below Wd.heap.size Wd W')
                (((try dsimp only); (repeat' apply And.intro); all_goals (first | assumption | exact Below.refl _ _ | exact below_drew1 (Below.refl _ _) | exact below_drew1 (pw_below_drewN (Below.refl _ _) _) | exact below_drew1 (by assumption) | exact below_step (by assumption) (by assumption) | go_keep)))
                (first | (go_at_call 30; (with_reducible refine (CAsk.out _ (by (first | assumption | exact Below.refl _ _ | exact pw_below_drewN (Below.refl _ _) _ | exact below_drew1 (pw_below_drewN (Below.refl _ _) _) | exact below_drew1 (Below.refl _ _) | exact pw_below_drewN (by assumption) _ | exact below_drew1 (by assumption)))).mono ?_); rintro e w3 ⟨rfl, hb⟩; have hb3 := below_step (w := Wd) (by (first | assumption | exact Below.refl _ _ | exact pw_below_drewN (Below.refl _ _) _ | exact below_drew1 (pw_below_drewN (Below.refl _ _) _) | exact below_drew1 (Below.refl _ _) | exact pw_below_drewN (by assumption) _ | exact below_drew1 (by assumption))) hb; have q5 := (hb3.cell (p := a5.add m) h5l).trans r1; have q6 := (hb3.cell (p := a6.add m) h6l).trans s1; have q1 := (hb3.cell (p := ⟨g, 1, none⟩) hgl).trans m1; have q2 := (hb3.cell (p := ⟨g, 2, none⟩) hgl).trans m2; clear hb))
              have q0 := (hb3.cell (p := ⟨g, 0, none⟩) hgl).trans m0
              have q3 := (hb3.cell (p := ⟨g, 3, none⟩) hgl).trans m3
              have P3 := Aside0.mk (PD.out.below hb3)
              have S3 := Aside0.mk (HSD.out.below hb3)
              have Z3 := Aside0.mk (Kd.C_below ZD.out hb3)
              have CPl := Aside0.mk (play_L (cr := c5) (cl := c6) (cz := cz) (k := ka) (t := ta) (bnd := 2000 * (i + 1)) P3.out HNM.out (by omega) (by omega) Z3.out NZ.out (by omega) HRZ.out (fun j hj => S3.out.pair (by rw [HXL.out]; exact hj)) (by omega) RF_.out)
              clear CAsk PD HSD ZD Z3 P3 hb3
              go_upto_region 16 with (first
                | (go_at_call 31; (with_reducible refine CPl.out.mono ?_); rintro e w4 ⟨p2, A2, n2, c2, rfl, hb, hcase⟩; have S4 := Aside0.mk (S3.out.below hb); have HCS := Aside0.mk hcase; clear hb hcase))
              rcases HCS.out with rfl | ⟨b2, l2, rfl, hF, hbd⟩
              · go_wp2
                go_roundw
                case measure => simp [intOf]; omega
                case rel => exact ⟨a5, a6, c5, c6, N, m, i + 1, xs, rfl, rfl, by go_num, HXL, HNM, by omega, by omega, ⟨S4.out.mono (by omega)⟩⟩
              · have FO := Aside0.mk hF
                have FB := Aside0.mk (show n2 ≤ 2000 * (i + 1 + 1) by omega)
                clear HCS hF hbd
                have hNlen : N ≤ 1000 := by omega
                have hn2b : n2 ≤ 100000 := by have := FB.out; omega
                have CT := Aside0.mk (tells_n FO.out.1 FO.out.2.1 FO.out.2.2.2.2 FO.out.2.2.1 hn2b FO.out.2.2.2.1)
                go_wp2_with (first
                  | (go_at_call 29; (with_reducible refine CT.out.mono ?_); rintro e w5 ⟨rfl, hb⟩; have S5 := Aside0.mk (S4.out.below hb); have F5 := Aside0.mk (FO.out.below hb); clear hb)
                  | ((with_reducible refine gate_dst (N := 95) rfl ?_); at_builtin; refine row_append (W := w5) rfl (.tmp 92) (.tmp 94) rfl Try.underlying67 infoP rfl (.inl ⟨_, rfl⟩) (by decide) rfl rfl S5.out.r5 (by rw [List.length_map]; exact HXL.out) hNlen (v := .pointer (some ⟨b2, 0, none⟩)) (.inl ⟨_, rfl⟩) rfl ?_; intro a5' c5' w6 k5 o5 m5 z5 e5; have K5 := Aside0.mk k5; have O5 := Aside0.mk o5; have M5 := Aside0.mk m5; have Z5 := Aside0.mk z5; have E5 := Aside0.mk (e5 _ w S5.out.b5 S5.out.bel.size S5.out.bel); have R6 := Aside0.mk (S5.out.r6.keep (m5 _ S5.out.r6.lt (Ne.symm S5.out.ne))); clear k5 o5 m5 z5 e5)
                  | ((with_reducible refine gate_dst (N := 99) rfl ?_); at_builtin; refine row_append (W := w6) rfl (.tmp 96) (.tmp 98) rfl Try.underlying68 infoS rfl (.inr ⟨_, _, _, rfl⟩) (by decide) rfl rfl R6.out (by rw [List.length_map]; exact HXL.out) hNlen (v := .slice A2 n2 c2) (.inr ⟨_, _, _, rfl⟩) rfl ?_; intro a6' c6' w7 k6 o6 m6 z6 e6; have S7 := Aside0.mk (St.more (x := ⟨b2, A2, n2, c2, l2⟩) (S5.out.mono (show 2000 * (i + 1) ≤ 2000 * (i + 1 + 1) by omega)) ⟨F5.out, FB.out⟩ K5.out O5.out M5.out Z5.out E5.out k6 o6 m6 z6 (e6 _ w S5.out.b6 E5.out.size E5.out)); clear k6 o6 m6 z6 e6))
                go_roundw
                case measure => simp [intOf]; omega
                case rel => exact ⟨a5', a6', c5', c6', N + 1, m + 1, i + 1, _, rfl, rfl, by go_num, ⟨by rw [List.length_append, HXL.out]; rfl⟩, ⟨by have := HNM.out; omega⟩, by omega, by omega, S7⟩
        · have hin2' : decide ((i : Int) < 40) = false := decide_eq_false (by omega)
          go_wp2
          go_meet
          case rel => exact ⟨a5, a6, c5, c6, N, xs, rfl, rfl, HXL, by omega, ⟨HS.out.mono (by omega)⟩⟩
      · have hin1' : ¬ (i : Int) < (n1 : Int) := by omega
        go_wp2
        go_meet
        case rel => exact ⟨a5, a6, c5, c6, N, xs, rfl, rfl, HXL, by omega, ⟨HS.out.mono (by omega)⟩⟩
  case rest =>
    obtain ⟨a5, a6, c5, c6, N, xs, rfl, rfl, HXL, hNb, HS⟩ := hcut
    go_wp2
    go_loopw [102] (fun v102 wr => ∃ j : Nat, v102 = .int .i64 (j : Int) ∧ j ≤ N ∧ Aside0 (Below wc.heap.size wc wr)) (fun v102 _ => N - (intOf v102).toNat)
    case atStart => exact ⟨0, rfl, Nat.zero_le _, ⟨Below.refl _ _⟩⟩
    case round =>
      obtain ⟨j, rfl, hj, HB⟩ := hrel
      by_cases hjN : j < N
      · have hj' : (j : Int) < (N : Int) := by omega
        obtain ⟨b, B, n, c, l, hP, hnb⟩ := (HS.out.below HB.out).pair (i := j) (by rw [HXL.out]; exact hjN)
        have HPR := Aside0.mk hP
        have s0 := hP.s
        have r0 := hP.r
        clear hP
        go_wp2_with (go_at_call 29; (with_reducible refine (tells_n HPR.out.h HPR.out.hC HPR.out.hn HPR.out.hc (by omega) HPR.out.hr).mono ?_); rintro e w5 ⟨rfl, hb⟩; have HB5 := Aside0.mk (below_step HB.out hb); clear hb)
        go_roundw
        case measure => simp [intOf]; omega
        case rel => exact ⟨j + 1, by go_num, by omega, HB5⟩
      · have hj' : ¬ (j : Int) < (N : Int) := by omega
        go_wp2
        go_ret
        exact ⟨rfl, below_step HS.out.bel HB.out⟩
theorem walk_RopePlays {W : World} {a0 a1 : Option Addr} {len0 cap0 len1 cap1 : Nat} {z0 : List Int} (w0 : InRow W a0 len0 cap0 z0) (y0 : len0 * 4 ≤ 140737488351232) (w1 : ActRow2 W a1 len1 cap1) :
    Calls Try.prog 8 #[.slice a0 len0 cap0, .slice a1 len1 cap1] W fun e w' => e = .returned (.bool true) ∧ Below W.heap.size W w' := by
  obtain ⟨l, rfl, hC0, hc0, hm0, hwf⟩ := w0.list
  by_cases h : 1000 < l.length
  · exact plays_big h
  · exact plays_small hC0 rfl hc0 hm0 (by omega) (runes_wf hwf) w1
end Go.Proofs.Ytenjldfflkinkaa.Rop
