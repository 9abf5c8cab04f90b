/- The calls of play: what each kind tells (kinds 0 to 3). -/
import Derived.Test.YtenjldfflkinkaaFGRopMA
namespace Go.Proofs.Ytenjldfflkinkaa.Rop
set_option linter.unusedVariables false
set_option linter.unusedSimpArgs false
open Go.RowKit Go.Proofs.Ytenjldfflkinkaa.F Go.Proofs.YtenjldfflkinkaaW.PrintWords Go.Proofs.YtenjldfflkinkaaW.PrintLast Go.Proofs.YtenjldfflkinkaaW.PrintMore
/-- place i of the two lists: a rope and its list -/
structure Pair (W : World) (adr adl : Addr) (i : Nat) (b : Nat) (A : Option Addr) (n c : Nat) (l : List Int) : Prop where
  r : W.cell? (adr.add i) = some (.pointer (some ⟨b, 0, none⟩))
  s : W.cell? (adl.add i) = some (.slice A n c)
  hn : l.length = n
  h : RL W b l
  hC : Kd.C (Kd.int .i32) W A n l
  hc : n ≤ c
  hr : Runes l
theorem Pair.below {W W' : World} {adr adl : Addr} {i b n c : Nat} {A : Option Addr} {l : List Int} (h : Pair W adr adl i b A n c l) (hb : Below W.heap.size W W') : Pair W' adr adl i b A n c l :=
  ⟨(hb.cell (p := adr.add i) (World.block_lt_of_cell? W _ h.r)).trans h.r, (hb.cell (p := adl.add i) (World.block_lt_of_cell? W _ h.s)).trans h.s, h.hn, h.h.below hb, Kd.C_below h.hC hb, h.hc, h.hr⟩
/-- a rope and its list -/
def Found (W : World) (b : Nat) (A : Option Addr) (n c : Nat) (l : List Int) : Prop := RL W b l ∧ Kd.C (Kd.int .i32) W A n l ∧ n ≤ c ∧ Runes l ∧ l.length = n
/-- What play tells: a refusal, or a rope and its list. -/
def Played (bnd : Nat) (w : World) (e : Ending) (w' : World) : Prop := Below w.heap.size w w' ∧ (e = .returned (.tuple #[.pointer none, .slice none 0 0, .bool true]) ∨ ∃ b A n c l, e = .returned (.tuple #[.pointer (some ⟨b, 0, none⟩), .slice A n c, .bool true]) ∧ Found w' b A n c l ∧ n ≤ bnd)
theorem C_nil (w : World) : Kd.C (Kd.int .i32) w none 0 [] := Kd.C_of_reads (d := (0 : Int)) (h1 := fun _ => rfl) ⟨rfl, by simp, fun h => by simp at h⟩
theorem Runes.app {l m : List Int} (h : Runes l) (k : Runes m) : Runes (l ++ m) := fun n hn => by
  rcases List.mem_append.1 hn with h1 | h1
  · exact h n h1
  · exact k n h1
theorem Runes.take {l : List Int} (h : Runes l) (i : Nat) : Runes (l.take i) := fun n hn => h n (List.mem_of_mem_take hn)
theorem Runes.drop {l : List Int} (h : Runes l) (i : Nat) : Runes (l.drop i) := fun n hn => h n (List.mem_of_mem_drop hn)
theorem run_toM {A : Option Addr} {n c x : Nat} (h : x ≤ n) (hc : n ≤ c) (W : World) : (Instr.slice 23 (.slice A n c) none (some (.int .i64 (x : Int))) (some (.int .i64 (x : Int)))).run Try.prog W = .ok (.slice A x x) W := by
  obtain ⟨i0, hi, hz0, hz1, hz2⟩ := info_parts info21
  have hel : Try.prog.elem 23 = 21 := by simp [Program.elem, Try.underlying23]
  have hu : Try.prog.underlying 23 = some (.slice (Try.prog.elem 23)) := by rw [hel]; exact Try.underlying23
  have ha : (A.map fun x => x.add 0) = A := by cases A <;> simp [Addr.add]
  rw [run_slice_hm W 23 A n c hu .i64 .i64 (x : Int) (x : Int) (by omega) (by omega) (by omega), hel]
  simp [sizeOf, typeInfo, hi, hz1, sliced, Result.andThen, ha]
section
variable {w : World} {b n c : Nat} {l : List Int} {A : Option Addr}
theorem Put_n {A3 : Option Addr} {c3 n3 x y : Nat} {m : List Int} (hC : Kd.C (Kd.int .i32) w A n l) (hn : l.length = n) (hc : n ≤ c) (hC3 : Kd.C (Kd.int .i32) w A3 n3 m) (h3 : m.length = n3) (hx : x ≤ n) (hy : y ≤ n) (hl : n ≤ 100000) (hm : n3 ≤ 100000) :
    Calls Try.prog 57 #[.slice A n c, .int .i64 (x : Int), .int .i64 (y : Int), .slice A3 n3 c3] w (RowOf (l.take x ++ m ++ l.drop y) w) := by
  subst hn h3
  exact Put_L hC hc hC3 hx hy (by omega) (by omega)
theorem Insert_n {A3 : Option Addr} {c3 n3 x : Nat} {m : List Int} (h : RL w b l) (hn : l.length = n) (hC3 : Kd.C (Kd.int .i32) w A3 n3 m) (h3 : m.length = n3) (hc3 : n3 ≤ c3) (hm3 : c3 ≤ 9223372036854775807) (hx : x ≤ n) (hl : n ≤ 100000) (hm : n3 ≤ 100000) :
    Calls Try.prog 14 #[.pointer (some ⟨b, 0, none⟩), .int .i64 (x : Int), .slice A3 n3 c3] w (OneE (l.take x ++ m ++ l.drop x) w) := by
  subst hn h3
  exact Insert_L h hC3 hc3 hm3 x hx (by omega)
theorem Insert_bad_L (h : RL w b l) (hn : l.length = n) {x e : Int} {v : Value} (he : spanE (n : Int) x x = e) (he0 : e ≠ 0) : Calls Try.prog 14 #[.pointer (some ⟨b, 0, none⟩), .int .i64 x, v] w fun e' w' => e' = .returned (.tuple #[.pointer none, .int .i64 e]) ∧ w = w' :=
  Insert_bad he0 (by have := span_L h x x; rw [hn, he] at this; exact this)
theorem Delete_bad_L (h : RL w b l) (hn : l.length = n) {x y e : Int} (he : spanE (n : Int) x y = e) (he0 : e ≠ 0) : Calls Try.prog 13 #[.pointer (some ⟨b, 0, none⟩), .int .i64 x, .int .i64 y] w fun e' w' => e' = .returned (.tuple #[.pointer none, .int .i64 e]) ∧ w = w' :=
  Delete_bad he0 (by have := span_L h x y; rw [hn, he] at this; exact this)
theorem Split_bad_L (h : RL w b l) (hn : l.length = n) {x e : Int} (he : spanE (n : Int) x x = e) (he0 : e ≠ 0) : Calls Try.prog 27 #[.pointer (some ⟨b, 0, none⟩), .int .i64 x] w fun e' w' => e' = .returned (.tuple #[.pointer none, .pointer none, .int .i64 e]) ∧ w = w' :=
  Split_bad he0 (by have := span_L h x x; rw [hn, he] at this; exact this)
theorem tells_n (h : RL w b l) (hC : Kd.C (Kd.int .i32) w A n l) (hn : l.length = n) (hc : n ≤ c) (hl : n ≤ 100000) (hr : Runes l) :
    Calls Try.prog 29 #[.pointer (some ⟨b, 0, none⟩), .slice A n c] w fun e w' => e = .returned (.bool true) ∧ Below w.heap.size w w' := by
  subst hn
  exact tells_L h hC hc (by omega) hr
theorem span_bad {x y : Int} (h : ¬ (0 ≤ x ∧ x ≤ y ∧ y ≤ (n : Int))) : spanE (n : Int) x y = 4 := by unfold spanE; rw [if_pos (by omega)]
theorem span_ok {x y : Nat} (h : x ≤ y) (k : y ≤ n) : spanE (n : Int) (x : Int) (y : Int) = 0 := by unfold spanE; rw [if_neg (by omega)]

set_option maxRecDepth 100000 in
set_option maxHeartbeats 8000000 in
theorem play_ins {w : World} {adr adl : Addr} {N m cr cl b n c nz cz : Nat} {A Az : Option Addr} {l z : List Int} {t : Int} {x : Nat} (hP : Pair w adr adl m b A n c l) (hm : N = m + 1) (hN : N ≤ 100) (hl : n ≤ 100000) (hZ : Kd.C (Kd.int .i32) w Az nz z) (hnz : z.length = nz) (hz : nz ≤ 1000) (hrz : Runes z) (hx : x ≤ n) :
    Calls Try.prog 31 #[.slice (some adr) N cr, .slice (some adl) N cl, .agg #[.int .i64 0, .int .i64 (x : Int), .int .i64 t, .slice Az nz cz]] w (Played (n + nz) w) := by
  obtain ⟨r0, s0, hn, hT, hC, hc, hr⟩ := hP
  have hmn : (N : Int) - 1 = (m : Int) := by omega
  have hml : (m : Int) < (N : Int) := by omega
  have hNb : (N : Int) ≤ 100 := by omega
  have hN1 : 1 ≤ (N : Int) := by omega
  have HT := Aside0.mk hT
  have HC := Aside0.mk hC
  have HZ := Aside0.mk hZ
  have HNl := Aside0.mk hn
  have HNz := Aside0.mk hnz
  have HR := Aside0.mk hr
  have HRz := Aside0.mk hrz
  have HCc := Aside0.mk hc
  have HM := Aside0.mk hm
  clear hT hC hZ hn hnz hr hrz hm
  go_enter Try.func31, Try.ntmps31
  go_wp2
  obtain ⟨Wd, hWd⟩ : ∃ Wd, w.alloc (Obj.cells #[Value.int IntKind.i64 0, Value.int IntKind.i64 (x : Int), Value.int IntKind.i64 t, Value.slice Az nz cz] 60) = Wd := ⟨_, rfl⟩
  have m0 : Wd.cell? ⟨w.heap.size, 0, none⟩ = some (.int .i64 0) := by rw [← hWd, new_cell]; rfl
  have m1 : Wd.cell? ⟨w.heap.size, 1, none⟩ = some (.int .i64 (x : Int)) := by rw [← hWd, new_cell]; rfl
  have m2 : Wd.cell? ⟨w.heap.size, 2, none⟩ = some (.int .i64 t) := by rw [← hWd, new_cell]; rfl
  have m3 : Wd.cell? ⟨w.heap.size, 3, none⟩ = some (.slice Az nz cz) := by rw [← hWd, new_cell]; rfl
  have hbd : Below w.heap.size w Wd := by rw [← hWd]; exact (Below.refl _ _).alloc (Nat.le_refl _) _
  have r1 := (hbd.cell (p := adr.add m) (World.block_lt_of_cell? w _ r0)).trans r0
  have s1 := (hbd.cell (p := adl.add m) (World.block_lt_of_cell? w _ s0)).trans s0
  have TD := Aside0.mk (HT.out.below hbd)
  have LD := Aside0.mk (Kd.C_below HC.out hbd)
  have ZD := Aside0.mk (Kd.C_below HZ.out hbd)
  have BD := Aside0.mk hbd
  rw [hWd]
  clear hWd hbd r0 s0 HT HC HZ
  generalize w.heap.size = g at m0 m1 m2 m3 ⊢
  go_quiet (fail)
  have hbx := pw_below_drewN (Below.refl Wd.heap.size Wd) nq
  have hgl := World.block_lt_of_cell? Wd _ m0
  have p0 := (hbx.cell (p := ⟨g, 0, none⟩) hgl).trans m0
  have p1 := (hbx.cell (p := ⟨g, 1, none⟩) hgl).trans m1
  have p2 := (hbx.cell (p := ⟨g, 2, none⟩) hgl).trans m2
  have p3 := (hbx.cell (p := ⟨g, 3, none⟩) hgl).trans m3
  have TX := Aside0.mk (TD.out.below hbx)
  have LX := Aside0.mk (Kd.C_below LD.out hbx)
  have ZX := Aside0.mk (Kd.C_below ZD.out hbx)
  have BX := Aside0.mk (below_step BD.out hbx)
  have hgx : g < (Wd.drewN nq).heap.size := Nat.lt_of_lt_of_le hgl hbx.size
  generalize Wd.drewN nq = X at p0 p1 p2 p3 TX LX ZX BX hgx ⊢
  clear hbx hgl m0 m1 m2 m3 TD LD ZD BD r1 s1
  go_wp2_with (first
    | ((with_reducible refine gate_dst (N := 30) rfl ?_); refine Kd.R_lit (Kd.int .i32) X.heap.size 21 rfl (N := 30) rfl (xs := ([] : List Int)) (inner := []) (ok := fun _ => True) (okp := fun _ => True) ?hr (Reps.none _ _) (fun _ hk => hk) trivial (Below.refl _ X) (Nat.le_refl _) (by simp) ?_; (case hr => first | (go_simp; done) | (go_simp; rfl)); intro v1 w1 ho1 bt1 hg1 hn1; have HO1 := Aside0.mk ho1; clear hg1 hn1 ho1; have p0_1 := (bt1.cell (p := ⟨g, 0, none⟩) hgx).trans p0; have p1_1 := (bt1.cell (p := ⟨g, 1, none⟩) hgx).trans p1; have p2_1 := (bt1.cell (p := ⟨g, 2, none⟩) hgx).trans p2; have p3_1 := (bt1.cell (p := ⟨g, 3, none⟩) hgx).trans p3; have BT1 := Aside0.mk bt1; clear bt1)
    | ((with_reducible refine gate_dst (N := 33) rfl ?_); at_builtin; refine Kd.R_append_rows (Kd.int .i32) (w0 := X) X.heap.size rfl (.tmp 30) (.tmp 32) 23 21 (.int .i32 0) 4 rfl Try.underlying23 info21 rfl (by decide) (by omega) v1 [] z _ _ _ (fun _ => True) (fun _ => False) rfl rfl HO1.out (Kd.C_below ZX.out BT1.out) (fun _ _ h => h) (fun _ h => h.elim) (fun _ _ => trivial) BT1.out BT1.out.size (by simp; omega) ?_; intro v2 w2 ho2 bt2 hg2 hn2; obtain ⟨A2, c2, rfl, hC2, hc2, hm2⟩ := own_row ho2 HNz.out; have C2 := Aside0.mk hC2; have HO2 := Aside0.mk ho2; have K2 := Aside0.mk hc2; have M2 := Aside0.mk hm2; clear hg2 hn2 hC2 hc2 hm2 ho2; have p0_2 := (bt2.cell (p := ⟨g, 0, none⟩) hgx).trans p0; have p1_2 := (bt2.cell (p := ⟨g, 1, none⟩) hgx).trans p1; have p2_2 := (bt2.cell (p := ⟨g, 2, none⟩) hgx).trans p2; have p3_2 := (bt2.cell (p := ⟨g, 3, none⟩) hgx).trans p3; have BT2 := Aside0.mk bt2; clear bt2)
    | (go_at_call 55; (with_reducible refine (Wrong_n (Kd.C_below LX.out BT2.out) HNl.out HCc.out (show spanE (n : Int) (x : Int) (x : Int) = 0 from span_ok (Nat.le_refl _) (by omega))).mono ?_); rintro e w3 ⟨rfl, hb⟩; have bt3 := below_step BT2.out hb; have C3_ := Aside0.mk (Kd.C_below C2.out hb); have p0_3 := (bt3.cell (p := ⟨g, 0, none⟩) hgx).trans p0; have p1_3 := (bt3.cell (p := ⟨g, 1, none⟩) hgx).trans p1; have p2_3 := (bt3.cell (p := ⟨g, 2, none⟩) hgx).trans p2; have p3_3 := (bt3.cell (p := ⟨g, 3, none⟩) hgx).trans p3; have BT3 := Aside0.mk bt3; clear bt3; clear hb)
    | (go_at_call 14; (with_reducible refine (Insert_n (TX.out.below BT3.out) HNl.out C3_.out HNz.out K2.out M2.out hx hl (by omega)).mono ?_); rintro e w4 ⟨b2, rfl, ht, hb⟩; have bt4 := below_step BT3.out hb; have T2 := Aside0.mk ht; clear ht; have p0_4 := (bt4.cell (p := ⟨g, 0, none⟩) hgx).trans p0; have p1_4 := (bt4.cell (p := ⟨g, 1, none⟩) hgx).trans p1; have p2_4 := (bt4.cell (p := ⟨g, 2, none⟩) hgx).trans p2; have p3_4 := (bt4.cell (p := ⟨g, 3, none⟩) hgx).trans p3; have BT4 := Aside0.mk bt4; clear bt4; clear hb)
    | (go_at_call 57; (with_reducible refine (Put_n (Kd.C_below LX.out BT4.out) HNl.out HCc.out (Kd.C_below ZX.out BT4.out) HNz.out hx hx hl (by omega)).mono ?_); rintro e w5 ⟨A5, c5, rfl, hC5, hc5, hb⟩; have bt5 := below_step BT4.out hb; have T5 := Aside0.mk (T2.out.below hb); have C5 := Aside0.mk hC5; have K5 := Aside0.mk hc5; clear hC5 hc5; have p0_5 := (bt5.cell (p := ⟨g, 0, none⟩) hgx).trans p0; have p1_5 := (bt5.cell (p := ⟨g, 1, none⟩) hgx).trans p1; have p2_5 := (bt5.cell (p := ⟨g, 2, none⟩) hgx).trans p2; have p3_5 := (bt5.cell (p := ⟨g, 3, none⟩) hgx).trans p3; have BT5 := Aside0.mk bt5; clear bt5; clear hb))
  refine bodyPost_ret (v := .tuple #[.pointer (some ⟨b2, 0, none⟩), .slice A5 (l.take x ++ z ++ l.drop x).length c5, .bool true]) (by simp [results, Try.results31, go_sem]) rfl ⟨below_step BX.out BT5.out, .inr ⟨b2, A5, _, c5, _, rfl, ⟨T5.out, C5.out, K5.out, ((HR.out.take x).app HRz.out).app (HR.out.drop x), rfl⟩, ?_⟩⟩
  have := HNl.out
  have := HNz.out
  simp
  omega
set_option maxRecDepth 100000 in
set_option maxHeartbeats 8000000 in
theorem play_insbad {w : World} {adr adl : Addr} {N m cr cl b n c nz cz : Nat} {A Az : Option Addr} {l z : List Int} {f t : Int} (hP : Pair w adr adl m b A n c l) (hm : N = m + 1) (hN : N ≤ 100) (hl : n ≤ 100000) (hZ : Kd.C (Kd.int .i32) w Az nz z) (hnz : z.length = nz) (hz : nz ≤ 1000) (hrz : Runes z) (hsp : spanE (n : Int) f f = 4) :
    Calls Try.prog 31 #[.slice (some adr) N cr, .slice (some adl) N cl, .agg #[.int .i64 0, .int .i64 f, .int .i64 t, .slice Az nz cz]] w (Played (0) w) := by
  obtain ⟨r0, s0, hn, hT, hC, hc, hr⟩ := hP
  have hmn : (N : Int) - 1 = (m : Int) := by omega
  have hml : (m : Int) < (N : Int) := by omega
  have hNb : (N : Int) ≤ 100 := by omega
  have hN1 : 1 ≤ (N : Int) := by omega
  have HT := Aside0.mk hT
  have HC := Aside0.mk hC
  have HZ := Aside0.mk hZ
  have HNl := Aside0.mk hn
  have HNz := Aside0.mk hnz
  have HR := Aside0.mk hr
  have HRz := Aside0.mk hrz
  have HCc := Aside0.mk hc
  have HM := Aside0.mk hm
  clear hT hC hZ hn hnz hr hrz hm
  go_enter Try.func31, Try.ntmps31
  go_wp2
  obtain ⟨Wd, hWd⟩ : ∃ Wd, w.alloc (Obj.cells #[Value.int IntKind.i64 0, Value.int IntKind.i64 f, Value.int IntKind.i64 t, Value.slice Az nz cz] 60) = Wd := ⟨_, rfl⟩
  have m0 : Wd.cell? ⟨w.heap.size, 0, none⟩ = some (.int .i64 0) := by rw [← hWd, new_cell]; rfl
  have m1 : Wd.cell? ⟨w.heap.size, 1, none⟩ = some (.int .i64 f) := by rw [← hWd, new_cell]; rfl
  have m2 : Wd.cell? ⟨w.heap.size, 2, none⟩ = some (.int .i64 t) := by rw [← hWd, new_cell]; rfl
  have m3 : Wd.cell? ⟨w.heap.size, 3, none⟩ = some (.slice Az nz cz) := by rw [← hWd, new_cell]; rfl
  have hbd : Below w.heap.size w Wd := by rw [← hWd]; exact (Below.refl _ _).alloc (Nat.le_refl _) _
  have r1 := (hbd.cell (p := adr.add m) (World.block_lt_of_cell? w _ r0)).trans r0
  have s1 := (hbd.cell (p := adl.add m) (World.block_lt_of_cell? w _ s0)).trans s0
  have TD := Aside0.mk (HT.out.below hbd)
  have LD := Aside0.mk (Kd.C_below HC.out hbd)
  have ZD := Aside0.mk (Kd.C_below HZ.out hbd)
  have BD := Aside0.mk hbd
  rw [hWd]
  clear hWd hbd r0 s0 HT HC HZ
  generalize w.heap.size = g at m0 m1 m2 m3 ⊢
  go_quiet (fail)
  have hbx := pw_below_drewN (Below.refl Wd.heap.size Wd) nq
  have hgl := World.block_lt_of_cell? Wd _ m0
  have p0 := (hbx.cell (p := ⟨g, 0, none⟩) hgl).trans m0
  have p1 := (hbx.cell (p := ⟨g, 1, none⟩) hgl).trans m1
  have p2 := (hbx.cell (p := ⟨g, 2, none⟩) hgl).trans m2
  have p3 := (hbx.cell (p := ⟨g, 3, none⟩) hgl).trans m3
  have TX := Aside0.mk (TD.out.below hbx)
  have LX := Aside0.mk (Kd.C_below LD.out hbx)
  have ZX := Aside0.mk (Kd.C_below ZD.out hbx)
  have BX := Aside0.mk (below_step BD.out hbx)
  have hgx : g < (Wd.drewN nq).heap.size := Nat.lt_of_lt_of_le hgl hbx.size
  generalize Wd.drewN nq = X at p0 p1 p2 p3 TX LX ZX BX hgx ⊢
  clear hbx hgl m0 m1 m2 m3 TD LD ZD BD r1 s1
  go_wp2_with (first
    | ((with_reducible refine gate_dst (N := 30) rfl ?_); refine Kd.R_lit (Kd.int .i32) X.heap.size 21 rfl (N := 30) rfl (xs := ([] : List Int)) (inner := []) (ok := fun _ => True) (okp := fun _ => True) ?hr (Reps.none _ _) (fun _ hk => hk) trivial (Below.refl _ X) (Nat.le_refl _) (by simp) ?_; (case hr => first | (go_simp; done) | (go_simp; rfl)); intro v1 w1 ho1 bt1 hg1 hn1; have HO1 := Aside0.mk ho1; clear hg1 hn1 ho1; have p0_1 := (bt1.cell (p := ⟨g, 0, none⟩) hgx).trans p0; have p1_1 := (bt1.cell (p := ⟨g, 1, none⟩) hgx).trans p1; have p2_1 := (bt1.cell (p := ⟨g, 2, none⟩) hgx).trans p2; have p3_1 := (bt1.cell (p := ⟨g, 3, none⟩) hgx).trans p3; have BT1 := Aside0.mk bt1; clear bt1)
    | ((with_reducible refine gate_dst (N := 33) rfl ?_); at_builtin; refine Kd.R_append_rows (Kd.int .i32) (w0 := X) X.heap.size rfl (.tmp 30) (.tmp 32) 23 21 (.int .i32 0) 4 rfl Try.underlying23 info21 rfl (by decide) (by omega) v1 [] z _ _ _ (fun _ => True) (fun _ => False) rfl rfl HO1.out (Kd.C_below ZX.out BT1.out) (fun _ _ h => h) (fun _ h => h.elim) (fun _ _ => trivial) BT1.out BT1.out.size (by simp; omega) ?_; intro v2 w2 ho2 bt2 hg2 hn2; obtain ⟨A2, c2, rfl, hC2, hc2, hm2⟩ := own_row ho2 HNz.out; have C2 := Aside0.mk hC2; have HO2 := Aside0.mk ho2; have K2 := Aside0.mk hc2; have M2 := Aside0.mk hm2; clear hg2 hn2 hC2 hc2 hm2 ho2; have p0_2 := (bt2.cell (p := ⟨g, 0, none⟩) hgx).trans p0; have p1_2 := (bt2.cell (p := ⟨g, 1, none⟩) hgx).trans p1; have p2_2 := (bt2.cell (p := ⟨g, 2, none⟩) hgx).trans p2; have p3_2 := (bt2.cell (p := ⟨g, 3, none⟩) hgx).trans p3; have BT2 := Aside0.mk bt2; clear bt2)
    | (go_at_call 55; (with_reducible refine (Wrong_n (Kd.C_below LX.out BT2.out) HNl.out HCc.out (show spanE (n : Int) f f = 4 from hsp)).mono ?_); rintro e w3 ⟨rfl, hb⟩; have bt3 := below_step BT2.out hb; have p0_3 := (bt3.cell (p := ⟨g, 0, none⟩) hgx).trans p0; have p1_3 := (bt3.cell (p := ⟨g, 1, none⟩) hgx).trans p1; have p2_3 := (bt3.cell (p := ⟨g, 2, none⟩) hgx).trans p2; have p3_3 := (bt3.cell (p := ⟨g, 3, none⟩) hgx).trans p3; have BT3 := Aside0.mk bt3; clear bt3; clear hb)
    | (go_at_call 14; (with_reducible refine (Insert_bad_L (TX.out.below BT3.out) HNl.out hsp (by decide)).mono ?_); rintro e w' ⟨rfl, rfl⟩))
  exact bodyPost_ret (v := .tuple #[.pointer none, .slice none 0 0, .bool true]) (by simp [results, Try.results31, go_sem]) rfl ⟨below_step BX.out BT3.out, .inl rfl⟩
set_option maxRecDepth 100000 in
set_option maxHeartbeats 8000000 in
theorem play_del {w : World} {adr adl : Addr} {N m cr cl b n c nz cz : Nat} {A Az : Option Addr} {l z : List Int} {x y : Nat} (hP : Pair w adr adl m b A n c l) (hm : N = m + 1) (hN : N ≤ 100) (hl : n ≤ 100000) (hZ : Kd.C (Kd.int .i32) w Az nz z) (hnz : z.length = nz) (hz : nz ≤ 1000) (hrz : Runes z) (hxy : x ≤ y) (hyn : y ≤ n) :
    Calls Try.prog 31 #[.slice (some adr) N cr, .slice (some adl) N cl, .agg #[.int .i64 1, .int .i64 (x : Int), .int .i64 (y : Int), .slice Az nz cz]] w (Played (n) w) := by
  obtain ⟨r0, s0, hn, hT, hC, hc, hr⟩ := hP
  have hmn : (N : Int) - 1 = (m : Int) := by omega
  have hml : (m : Int) < (N : Int) := by omega
  have hNb : (N : Int) ≤ 100 := by omega
  have hN1 : 1 ≤ (N : Int) := by omega
  have HT := Aside0.mk hT
  have HC := Aside0.mk hC
  have HZ := Aside0.mk hZ
  have HNl := Aside0.mk hn
  have HNz := Aside0.mk hnz
  have HR := Aside0.mk hr
  have HRz := Aside0.mk hrz
  have HCc := Aside0.mk hc
  have HM := Aside0.mk hm
  clear hT hC hZ hn hnz hr hrz hm
  go_enter Try.func31, Try.ntmps31
  go_wp2
  obtain ⟨Wd, hWd⟩ : ∃ Wd, w.alloc (Obj.cells #[Value.int IntKind.i64 1, Value.int IntKind.i64 (x : Int), Value.int IntKind.i64 (y : Int), Value.slice Az nz cz] 60) = Wd := ⟨_, rfl⟩
  have m0 : Wd.cell? ⟨w.heap.size, 0, none⟩ = some (.int .i64 1) := by rw [← hWd, new_cell]; rfl
  have m1 : Wd.cell? ⟨w.heap.size, 1, none⟩ = some (.int .i64 (x : Int)) := by rw [← hWd, new_cell]; rfl
  have m2 : Wd.cell? ⟨w.heap.size, 2, none⟩ = some (.int .i64 (y : Int)) := by rw [← hWd, new_cell]; rfl
  have m3 : Wd.cell? ⟨w.heap.size, 3, none⟩ = some (.slice Az nz cz) := by rw [← hWd, new_cell]; rfl
  have hbd : Below w.heap.size w Wd := by rw [← hWd]; exact (Below.refl _ _).alloc (Nat.le_refl _) _
  have r1 := (hbd.cell (p := adr.add m) (World.block_lt_of_cell? w _ r0)).trans r0
  have s1 := (hbd.cell (p := adl.add m) (World.block_lt_of_cell? w _ s0)).trans s0
  have TD := Aside0.mk (HT.out.below hbd)
  have LD := Aside0.mk (Kd.C_below HC.out hbd)
  have ZD := Aside0.mk (Kd.C_below HZ.out hbd)
  have BD := Aside0.mk hbd
  rw [hWd]
  clear hWd hbd r0 s0 HT HC HZ
  generalize w.heap.size = g at m0 m1 m2 m3 ⊢
  go_quiet (fail)
  have hbx := pw_below_drewN (Below.refl Wd.heap.size Wd) nq
  have hgl := World.block_lt_of_cell? Wd _ m0
  have p0 := (hbx.cell (p := ⟨g, 0, none⟩) hgl).trans m0
  have p1 := (hbx.cell (p := ⟨g, 1, none⟩) hgl).trans m1
  have p2 := (hbx.cell (p := ⟨g, 2, none⟩) hgl).trans m2
  have p3 := (hbx.cell (p := ⟨g, 3, none⟩) hgl).trans m3
  have TX := Aside0.mk (TD.out.below hbx)
  have LX := Aside0.mk (Kd.C_below LD.out hbx)
  have ZX := Aside0.mk (Kd.C_below ZD.out hbx)
  have BX := Aside0.mk (below_step BD.out hbx)
  have hgx : g < (Wd.drewN nq).heap.size := Nat.lt_of_lt_of_le hgl hbx.size
  generalize Wd.drewN nq = X at p0 p1 p2 p3 TX LX ZX BX hgx ⊢
  clear hbx hgl m0 m1 m2 m3 TD LD ZD BD r1 s1
  go_wp2_with (first
    | ((with_reducible refine gate_dst (N := 30) rfl ?_); refine Kd.R_lit (Kd.int .i32) X.heap.size 21 rfl (N := 30) rfl (xs := ([] : List Int)) (inner := []) (ok := fun _ => True) (okp := fun _ => True) ?hr (Reps.none _ _) (fun _ hk => hk) trivial (Below.refl _ X) (Nat.le_refl _) (by simp) ?_; (case hr => first | (go_simp; done) | (go_simp; rfl)); intro v1 w1 ho1 bt1 hg1 hn1; have HO1 := Aside0.mk ho1; clear hg1 hn1 ho1; have p0_1 := (bt1.cell (p := ⟨g, 0, none⟩) hgx).trans p0; have p1_1 := (bt1.cell (p := ⟨g, 1, none⟩) hgx).trans p1; have p2_1 := (bt1.cell (p := ⟨g, 2, none⟩) hgx).trans p2; have p3_1 := (bt1.cell (p := ⟨g, 3, none⟩) hgx).trans p3; have BT1 := Aside0.mk bt1; clear bt1)
    | ((with_reducible refine gate_dst (N := 33) rfl ?_); at_builtin; refine Kd.R_append_rows (Kd.int .i32) (w0 := X) X.heap.size rfl (.tmp 30) (.tmp 32) 23 21 (.int .i32 0) 4 rfl Try.underlying23 info21 rfl (by decide) (by omega) v1 [] z _ _ _ (fun _ => True) (fun _ => False) rfl rfl HO1.out (Kd.C_below ZX.out BT1.out) (fun _ _ h => h) (fun _ h => h.elim) (fun _ _ => trivial) BT1.out BT1.out.size (by simp; omega) ?_; intro v2 w2 ho2 bt2 hg2 hn2; obtain ⟨A2, c2, rfl, hC2, hc2, hm2⟩ := own_row ho2 HNz.out; have C2 := Aside0.mk hC2; have HO2 := Aside0.mk ho2; have K2 := Aside0.mk hc2; have M2 := Aside0.mk hm2; clear hg2 hn2 hC2 hc2 hm2 ho2; have p0_2 := (bt2.cell (p := ⟨g, 0, none⟩) hgx).trans p0; have p1_2 := (bt2.cell (p := ⟨g, 1, none⟩) hgx).trans p1; have p2_2 := (bt2.cell (p := ⟨g, 2, none⟩) hgx).trans p2; have p3_2 := (bt2.cell (p := ⟨g, 3, none⟩) hgx).trans p3; have BT2 := Aside0.mk bt2; clear bt2)
    | (go_at_call 55; (with_reducible refine (Wrong_n (Kd.C_below LX.out BT2.out) HNl.out HCc.out (show spanE (n : Int) (x : Int) (x : Int) = 0 from span_ok (Nat.le_refl _) (by omega))).mono ?_); rintro e w3 ⟨rfl, hb⟩; have bt3 := below_step BT2.out hb; have C3_ := Aside0.mk (Kd.C_below C2.out hb); have p0_3 := (bt3.cell (p := ⟨g, 0, none⟩) hgx).trans p0; have p1_3 := (bt3.cell (p := ⟨g, 1, none⟩) hgx).trans p1; have p2_3 := (bt3.cell (p := ⟨g, 2, none⟩) hgx).trans p2; have p3_3 := (bt3.cell (p := ⟨g, 3, none⟩) hgx).trans p3; have BT3 := Aside0.mk bt3; clear bt3; clear hb)
    | (go_at_call 13; (with_reducible refine (Delete_L (TX.out.below BT3.out) x y hxy (by rw [HNl.out]; exact hyn) (by rw [HNl.out]; omega)).mono ?_); rintro e w4 ⟨b2, rfl, ht, hb⟩; have bt4 := below_step BT3.out hb; have T2 := Aside0.mk ht; clear ht; have p0_4 := (bt4.cell (p := ⟨g, 0, none⟩) hgx).trans p0; have p1_4 := (bt4.cell (p := ⟨g, 1, none⟩) hgx).trans p1; have p2_4 := (bt4.cell (p := ⟨g, 2, none⟩) hgx).trans p2; have p3_4 := (bt4.cell (p := ⟨g, 3, none⟩) hgx).trans p3; have BT4 := Aside0.mk bt4; clear bt4; clear hb)
    | (go_at_call 55; (with_reducible refine (Wrong_n (Kd.C_below LX.out BT4.out) HNl.out HCc.out (show spanE (n : Int) (x : Int) (y : Int) = 0 from span_ok hxy hyn)).mono ?_); rintro e w5 ⟨rfl, hb⟩; have bt5 := below_step BT4.out hb; have T3 := Aside0.mk (T2.out.below hb); have p0_5 := (bt5.cell (p := ⟨g, 0, none⟩) hgx).trans p0; have p1_5 := (bt5.cell (p := ⟨g, 1, none⟩) hgx).trans p1; have p2_5 := (bt5.cell (p := ⟨g, 2, none⟩) hgx).trans p2; have p3_5 := (bt5.cell (p := ⟨g, 3, none⟩) hgx).trans p3; have BT5 := Aside0.mk bt5; clear bt5; clear hb)
    | (go_at_call 57; (with_reducible refine (Put_n (Kd.C_below LX.out BT5.out) HNl.out HCc.out (C_nil _) rfl (show x ≤ n by omega) hyn hl (by omega)).mono ?_); rintro e w6 ⟨A5, c5, rfl, hC5, hc5, hb⟩; have bt6 := below_step BT5.out hb; have T5 := Aside0.mk (T3.out.below hb); have C5 := Aside0.mk hC5; have K5 := Aside0.mk hc5; clear hC5 hc5; have p0_6 := (bt6.cell (p := ⟨g, 0, none⟩) hgx).trans p0; have p1_6 := (bt6.cell (p := ⟨g, 1, none⟩) hgx).trans p1; have p2_6 := (bt6.cell (p := ⟨g, 2, none⟩) hgx).trans p2; have p3_6 := (bt6.cell (p := ⟨g, 3, none⟩) hgx).trans p3; have BT6 := Aside0.mk bt6; clear bt6; clear hb))
  refine bodyPost_ret (v := .tuple #[.pointer (some ⟨b2, 0, none⟩), .slice A5 (l.take x ++ [] ++ l.drop y).length c5, .bool true]) (by simp [results, Try.results31, go_sem]) rfl ⟨below_step BX.out BT6.out, .inr ⟨b2, A5, _, c5, _, rfl, ⟨by have := T5.out; rw [List.append_nil]; exact this, C5.out, K5.out, ((HR.out.take x).app (fun _ h => by cases h)).app (HR.out.drop y), rfl⟩, ?_⟩⟩
  have := HNl.out
  simp
  omega
set_option maxRecDepth 100000 in
set_option maxHeartbeats 8000000 in
theorem play_delbad {w : World} {adr adl : Addr} {N m cr cl b n c nz cz : Nat} {A Az : Option Addr} {l z : List Int} {f t : Int} (hP : Pair w adr adl m b A n c l) (hm : N = m + 1) (hN : N ≤ 100) (hl : n ≤ 100000) (hZ : Kd.C (Kd.int .i32) w Az nz z) (hnz : z.length = nz) (hz : nz ≤ 1000) (hrz : Runes z) (hsp : spanE (n : Int) f t = 4) :
    Calls Try.prog 31 #[.slice (some adr) N cr, .slice (some adl) N cl, .agg #[.int .i64 1, .int .i64 f, .int .i64 t, .slice Az nz cz]] w (Played (0) w) := by
  obtain ⟨r0, s0, hn, hT, hC, hc, hr⟩ := hP
  have hmn : (N : Int) - 1 = (m : Int) := by omega
  have hml : (m : Int) < (N : Int) := by omega
  have hNb : (N : Int) ≤ 100 := by omega
  have hN1 : 1 ≤ (N : Int) := by omega
  have HT := Aside0.mk hT
  have HC := Aside0.mk hC
  have HZ := Aside0.mk hZ
  have HNl := Aside0.mk hn
  have HNz := Aside0.mk hnz
  have HR := Aside0.mk hr
  have HRz := Aside0.mk hrz
  have HCc := Aside0.mk hc
  have HM := Aside0.mk hm
  clear hT hC hZ hn hnz hr hrz hm
  go_enter Try.func31, Try.ntmps31
  go_wp2
  obtain ⟨Wd, hWd⟩ : ∃ Wd, w.alloc (Obj.cells #[Value.int IntKind.i64 1, Value.int IntKind.i64 f, Value.int IntKind.i64 t, Value.slice Az nz cz] 60) = Wd := ⟨_, rfl⟩
  have m0 : Wd.cell? ⟨w.heap.size, 0, none⟩ = some (.int .i64 1) := by rw [← hWd, new_cell]; rfl
  have m1 : Wd.cell? ⟨w.heap.size, 1, none⟩ = some (.int .i64 f) := by rw [← hWd, new_cell]; rfl
  have m2 : Wd.cell? ⟨w.heap.size, 2, none⟩ = some (.int .i64 t) := by rw [← hWd, new_cell]; rfl
  have m3 : Wd.cell? ⟨w.heap.size, 3, none⟩ = some (.slice Az nz cz) := by rw [← hWd, new_cell]; rfl
  have hbd : Below w.heap.size w Wd := by rw [← hWd]; exact (Below.refl _ _).alloc (Nat.le_refl _) _
  have r1 := (hbd.cell (p := adr.add m) (World.block_lt_of_cell? w _ r0)).trans r0
  have s1 := (hbd.cell (p := adl.add m) (World.block_lt_of_cell? w _ s0)).trans s0
  have TD := Aside0.mk (HT.out.below hbd)
  have LD := Aside0.mk (Kd.C_below HC.out hbd)
  have ZD := Aside0.mk (Kd.C_below HZ.out hbd)
  have BD := Aside0.mk hbd
  rw [hWd]
  clear hWd hbd r0 s0 HT HC HZ
  generalize w.heap.size = g at m0 m1 m2 m3 ⊢
  go_quiet (fail)
  have hbx := pw_below_drewN (Below.refl Wd.heap.size Wd) nq
  have hgl := World.block_lt_of_cell? Wd _ m0
  have p0 := (hbx.cell (p := ⟨g, 0, none⟩) hgl).trans m0
  have p1 := (hbx.cell (p := ⟨g, 1, none⟩) hgl).trans m1
  have p2 := (hbx.cell (p := ⟨g, 2, none⟩) hgl).trans m2
  have p3 := (hbx.cell (p := ⟨g, 3, none⟩) hgl).trans m3
  have TX := Aside0.mk (TD.out.below hbx)
  have LX := Aside0.mk (Kd.C_below LD.out hbx)
  have ZX := Aside0.mk (Kd.C_below ZD.out hbx)
  have BX := Aside0.mk (below_step BD.out hbx)
  have hgx : g < (Wd.drewN nq).heap.size := Nat.lt_of_lt_of_le hgl hbx.size
  generalize Wd.drewN nq = X at p0 p1 p2 p3 TX LX ZX BX hgx ⊢
  clear hbx hgl m0 m1 m2 m3 TD LD ZD BD r1 s1
  obtain ⟨u, hu⟩ : ∃ u, spanE (n : Int) f f = u := ⟨_, rfl⟩
  have HU := Aside0.mk hu
  clear hu
  go_wp2_with (first
    | ((with_reducible refine gate_dst (N := 30) rfl ?_); refine Kd.R_lit (Kd.int .i32) X.heap.size 21 rfl (N := 30) rfl (xs := ([] : List Int)) (inner := []) (ok := fun _ => True) (okp := fun _ => True) ?hr (Reps.none _ _) (fun _ hk => hk) trivial (Below.refl _ X) (Nat.le_refl _) (by simp) ?_; (case hr => first | (go_simp; done) | (go_simp; rfl)); intro v1 w1 ho1 bt1 hg1 hn1; have HO1 := Aside0.mk ho1; clear hg1 hn1 ho1; have p0_1 := (bt1.cell (p := ⟨g, 0, none⟩) hgx).trans p0; have p1_1 := (bt1.cell (p := ⟨g, 1, none⟩) hgx).trans p1; have p2_1 := (bt1.cell (p := ⟨g, 2, none⟩) hgx).trans p2; have p3_1 := (bt1.cell (p := ⟨g, 3, none⟩) hgx).trans p3; have BT1 := Aside0.mk bt1; clear bt1)
    | ((with_reducible refine gate_dst (N := 33) rfl ?_); at_builtin; refine Kd.R_append_rows (Kd.int .i32) (w0 := X) X.heap.size rfl (.tmp 30) (.tmp 32) 23 21 (.int .i32 0) 4 rfl Try.underlying23 info21 rfl (by decide) (by omega) v1 [] z _ _ _ (fun _ => True) (fun _ => False) rfl rfl HO1.out (Kd.C_below ZX.out BT1.out) (fun _ _ h => h) (fun _ h => h.elim) (fun _ _ => trivial) BT1.out BT1.out.size (by simp; omega) ?_; intro v2 w2 ho2 bt2 hg2 hn2; obtain ⟨A2, c2, rfl, hC2, hc2, hm2⟩ := own_row ho2 HNz.out; have C2 := Aside0.mk hC2; have HO2 := Aside0.mk ho2; have K2 := Aside0.mk hc2; have M2 := Aside0.mk hm2; clear hg2 hn2 hC2 hc2 hm2 ho2; have p0_2 := (bt2.cell (p := ⟨g, 0, none⟩) hgx).trans p0; have p1_2 := (bt2.cell (p := ⟨g, 1, none⟩) hgx).trans p1; have p2_2 := (bt2.cell (p := ⟨g, 2, none⟩) hgx).trans p2; have p3_2 := (bt2.cell (p := ⟨g, 3, none⟩) hgx).trans p3; have BT2 := Aside0.mk bt2; clear bt2)
    | (go_at_call 55; (with_reducible refine (Wrong_n (Kd.C_below LX.out BT2.out) HNl.out HCc.out (show spanE (n : Int) f f = u from HU.out)).mono ?_); rintro e w3 ⟨rfl, hb⟩; have bt3 := below_step BT2.out hb; have p0_3 := (bt3.cell (p := ⟨g, 0, none⟩) hgx).trans p0; have p1_3 := (bt3.cell (p := ⟨g, 1, none⟩) hgx).trans p1; have p2_3 := (bt3.cell (p := ⟨g, 2, none⟩) hgx).trans p2; have p3_3 := (bt3.cell (p := ⟨g, 3, none⟩) hgx).trans p3; have BT3 := Aside0.mk bt3; clear bt3; clear hb)
    | (go_at_call 13; (with_reducible refine (Delete_bad_L (TX.out.below BT3.out) HNl.out hsp (by decide)).mono ?_); rintro e w' ⟨rfl, rfl⟩)
    | (go_at_call 55; (with_reducible refine (Wrong_n (Kd.C_below LX.out BT3.out) HNl.out HCc.out (show spanE (n : Int) f t = 4 from hsp)).mono ?_); rintro e w4 ⟨rfl, hb⟩; have bt4 := below_step BT3.out hb; have p0_4 := (bt4.cell (p := ⟨g, 0, none⟩) hgx).trans p0; have p1_4 := (bt4.cell (p := ⟨g, 1, none⟩) hgx).trans p1; have p2_4 := (bt4.cell (p := ⟨g, 2, none⟩) hgx).trans p2; have p3_4 := (bt4.cell (p := ⟨g, 3, none⟩) hgx).trans p3; have BT4 := Aside0.mk bt4; clear bt4; clear hb))
  exact bodyPost_ret (v := .tuple #[.pointer none, .slice none 0 0, .bool true]) (by simp [results, Try.results31, go_sem]) rfl ⟨below_step BX.out BT4.out, .inl rfl⟩
set_option maxRecDepth 100000 in
set_option maxHeartbeats 8000000 in
theorem play_split2 {w : World} {adr adl : Addr} {N m cr cl b n c nz cz : Nat} {A Az : Option Addr} {l z : List Int} {t : Int} {x : Nat} (hP : Pair w adr adl m b A n c l) (hm : N = m + 1) (hN : N ≤ 100) (hl : n ≤ 100000) (hZ : Kd.C (Kd.int .i32) w Az nz z) (hnz : z.length = nz) (hz : nz ≤ 1000) (hrz : Runes z) (hx : x ≤ n) :
    Calls Try.prog 31 #[.slice (some adr) N cr, .slice (some adl) N cl, .agg #[.int .i64 2, .int .i64 (x : Int), .int .i64 t, .slice Az nz cz]] w (Played (n) w) := by
  obtain ⟨r0, s0, hn, hT, hC, hc, hr⟩ := hP
  have hmn : (N : Int) - 1 = (m : Int) := by omega
  have hml : (m : Int) < (N : Int) := by omega
  have hNb : (N : Int) ≤ 100 := by omega
  have hN1 : 1 ≤ (N : Int) := by omega
  have HT := Aside0.mk hT
  have HC := Aside0.mk hC
  have HZ := Aside0.mk hZ
  have HNl := Aside0.mk hn
  have HNz := Aside0.mk hnz
  have HR := Aside0.mk hr
  have HRz := Aside0.mk hrz
  have HCc := Aside0.mk hc
  have HM := Aside0.mk hm
  clear hT hC hZ hn hnz hr hrz hm
  go_enter Try.func31, Try.ntmps31
  go_wp2
  obtain ⟨Wd, hWd⟩ : ∃ Wd, w.alloc (Obj.cells #[Value.int IntKind.i64 2, Value.int IntKind.i64 (x : Int), Value.int IntKind.i64 t, Value.slice Az nz cz] 60) = Wd := ⟨_, rfl⟩
  have m0 : Wd.cell? ⟨w.heap.size, 0, none⟩ = some (.int .i64 2) := by rw [← hWd, new_cell]; rfl
  have m1 : Wd.cell? ⟨w.heap.size, 1, none⟩ = some (.int .i64 (x : Int)) := by rw [← hWd, new_cell]; rfl
  have m2 : Wd.cell? ⟨w.heap.size, 2, none⟩ = some (.int .i64 t) := by rw [← hWd, new_cell]; rfl
  have m3 : Wd.cell? ⟨w.heap.size, 3, none⟩ = some (.slice Az nz cz) := by rw [← hWd, new_cell]; rfl
  have hbd : Below w.heap.size w Wd := by rw [← hWd]; exact (Below.refl _ _).alloc (Nat.le_refl _) _
  have r1 := (hbd.cell (p := adr.add m) (World.block_lt_of_cell? w _ r0)).trans r0
  have s1 := (hbd.cell (p := adl.add m) (World.block_lt_of_cell? w _ s0)).trans s0
  have TD := Aside0.mk (HT.out.below hbd)
  have LD := Aside0.mk (Kd.C_below HC.out hbd)
  have ZD := Aside0.mk (Kd.C_below HZ.out hbd)
  have BD := Aside0.mk hbd
  rw [hWd]
  clear hWd hbd r0 s0 HT HC HZ
  generalize w.heap.size = g at m0 m1 m2 m3 ⊢
  go_quiet (fail)
  have hbx := pw_below_drewN (Below.refl Wd.heap.size Wd) nq
  have hgl := World.block_lt_of_cell? Wd _ m0
  have p0 := (hbx.cell (p := ⟨g, 0, none⟩) hgl).trans m0
  have p1 := (hbx.cell (p := ⟨g, 1, none⟩) hgl).trans m1
  have p2 := (hbx.cell (p := ⟨g, 2, none⟩) hgl).trans m2
  have p3 := (hbx.cell (p := ⟨g, 3, none⟩) hgl).trans m3
  have TX := Aside0.mk (TD.out.below hbx)
  have LX := Aside0.mk (Kd.C_below LD.out hbx)
  have ZX := Aside0.mk (Kd.C_below ZD.out hbx)
  have BX := Aside0.mk (below_step BD.out hbx)
  have hgx : g < (Wd.drewN nq).heap.size := Nat.lt_of_lt_of_le hgl hbx.size
  generalize Wd.drewN nq = X at p0 p1 p2 p3 TX LX ZX BX hgx ⊢
  clear hbx hgl m0 m1 m2 m3 TD LD ZD BD r1 s1
  have htoM := fun W => run_toM (A := A) (c := c) hx HCc.out W
  have hfrom := fun W => run_from (A := A) (c := c) hx W
  obtain ⟨B, hB⟩ : ∃ B, restA A c x = B := ⟨_, rfl⟩
  obtain ⟨n2, hn2⟩ : ∃ k, n - x = k := ⟨_, rfl⟩
  obtain ⟨c9, hc9⟩ : ∃ k, c - x = k := ⟨_, rfl⟩
  rw [hB, hn2, hc9] at hfrom
  have HB_ := Aside0.mk hB
  have HN2 := Aside0.mk hn2
  have HC9 := Aside0.mk hc9
  clear hB hn2 hc9
  go_wp2_with (first
    | ((with_reducible refine gate_dst (N := 30) rfl ?_); refine Kd.R_lit (Kd.int .i32) X.heap.size 21 rfl (N := 30) rfl (xs := ([] : List Int)) (inner := []) (ok := fun _ => True) (okp := fun _ => True) ?hr (Reps.none _ _) (fun _ hk => hk) trivial (Below.refl _ X) (Nat.le_refl _) (by simp) ?_; (case hr => first | (go_simp; done) | (go_simp; rfl)); intro v1 w1 ho1 bt1 hg1 hn1; have HO1 := Aside0.mk ho1; clear hg1 hn1 ho1; have p0_1 := (bt1.cell (p := ⟨g, 0, none⟩) hgx).trans p0; have p1_1 := (bt1.cell (p := ⟨g, 1, none⟩) hgx).trans p1; have p2_1 := (bt1.cell (p := ⟨g, 2, none⟩) hgx).trans p2; have p3_1 := (bt1.cell (p := ⟨g, 3, none⟩) hgx).trans p3; have BT1 := Aside0.mk bt1; clear bt1)
    | ((with_reducible refine gate_dst (N := 33) rfl ?_); at_builtin; refine Kd.R_append_rows (Kd.int .i32) (w0 := X) X.heap.size rfl (.tmp 30) (.tmp 32) 23 21 (.int .i32 0) 4 rfl Try.underlying23 info21 rfl (by decide) (by omega) v1 [] z _ _ _ (fun _ => True) (fun _ => False) rfl rfl HO1.out (Kd.C_below ZX.out BT1.out) (fun _ _ h => h) (fun _ h => h.elim) (fun _ _ => trivial) BT1.out BT1.out.size (by simp; omega) ?_; intro v2 w2 ho2 bt2 hg2 hn2; obtain ⟨A2, c2, rfl, hC2, hc2, hm2⟩ := own_row ho2 HNz.out; have C2 := Aside0.mk hC2; have HO2 := Aside0.mk ho2; have K2 := Aside0.mk hc2; have M2 := Aside0.mk hm2; clear hg2 hn2 hC2 hc2 hm2 ho2; have p0_2 := (bt2.cell (p := ⟨g, 0, none⟩) hgx).trans p0; have p1_2 := (bt2.cell (p := ⟨g, 1, none⟩) hgx).trans p1; have p2_2 := (bt2.cell (p := ⟨g, 2, none⟩) hgx).trans p2; have p3_2 := (bt2.cell (p := ⟨g, 3, none⟩) hgx).trans p3; have BT2 := Aside0.mk bt2; clear bt2)
    | (go_at_call 55; (with_reducible refine (Wrong_n (Kd.C_below LX.out BT2.out) HNl.out HCc.out (show spanE (n : Int) (x : Int) (x : Int) = 0 from span_ok (Nat.le_refl _) (by omega))).mono ?_); rintro e w3 ⟨rfl, hb⟩; have bt3 := below_step BT2.out hb; have C3_ := Aside0.mk (Kd.C_below C2.out hb); have p0_3 := (bt3.cell (p := ⟨g, 0, none⟩) hgx).trans p0; have p1_3 := (bt3.cell (p := ⟨g, 1, none⟩) hgx).trans p1; have p2_3 := (bt3.cell (p := ⟨g, 2, none⟩) hgx).trans p2; have p3_3 := (bt3.cell (p := ⟨g, 3, none⟩) hgx).trans p3; have BT3 := Aside0.mk bt3; clear bt3; clear hb)
    | (go_at_call 27; (with_reducible refine (Split_L (TX.out.below BT3.out) x (by rw [HNl.out]; exact hx) (by rw [HNl.out]; omega)).mono ?_); rintro e w4 ⟨b2, b3, rfl, ht, hu, hb⟩; have bt4 := below_step BT3.out hb; have T2 := Aside0.mk ht; have U2 := Aside0.mk hu; have BS := Aside0.mk (Kd.C_below LX.out bt4); clear ht hu; have p0_4 := (bt4.cell (p := ⟨g, 0, none⟩) hgx).trans p0; have p1_4 := (bt4.cell (p := ⟨g, 1, none⟩) hgx).trans p1; have p2_4 := (bt4.cell (p := ⟨g, 2, none⟩) hgx).trans p2; have p3_4 := (bt4.cell (p := ⟨g, 3, none⟩) hgx).trans p3; have BT4 := Aside0.mk bt4; clear bt4; clear hb))
  have E1 := Aside0.mk (show (l.take x).length = x by have := HNl.out; simp; omega)
  have E2 := Aside0.mk (show (l.drop x).length = n2 by have := HNl.out; have := HN2.out; simp; omega)
  have K9 := Aside0.mk (show n2 ≤ c9 by have := HN2.out; have := HC9.out; have := HCc.out; omega)
  have CT := Aside0.mk (C_take (by have := BS.out; rw [HNl.out]; exact this : Kd.C (Kd.int .i32) w4 A l.length l) (by rw [HNl.out]; exact hx))
  have CD := Aside0.mk (C_drop (by have := BS.out; rw [HNl.out]; exact this : Kd.C (Kd.int .i32) w4 A l.length l) (by rw [HNl.out]; exact HCc.out) (by rw [HNl.out]; exact hx))
  rw [HNl.out, HN2.out, HB_.out] at CD
  have hgk : g < w4.heap.size := World.block_lt_of_cell? w4 _ p1_4
  have CTl := Aside0.mk (fun W (hW : Below w4.heap.size w4 W) => tells_n (U2.out.below hW) (Kd.C_below CD.out hW) E2.out K9.out (by have := HN2.out; omega) (HR.out.drop x))
  go_region_held3 (fun W' => W'.cell? ⟨g, 1, none⟩ = some (.int .i64 (x : Int)) ∧ Below w4.heap.size w4 W')
    (((try dsimp only); (repeat' apply And.intro); all_goals (first | assumption | exact Below.refl _ _ | exact below_drew1 (Below.refl _ _) | exact below_drew1 (pw_below_drewN (Below.refl _ _) _) | exact below_drew1 (by assumption) | exact below_step (by assumption) (by assumption) | go_keep)))
    (first | (go_at_call 29; (with_reducible refine (CTl.out _ (by (first | assumption | exact Below.refl _ _ | exact pw_below_drewN (Below.refl _ _) _ | exact below_drew1 (pw_below_drewN (Below.refl _ _) _) | exact below_drew1 (Below.refl _ _) | exact pw_below_drewN (by assumption) _ | exact below_drew1 (by assumption)))).mono ?_); rintro e w9 ⟨rfl, hb⟩; have hb9 := below_step (w := w4) (by (first | assumption | exact Below.refl _ _ | exact pw_below_drewN (Below.refl _ _) _ | exact below_drew1 (pw_below_drewN (Below.refl _ _) _) | exact below_drew1 (Below.refl _ _) | exact pw_below_drewN (by assumption) _ | exact below_drew1 (by assumption))) hb; have q9 := (hb9.cell (p := ⟨g, 1, none⟩) hgk).trans p1_4; clear hb))
  go_wp2
  refine bodyPost_ret (v := .tuple #[.pointer (some ⟨b2, 0, none⟩), .slice A x x, .bool true]) (by simp [results, Try.results31, go_sem]) rfl ⟨below_step BX.out (below_step BT4.out hb9), .inr ⟨b2, A, x, x, l.take x, rfl, ⟨T2.out.below hb9, Kd.C_below CT.out hb9, Nat.le_refl _, HR.out.take x, E1.out⟩, hx⟩⟩
set_option maxRecDepth 100000 in
set_option maxHeartbeats 8000000 in
theorem play_split3 {w : World} {adr adl : Addr} {N m cr cl b n c nz cz : Nat} {A Az : Option Addr} {l z : List Int} {t : Int} {x : Nat} (hP : Pair w adr adl m b A n c l) (hm : N = m + 1) (hN : N ≤ 100) (hl : n ≤ 100000) (hZ : Kd.C (Kd.int .i32) w Az nz z) (hnz : z.length = nz) (hz : nz ≤ 1000) (hrz : Runes z) (hx : x ≤ n) :
    Calls Try.prog 31 #[.slice (some adr) N cr, .slice (some adl) N cl, .agg #[.int .i64 3, .int .i64 (x : Int), .int .i64 t, .slice Az nz cz]] w (Played (n) w) := by
  obtain ⟨r0, s0, hn, hT, hC, hc, hr⟩ := hP
  have hmn : (N : Int) - 1 = (m : Int) := by omega
  have hml : (m : Int) < (N : Int) := by omega
  have hNb : (N : Int) ≤ 100 := by omega
  have hN1 : 1 ≤ (N : Int) := by omega
  have HT := Aside0.mk hT
  have HC := Aside0.mk hC
  have HZ := Aside0.mk hZ
  have HNl := Aside0.mk hn
  have HNz := Aside0.mk hnz
  have HR := Aside0.mk hr
  have HRz := Aside0.mk hrz
  have HCc := Aside0.mk hc
  have HM := Aside0.mk hm
  clear hT hC hZ hn hnz hr hrz hm
  go_enter Try.func31, Try.ntmps31
  go_wp2
  obtain ⟨Wd, hWd⟩ : ∃ Wd, w.alloc (Obj.cells #[Value.int IntKind.i64 3, Value.int IntKind.i64 (x : Int), Value.int IntKind.i64 t, Value.slice Az nz cz] 60) = Wd := ⟨_, rfl⟩
  have m0 : Wd.cell? ⟨w.heap.size, 0, none⟩ = some (.int .i64 3) := by rw [← hWd, new_cell]; rfl
  have m1 : Wd.cell? ⟨w.heap.size, 1, none⟩ = some (.int .i64 (x : Int)) := by rw [← hWd, new_cell]; rfl
  have m2 : Wd.cell? ⟨w.heap.size, 2, none⟩ = some (.int .i64 t) := by rw [← hWd, new_cell]; rfl
  have m3 : Wd.cell? ⟨w.heap.size, 3, none⟩ = some (.slice Az nz cz) := by rw [← hWd, new_cell]; rfl
  have hbd : Below w.heap.size w Wd := by rw [← hWd]; exact (Below.refl _ _).alloc (Nat.le_refl _) _
  have r1 := (hbd.cell (p := adr.add m) (World.block_lt_of_cell? w _ r0)).trans r0
  have s1 := (hbd.cell (p := adl.add m) (World.block_lt_of_cell? w _ s0)).trans s0
  have TD := Aside0.mk (HT.out.below hbd)
  have LD := Aside0.mk (Kd.C_below HC.out hbd)
  have ZD := Aside0.mk (Kd.C_below HZ.out hbd)
  have BD := Aside0.mk hbd
  rw [hWd]
  clear hWd hbd r0 s0 HT HC HZ
  generalize w.heap.size = g at m0 m1 m2 m3 ⊢
  go_quiet (fail)
  have hbx := pw_below_drewN (Below.refl Wd.heap.size Wd) nq
  have hgl := World.block_lt_of_cell? Wd _ m0
  have p0 := (hbx.cell (p := ⟨g, 0, none⟩) hgl).trans m0
  have p1 := (hbx.cell (p := ⟨g, 1, none⟩) hgl).trans m1
  have p2 := (hbx.cell (p := ⟨g, 2, none⟩) hgl).trans m2
  have p3 := (hbx.cell (p := ⟨g, 3, none⟩) hgl).trans m3
  have TX := Aside0.mk (TD.out.below hbx)
  have LX := Aside0.mk (Kd.C_below LD.out hbx)
  have ZX := Aside0.mk (Kd.C_below ZD.out hbx)
  have BX := Aside0.mk (below_step BD.out hbx)
  have hgx : g < (Wd.drewN nq).heap.size := Nat.lt_of_lt_of_le hgl hbx.size
  generalize Wd.drewN nq = X at p0 p1 p2 p3 TX LX ZX BX hgx ⊢
  clear hbx hgl m0 m1 m2 m3 TD LD ZD BD r1 s1
  have hto := fun W => run_to (A := A) (c := c) hx HCc.out W
  have hfrom := fun W => run_from (A := A) (c := c) hx W
  obtain ⟨B, hB⟩ : ∃ B, restA A c x = B := ⟨_, rfl⟩
  obtain ⟨n2, hn2⟩ : ∃ k, n - x = k := ⟨_, rfl⟩
  obtain ⟨c9, hc9⟩ : ∃ k, c - x = k := ⟨_, rfl⟩
  rw [hB, hn2, hc9] at hfrom
  have HB_ := Aside0.mk hB
  have HN2 := Aside0.mk hn2
  have HC9 := Aside0.mk hc9
  clear hB hn2 hc9
  go_wp2_with (first
    | ((with_reducible refine gate_dst (N := 30) rfl ?_); refine Kd.R_lit (Kd.int .i32) X.heap.size 21 rfl (N := 30) rfl (xs := ([] : List Int)) (inner := []) (ok := fun _ => True) (okp := fun _ => True) ?hr (Reps.none _ _) (fun _ hk => hk) trivial (Below.refl _ X) (Nat.le_refl _) (by simp) ?_; (case hr => first | (go_simp; done) | (go_simp; rfl)); intro v1 w1 ho1 bt1 hg1 hn1; have HO1 := Aside0.mk ho1; clear hg1 hn1 ho1; have p0_1 := (bt1.cell (p := ⟨g, 0, none⟩) hgx).trans p0; have p1_1 := (bt1.cell (p := ⟨g, 1, none⟩) hgx).trans p1; have p2_1 := (bt1.cell (p := ⟨g, 2, none⟩) hgx).trans p2; have p3_1 := (bt1.cell (p := ⟨g, 3, none⟩) hgx).trans p3; have BT1 := Aside0.mk bt1; clear bt1)
    | ((with_reducible refine gate_dst (N := 33) rfl ?_); at_builtin; refine Kd.R_append_rows (Kd.int .i32) (w0 := X) X.heap.size rfl (.tmp 30) (.tmp 32) 23 21 (.int .i32 0) 4 rfl Try.underlying23 info21 rfl (by decide) (by omega) v1 [] z _ _ _ (fun _ => True) (fun _ => False) rfl rfl HO1.out (Kd.C_below ZX.out BT1.out) (fun _ _ h => h) (fun _ h => h.elim) (fun _ _ => trivial) BT1.out BT1.out.size (by simp; omega) ?_; intro v2 w2 ho2 bt2 hg2 hn2; obtain ⟨A2, c2, rfl, hC2, hc2, hm2⟩ := own_row ho2 HNz.out; have C2 := Aside0.mk hC2; have HO2 := Aside0.mk ho2; have K2 := Aside0.mk hc2; have M2 := Aside0.mk hm2; clear hg2 hn2 hC2 hc2 hm2 ho2; have p0_2 := (bt2.cell (p := ⟨g, 0, none⟩) hgx).trans p0; have p1_2 := (bt2.cell (p := ⟨g, 1, none⟩) hgx).trans p1; have p2_2 := (bt2.cell (p := ⟨g, 2, none⟩) hgx).trans p2; have p3_2 := (bt2.cell (p := ⟨g, 3, none⟩) hgx).trans p3; have BT2 := Aside0.mk bt2; clear bt2)
    | (go_at_call 55; (with_reducible refine (Wrong_n (Kd.C_below LX.out BT2.out) HNl.out HCc.out (show spanE (n : Int) (x : Int) (x : Int) = 0 from span_ok (Nat.le_refl _) (by omega))).mono ?_); rintro e w3 ⟨rfl, hb⟩; have bt3 := below_step BT2.out hb; have C3_ := Aside0.mk (Kd.C_below C2.out hb); have p0_3 := (bt3.cell (p := ⟨g, 0, none⟩) hgx).trans p0; have p1_3 := (bt3.cell (p := ⟨g, 1, none⟩) hgx).trans p1; have p2_3 := (bt3.cell (p := ⟨g, 2, none⟩) hgx).trans p2; have p3_3 := (bt3.cell (p := ⟨g, 3, none⟩) hgx).trans p3; have BT3 := Aside0.mk bt3; clear bt3; clear hb)
    | (go_at_call 27; (with_reducible refine (Split_L (TX.out.below BT3.out) x (by rw [HNl.out]; exact hx) (by rw [HNl.out]; omega)).mono ?_); rintro e w4 ⟨b2, b3, rfl, ht, hu, hb⟩; have bt4 := below_step BT3.out hb; have T2 := Aside0.mk ht; have U2 := Aside0.mk hu; have BS := Aside0.mk (Kd.C_below LX.out bt4); clear ht hu; have p0_4 := (bt4.cell (p := ⟨g, 0, none⟩) hgx).trans p0; have p1_4 := (bt4.cell (p := ⟨g, 1, none⟩) hgx).trans p1; have p2_4 := (bt4.cell (p := ⟨g, 2, none⟩) hgx).trans p2; have p3_4 := (bt4.cell (p := ⟨g, 3, none⟩) hgx).trans p3; have BT4 := Aside0.mk bt4; clear bt4; clear hb))
  have E1 := Aside0.mk (show (l.take x).length = x by have := HNl.out; simp; omega)
  have E2 := Aside0.mk (show (l.drop x).length = n2 by have := HNl.out; have := HN2.out; simp; omega)
  have K9 := Aside0.mk (show n2 ≤ c9 by have := HN2.out; have := HC9.out; have := HCc.out; omega)
  have CT := Aside0.mk (C_take (by have := BS.out; rw [HNl.out]; exact this : Kd.C (Kd.int .i32) w4 A l.length l) (by rw [HNl.out]; exact hx))
  have CD := Aside0.mk (C_drop (by have := BS.out; rw [HNl.out]; exact this : Kd.C (Kd.int .i32) w4 A l.length l) (by rw [HNl.out]; exact HCc.out) (by rw [HNl.out]; exact hx))
  rw [HNl.out, HN2.out, HB_.out] at CD
  have hgk : g < w4.heap.size := World.block_lt_of_cell? w4 _ p1_4
  have CTl := Aside0.mk (fun W (hW : Below w4.heap.size w4 W) => tells_n (T2.out.below hW) (Kd.C_below CT.out hW) E1.out (show x ≤ c by have := HCc.out; omega) (by have := HN2.out; omega) (HR.out.take x))
  go_region_held3 (fun W' => W'.cell? ⟨g, 1, none⟩ = some (.int .i64 (x : Int)) ∧ Below w4.heap.size w4 W')
    (((try dsimp only); (repeat' apply And.intro); all_goals (first | assumption | exact Below.refl _ _ | exact below_drew1 (Below.refl _ _) | exact below_drew1 (pw_below_drewN (Below.refl _ _) _) | exact below_drew1 (by assumption) | exact below_step (by assumption) (by assumption) | go_keep)))
    (first | (go_at_call 29; (with_reducible refine (CTl.out _ (by (first | assumption | exact Below.refl _ _ | exact pw_below_drewN (Below.refl _ _) _ | exact below_drew1 (pw_below_drewN (Below.refl _ _) _) | exact below_drew1 (Below.refl _ _) | exact pw_below_drewN (by assumption) _ | exact below_drew1 (by assumption)))).mono ?_); rintro e w9 ⟨rfl, hb⟩; have hb9 := below_step (w := w4) (by (first | assumption | exact Below.refl _ _ | exact pw_below_drewN (Below.refl _ _) _ | exact below_drew1 (pw_below_drewN (Below.refl _ _) _) | exact below_drew1 (Below.refl _ _) | exact pw_below_drewN (by assumption) _ | exact below_drew1 (by assumption))) hb; have q9 := (hb9.cell (p := ⟨g, 1, none⟩) hgk).trans p1_4; clear hb))
  go_wp2
  refine bodyPost_ret (v := .tuple #[.pointer (some ⟨b3, 0, none⟩), .slice B n2 c9, .bool true]) (by simp [results, Try.results31, go_sem]) rfl ⟨below_step BX.out (below_step BT4.out hb9), .inr ⟨b3, B, n2, c9, l.drop x, rfl, ⟨U2.out.below hb9, Kd.C_below CD.out hb9, K9.out, HR.out.drop x, E2.out⟩, by have := HN2.out; omega⟩⟩
set_option maxRecDepth 100000 in
set_option maxHeartbeats 8000000 in
theorem play_split2bad {w : World} {adr adl : Addr} {N m cr cl b n c nz cz : Nat} {A Az : Option Addr} {l z : List Int} {f t : Int} (hP : Pair w adr adl m b A n c l) (hm : N = m + 1) (hN : N ≤ 100) (hl : n ≤ 100000) (hZ : Kd.C (Kd.int .i32) w Az nz z) (hnz : z.length = nz) (hz : nz ≤ 1000) (hrz : Runes z) (hsp : spanE (n : Int) f f = 4) :
    Calls Try.prog 31 #[.slice (some adr) N cr, .slice (some adl) N cl, .agg #[.int .i64 2, .int .i64 f, .int .i64 t, .slice Az nz cz]] w (Played (0) w) := by
  obtain ⟨r0, s0, hn, hT, hC, hc, hr⟩ := hP
  have hmn : (N : Int) - 1 = (m : Int) := by omega
  have hml : (m : Int) < (N : Int) := by omega
  have hNb : (N : Int) ≤ 100 := by omega
  have hN1 : 1 ≤ (N : Int) := by omega
  have HT := Aside0.mk hT
  have HC := Aside0.mk hC
  have HZ := Aside0.mk hZ
  have HNl := Aside0.mk hn
  have HNz := Aside0.mk hnz
  have HR := Aside0.mk hr
  have HRz := Aside0.mk hrz
  have HCc := Aside0.mk hc
  have HM := Aside0.mk hm
  clear hT hC hZ hn hnz hr hrz hm
  go_enter Try.func31, Try.ntmps31
  go_wp2
  obtain ⟨Wd, hWd⟩ : ∃ Wd, w.alloc (Obj.cells #[Value.int IntKind.i64 2, Value.int IntKind.i64 f, Value.int IntKind.i64 t, Value.slice Az nz cz] 60) = Wd := ⟨_, rfl⟩
  have m0 : Wd.cell? ⟨w.heap.size, 0, none⟩ = some (.int .i64 2) := by rw [← hWd, new_cell]; rfl
  have m1 : Wd.cell? ⟨w.heap.size, 1, none⟩ = some (.int .i64 f) := by rw [← hWd, new_cell]; rfl
  have m2 : Wd.cell? ⟨w.heap.size, 2, none⟩ = some (.int .i64 t) := by rw [← hWd, new_cell]; rfl
  have m3 : Wd.cell? ⟨w.heap.size, 3, none⟩ = some (.slice Az nz cz) := by rw [← hWd, new_cell]; rfl
  have hbd : Below w.heap.size w Wd := by rw [← hWd]; exact (Below.refl _ _).alloc (Nat.le_refl _) _
  have r1 := (hbd.cell (p := adr.add m) (World.block_lt_of_cell? w _ r0)).trans r0
  have s1 := (hbd.cell (p := adl.add m) (World.block_lt_of_cell? w _ s0)).trans s0
  have TD := Aside0.mk (HT.out.below hbd)
  have LD := Aside0.mk (Kd.C_below HC.out hbd)
  have ZD := Aside0.mk (Kd.C_below HZ.out hbd)
  have BD := Aside0.mk hbd
  rw [hWd]
  clear hWd hbd r0 s0 HT HC HZ
  generalize w.heap.size = g at m0 m1 m2 m3 ⊢
  go_quiet (fail)
  have hbx := pw_below_drewN (Below.refl Wd.heap.size Wd) nq
  have hgl := World.block_lt_of_cell? Wd _ m0
  have p0 := (hbx.cell (p := ⟨g, 0, none⟩) hgl).trans m0
  have p1 := (hbx.cell (p := ⟨g, 1, none⟩) hgl).trans m1
  have p2 := (hbx.cell (p := ⟨g, 2, none⟩) hgl).trans m2
  have p3 := (hbx.cell (p := ⟨g, 3, none⟩) hgl).trans m3
  have TX := Aside0.mk (TD.out.below hbx)
  have LX := Aside0.mk (Kd.C_below LD.out hbx)
  have ZX := Aside0.mk (Kd.C_below ZD.out hbx)
  have BX := Aside0.mk (below_step BD.out hbx)
  have hgx : g < (Wd.drewN nq).heap.size := Nat.lt_of_lt_of_le hgl hbx.size
  generalize Wd.drewN nq = X at p0 p1 p2 p3 TX LX ZX BX hgx ⊢
  clear hbx hgl m0 m1 m2 m3 TD LD ZD BD r1 s1
  go_wp2_with (first
    | ((with_reducible refine gate_dst (N := 30) rfl ?_); refine Kd.R_lit (Kd.int .i32) X.heap.size 21 rfl (N := 30) rfl (xs := ([] : List Int)) (inner := []) (ok := fun _ => True) (okp := fun _ => True) ?hr (Reps.none _ _) (fun _ hk => hk) trivial (Below.refl _ X) (Nat.le_refl _) (by simp) ?_; (case hr => first | (go_simp; done) | (go_simp; rfl)); intro v1 w1 ho1 bt1 hg1 hn1; have HO1 := Aside0.mk ho1; clear hg1 hn1 ho1; have p0_1 := (bt1.cell (p := ⟨g, 0, none⟩) hgx).trans p0; have p1_1 := (bt1.cell (p := ⟨g, 1, none⟩) hgx).trans p1; have p2_1 := (bt1.cell (p := ⟨g, 2, none⟩) hgx).trans p2; have p3_1 := (bt1.cell (p := ⟨g, 3, none⟩) hgx).trans p3; have BT1 := Aside0.mk bt1; clear bt1)
    | ((with_reducible refine gate_dst (N := 33) rfl ?_); at_builtin; refine Kd.R_append_rows (Kd.int .i32) (w0 := X) X.heap.size rfl (.tmp 30) (.tmp 32) 23 21 (.int .i32 0) 4 rfl Try.underlying23 info21 rfl (by decide) (by omega) v1 [] z _ _ _ (fun _ => True) (fun _ => False) rfl rfl HO1.out (Kd.C_below ZX.out BT1.out) (fun _ _ h => h) (fun _ h => h.elim) (fun _ _ => trivial) BT1.out BT1.out.size (by simp; omega) ?_; intro v2 w2 ho2 bt2 hg2 hn2; obtain ⟨A2, c2, rfl, hC2, hc2, hm2⟩ := own_row ho2 HNz.out; have C2 := Aside0.mk hC2; have HO2 := Aside0.mk ho2; have K2 := Aside0.mk hc2; have M2 := Aside0.mk hm2; clear hg2 hn2 hC2 hc2 hm2 ho2; have p0_2 := (bt2.cell (p := ⟨g, 0, none⟩) hgx).trans p0; have p1_2 := (bt2.cell (p := ⟨g, 1, none⟩) hgx).trans p1; have p2_2 := (bt2.cell (p := ⟨g, 2, none⟩) hgx).trans p2; have p3_2 := (bt2.cell (p := ⟨g, 3, none⟩) hgx).trans p3; have BT2 := Aside0.mk bt2; clear bt2)
    | (go_at_call 55; (with_reducible refine (Wrong_n (Kd.C_below LX.out BT2.out) HNl.out HCc.out (show spanE (n : Int) f f = 4 from hsp)).mono ?_); rintro e w3 ⟨rfl, hb⟩; have bt3 := below_step BT2.out hb; have p0_3 := (bt3.cell (p := ⟨g, 0, none⟩) hgx).trans p0; have p1_3 := (bt3.cell (p := ⟨g, 1, none⟩) hgx).trans p1; have p2_3 := (bt3.cell (p := ⟨g, 2, none⟩) hgx).trans p2; have p3_3 := (bt3.cell (p := ⟨g, 3, none⟩) hgx).trans p3; have BT3 := Aside0.mk bt3; clear bt3; clear hb)
    | (go_at_call 27; (with_reducible refine (Split_bad_L (TX.out.below BT3.out) HNl.out hsp (by decide)).mono ?_); rintro e w' ⟨rfl, rfl⟩))
  exact bodyPost_ret (v := .tuple #[.pointer none, .slice none 0 0, .bool true]) (by simp [results, Try.results31, go_sem]) rfl ⟨below_step BX.out BT3.out, .inl rfl⟩
set_option maxRecDepth 100000 in
set_option maxHeartbeats 8000000 in
theorem play_split3bad {w : World} {adr adl : Addr} {N m cr cl b n c nz cz : Nat} {A Az : Option Addr} {l z : List Int} {f t : Int} (hP : Pair w adr adl m b A n c l) (hm : N = m + 1) (hN : N ≤ 100) (hl : n ≤ 100000) (hZ : Kd.C (Kd.int .i32) w Az nz z) (hnz : z.length = nz) (hz : nz ≤ 1000) (hrz : Runes z) (hsp : spanE (n : Int) f f = 4) :
    Calls Try.prog 31 #[.slice (some adr) N cr, .slice (some adl) N cl, .agg #[.int .i64 3, .int .i64 f, .int .i64 t, .slice Az nz cz]] w (Played (0) w) := by
  obtain ⟨r0, s0, hn, hT, hC, hc, hr⟩ := hP
  have hmn : (N : Int) - 1 = (m : Int) := by omega
  have hml : (m : Int) < (N : Int) := by omega
  have hNb : (N : Int) ≤ 100 := by omega
  have hN1 : 1 ≤ (N : Int) := by omega
  have HT := Aside0.mk hT
  have HC := Aside0.mk hC
  have HZ := Aside0.mk hZ
  have HNl := Aside0.mk hn
  have HNz := Aside0.mk hnz
  have HR := Aside0.mk hr
  have HRz := Aside0.mk hrz
  have HCc := Aside0.mk hc
  have HM := Aside0.mk hm
  clear hT hC hZ hn hnz hr hrz hm
  go_enter Try.func31, Try.ntmps31
  go_wp2
  obtain ⟨Wd, hWd⟩ : ∃ Wd, w.alloc (Obj.cells #[Value.int IntKind.i64 3, Value.int IntKind.i64 f, Value.int IntKind.i64 t, Value.slice Az nz cz] 60) = Wd := ⟨_, rfl⟩
  have m0 : Wd.cell? ⟨w.heap.size, 0, none⟩ = some (.int .i64 3) := by rw [← hWd, new_cell]; rfl
  have m1 : Wd.cell? ⟨w.heap.size, 1, none⟩ = some (.int .i64 f) := by rw [← hWd, new_cell]; rfl
  have m2 : Wd.cell? ⟨w.heap.size, 2, none⟩ = some (.int .i64 t) := by rw [← hWd, new_cell]; rfl
  have m3 : Wd.cell? ⟨w.heap.size, 3, none⟩ = some (.slice Az nz cz) := by rw [← hWd, new_cell]; rfl
  have hbd : Below w.heap.size w Wd := by rw [← hWd]; exact (Below.refl _ _).alloc (Nat.le_refl _) _
  have r1 := (hbd.cell (p := adr.add m) (World.block_lt_of_cell? w _ r0)).trans r0
  have s1 := (hbd.cell (p := adl.add m) (World.block_lt_of_cell? w _ s0)).trans s0
  have TD := Aside0.mk (HT.out.below hbd)
  have LD := Aside0.mk (Kd.C_below HC.out hbd)
  have ZD := Aside0.mk (Kd.C_below HZ.out hbd)
  have BD := Aside0.mk hbd
  rw [hWd]
  clear hWd hbd r0 s0 HT HC HZ
  generalize w.heap.size = g at m0 m1 m2 m3 ⊢
  go_quiet (fail)
  have hbx := pw_below_drewN (Below.refl Wd.heap.size Wd) nq
  have hgl := World.block_lt_of_cell? Wd _ m0
  have p0 := (hbx.cell (p := ⟨g, 0, none⟩) hgl).trans m0
  have p1 := (hbx.cell (p := ⟨g, 1, none⟩) hgl).trans m1
  have p2 := (hbx.cell (p := ⟨g, 2, none⟩) hgl).trans m2
  have p3 := (hbx.cell (p := ⟨g, 3, none⟩) hgl).trans m3
  have TX := Aside0.mk (TD.out.below hbx)
  have LX := Aside0.mk (Kd.C_below LD.out hbx)
  have ZX := Aside0.mk (Kd.C_below ZD.out hbx)
  have BX := Aside0.mk (below_step BD.out hbx)
  have hgx : g < (Wd.drewN nq).heap.size := Nat.lt_of_lt_of_le hgl hbx.size
  generalize Wd.drewN nq = X at p0 p1 p2 p3 TX LX ZX BX hgx ⊢
  clear hbx hgl m0 m1 m2 m3 TD LD ZD BD r1 s1
  go_wp2_with (first
    | ((with_reducible refine gate_dst (N := 30) rfl ?_); refine Kd.R_lit (Kd.int .i32) X.heap.size 21 rfl (N := 30) rfl (xs := ([] : List Int)) (inner := []) (ok := fun _ => True) (okp := fun _ => True) ?hr (Reps.none _ _) (fun _ hk => hk) trivial (Below.refl _ X) (Nat.le_refl _) (by simp) ?_; (case hr => first | (go_simp; done) | (go_simp; rfl)); intro v1 w1 ho1 bt1 hg1 hn1; have HO1 := Aside0.mk ho1; clear hg1 hn1 ho1; have p0_1 := (bt1.cell (p := ⟨g, 0, none⟩) hgx).trans p0; have p1_1 := (bt1.cell (p := ⟨g, 1, none⟩) hgx).trans p1; have p2_1 := (bt1.cell (p := ⟨g, 2, none⟩) hgx).trans p2; have p3_1 := (bt1.cell (p := ⟨g, 3, none⟩) hgx).trans p3; have BT1 := Aside0.mk bt1; clear bt1)
    | ((with_reducible refine gate_dst (N := 33) rfl ?_); at_builtin; refine Kd.R_append_rows (Kd.int .i32) (w0 := X) X.heap.size rfl (.tmp 30) (.tmp 32) 23 21 (.int .i32 0) 4 rfl Try.underlying23 info21 rfl (by decide) (by omega) v1 [] z _ _ _ (fun _ => True) (fun _ => False) rfl rfl HO1.out (Kd.C_below ZX.out BT1.out) (fun _ _ h => h) (fun _ h => h.elim) (fun _ _ => trivial) BT1.out BT1.out.size (by simp; omega) ?_; intro v2 w2 ho2 bt2 hg2 hn2; obtain ⟨A2, c2, rfl, hC2, hc2, hm2⟩ := own_row ho2 HNz.out; have C2 := Aside0.mk hC2; have HO2 := Aside0.mk ho2; have K2 := Aside0.mk hc2; have M2 := Aside0.mk hm2; clear hg2 hn2 hC2 hc2 hm2 ho2; have p0_2 := (bt2.cell (p := ⟨g, 0, none⟩) hgx).trans p0; have p1_2 := (bt2.cell (p := ⟨g, 1, none⟩) hgx).trans p1; have p2_2 := (bt2.cell (p := ⟨g, 2, none⟩) hgx).trans p2; have p3_2 := (bt2.cell (p := ⟨g, 3, none⟩) hgx).trans p3; have BT2 := Aside0.mk bt2; clear bt2)
    | (go_at_call 55; (with_reducible refine (Wrong_n (Kd.C_below LX.out BT2.out) HNl.out HCc.out (show spanE (n : Int) f f = 4 from hsp)).mono ?_); rintro e w3 ⟨rfl, hb⟩; have bt3 := below_step BT2.out hb; have p0_3 := (bt3.cell (p := ⟨g, 0, none⟩) hgx).trans p0; have p1_3 := (bt3.cell (p := ⟨g, 1, none⟩) hgx).trans p1; have p2_3 := (bt3.cell (p := ⟨g, 2, none⟩) hgx).trans p2; have p3_3 := (bt3.cell (p := ⟨g, 3, none⟩) hgx).trans p3; have BT3 := Aside0.mk bt3; clear bt3; clear hb)
    | (go_at_call 27; (with_reducible refine (Split_bad_L (TX.out.below BT3.out) HNl.out hsp (by decide)).mono ?_); rintro e w' ⟨rfl, rfl⟩))
  exact bodyPost_ret (v := .tuple #[.pointer none, .slice none 0 0, .bool true]) (by simp [results, Try.results31, go_sem]) rfl ⟨below_step BX.out BT3.out, .inl rfl⟩
end
end Go.Proofs.Ytenjldfflkinkaa.Rop
