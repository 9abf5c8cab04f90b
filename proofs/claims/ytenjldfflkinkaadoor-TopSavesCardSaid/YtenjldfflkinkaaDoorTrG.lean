/- The texts FGRdF, FGLawJ, FGLawW, FGLawT, FGLawU, FGLawC, FGRdG, FGRdH, FGRdI, FGRdO, FGRdJ, FGRdW, Umb, in one: what the law does not need is left out. -/
import Derived.Test.YtenjldfflkinkaaDoorTrF
import Derived.Tactics2
import Derived.Defers
import Derived.Recover
set_option linter.unusedVariables false
set_option linter.unusedSimpArgs false
namespace Go.Proofs.YtenjldfflkinkaaDoor.Sav
set_option linter.unusedVariables false
set_option linter.unusedSimpArgs false
open Go.RowKit Go.Proofs.YtenjldfflkinkaaDoor.F Go.Proofs.YtenjldfflkinkaaDoorW.PrintWords Go.Proofs.YtenjldfflkinkaaDoorW.PrintLast Go.Proofs.YtenjldfflkinkaaDoorW.PrintMore
open Go.Proofs.YtenjldfflkinkaaDoor.Rop (Sl Ch ChV CV ChAt Rc Ro SV SP StOk rightE scl NoI noI_sl noI_64 blk_noI Put1 own_sl upd upd_same upd_ne But C3 Rg Right_calls goesT)
/-- nothing has fallen: recover tells nil -/
theorem caught_idle (p : Addr) (w : World) :
    CallsD Tryd.prog 70 #[.pointer (some p)] .returning w fun e u' w' => e = .returned (.tuple #[]) ∧ u' = .returning ∧ w' = w := by
  refine callsD_of_wpS Tryd.func70 rfl fun c₀ cs hu => ?_
  apply wpS_seq
  apply wpS_region
  simp [wpOpsS, go_sem, recoverD, hu, Tryd.ntmps70, Exit.thenS]
  apply wpS_seq
  apply wpS_region
  simp [wpOpsS, go_sem, Exit.thenS]
  refine wpS_cond (t := false) (by simp [Act.eval, Array.replicate]) ?_
  simp only [Bool.false_eq_true, if_false]
  refine wpS_of_wp (wp_skip ?_)
  cases c₀
  simp_all [bodyPostS, results, Tryd.results70]
set_option maxRecDepth 100000 in
theorem caught_calls {w : World} {x1 x2 x3 : Value} {P : World → Prop} (hC : Calls Tryd.prog 41 #[x1, x2, x3] (w.alloc (.cells #[.int .i64 0] 25)) (fun e w' => e = .returned (.tuple #[]) ∧ w'.heap[w.heap.size]? = some (.cells #[.int .i64 0] 25 (0, 0)) ∧ P w')) :
    Calls Tryd.prog 40 #[.func (.func 41) #[] #[x1, x2, x3]] w fun e w' => e = .returned (.int .i64 0) ∧ ∃ W1, P W1 ∧ W1.heap[w.heap.size]? = some (.cells #[.int .i64 0] 25 (0, 0)) ∧ w' = W1.setCell ⟨w.heap.size, 0, none⟩ (.int .i64 0) := by
  have hmf : ∀ (fn : Fn) (first cap : Array Value) (w : World), (Instr.makeFunc fn first cap).run Tryd.prog w = .ok (.func fn first cap) w := fun _ _ _ _ => rfl
  have HC := Aside0.mk hC
  clear hC
  go_enter_defers Tryd.func40, Tryd.ntmps40
  go_wp2_with (go_at_call 41; (with_reducible refine HC.out.mono ?_); rintro e w1 ⟨rfl, hk, hP⟩; have m0 : w1.cell? ⟨w.heap.size, 0, none⟩ = some (.int .i64 0) := blk_cell hk 0; have f0 : w1.frozen? ⟨w.heap.size, 0, none⟩ = false := blk_frozen hk 0; have HP := Aside0.mk hP; have HK := Aside0.mk hk; clear hP hk)
  refine leaves_cons (f := 70) (args := #[.pointer (some ⟨w.heap.size, 0, none⟩)]) (by simp) (by simp [go_sem]) ?_
  refine (caught_idle ⟨w.heap.size, 0, none⟩ _).mono ?_
  rintro e u' w'' ⟨rfl, rfl, rfl⟩
  have m1 := World.cell?_setCell_same w1 ⟨w.heap.size, 0, none⟩ (Value.int .i64 0) m0
  simp [Leaves, settle, results, Tryd.results40, go_sem, m0, m1]
  exact ⟨w1, HP.out, HK.out, rfl⟩
/-- what is written is what was there -/
theorem setCell_same {W : World} {g i t : Nat} {cs : Array Value} {u : Value} (hg : W.heap[g]? = some (.cells cs t (0, 0))) (hi : cs[i]? = some u) : W.setCell ⟨g, i, none⟩ u = W := by
  have h1 : cs.setIfInBounds i u = cs := by
    refine Array.ext_getElem? fun j => ?_
    rw [Array.getElem?_setIfInBounds]
    split
    · rename_i e
      subst e
      rw [hi]
      have := (Array.getElem?_eq_some_iff.1 hi).1
      simp [this]
    · rfl
  have h2 : (W.setCell ⟨g, i, none⟩ u).heap = W.heap := by
    refine Array.ext_getElem? fun k => ?_
    by_cases e : k = g
    · subst e
      rw [set_blk hg, hg, h1]
    · exact Below.heap_setCell _ _ _ _ e
  have h3 : W.setCell ⟨g, i, none⟩ u = { W with heap := (W.setCell ⟨g, i, none⟩ u).heap } := rfl
  rw [h3, h2]
theorem size34 : (Tryd.prog.info? 34).map (·.size) = some 3 := by kernel_rfl
theorem size3 : (Tryd.prog.info? 3).map (·.size) = some 1 := by kernel_rfl
/-- a state that is written where it stands -/
theorem store_st {w : World} {g : Nat} {A B C : Option Addr} {n c n1 c1 n2 c2 : Nat} (h : C3 w g (.slice A n c) (.slice B n1 c1) (.slice C n2 c2)) : (Instr.storeAt 34 (.pointer (some ⟨g, 0, none⟩)) (.agg #[.slice A n c, .slice B n1 c1, .slice C n2 c2])).run Tryd.prog w = .ok () w := by
  have h1 := run_store_run (P := Tryd.prog) (o := 0) 34 (.agg #[.slice A n c, .slice B n1 c1, .slice C n2 c2]) [.slice A n c, .slice B n1 c1, .slice C n2 c2] h (by simp [Value.cells]) size34 (by simp) (fun q hq => by simp at hq; rcases hq with rfl | rfl | rfl <;> rfl)
  refine h1.trans ?_
  have e0 : w.setCell ⟨g, 0, none⟩ (.slice A n c) = w := setCell_same h rfl
  have e1 : w.setCell ⟨g, 1, none⟩ (.slice B n1 c1) = w := setCell_same h rfl
  have e2 : w.setCell ⟨g, 2, none⟩ (.slice C n2 c2) = w := setCell_same h rfl
  have e3 : w.setCells g 0 [.slice A n c, .slice B n1 c1, .slice C n2 c2] = ((w.setCell ⟨g, 0, none⟩ (.slice A n c)).setCell ⟨g, 1, none⟩ (.slice B n1 c1)).setCell ⟨g, 2, none⟩ (.slice C n2 c2) := rfl
  rw [e3, e0, e1, e2]
set_option linter.unusedSectionVars false
variable [Coe Unit Nat]
theorem chR_of {w : World} {A : Option Addr} {n c : Nat} {vs : Nat → CV} {xs : Nat → Ch} (h : Rc w A n c vs xs) (hs : ∀ i, i < n → (vs i).n ≤ 5000 ∧ (vs i).m ≤ 5000) (h1 : ∀ i, i < n → (∀ r ∈ (xs i).gone, scal r) ∧ (∀ r ∈ (xs i).came, scal r)) (h2 : ∀ i, i < n → 0 ≤ (xs i).at_ ∧ (xs i).at_ ≤ 2147483647) : ∀ i, i < n → ChR (xs i) := fun i hi => by
  obtain ⟨ad, hA, hat⟩ := h.at_ i hi
  have h3 := hat.h.g.hn
  have h4 := hat.h.k.hn
  have h5 := hs i hi
  exact ⟨h2 i hi, (h1 i hi).1, (h1 i hi).2, by omega, by omega⟩
set_option maxRecDepth 100000 in
set_option maxHeartbeats 8000000 in
theorem ReadState_calls {w : World} {v : SV} {s : SP} {k : Int} {Ab : Option Addr} {nb cb : Nat} (hS : Sb w Ab nb cb (stateB k v s)) (hnb : nb ≤ 1000000) (h : StOk w v s) (hr : rightE v s = 0) (hk : 0 ≤ k ∧ k ≤ 2147483647) :
    Calls Tryd.prog 13 #[.slice Ab nb cb] w fun e w' => ∃ A n c A1 c1 v1 A2 c2 v2, e = .returned (.tuple #[.int .i64 k, .agg #[.slice A n c, .slice A1 v.n1 c1, .slice A2 v.n2 c2], .int .i64 0]) ∧ n = v.n ∧ StOk w' ⟨A, n, c, A1, v.n1, c1, A2, v.n2, c2, v1, v2⟩ s ∧ Below w.heap.size w w' := by
  have HRT := Rt.of hr
  have HR4 := Rg4.of h.t.hn hr
  have hpos1 := ahead_pos _ _ (by have := HR4.n; omega) HR4.g1
  have hpos2 := ahead_pos _ _ (by have := HR4.n; omega) HR4.g2
  have X1 := chR_of h.u h.s1 HRT.x1 hpos1
  have X2 := chR_of h.r h.s2 HRT.x2 hpos2
  have hn12 := HRT.n12
  have hTN := h.t.hn
  have hSC := HRT.t
  have HN4 := HRT.n
  have HV := Aside0.mk hTN
  have HR4' := Aside0.mk HR4
  clear h hr HRT hpos1 hpos2 HR4
  obtain ⟨A0, n0, c0, A10, n1, c10, A20, n2, c20, v10, v20⟩ := v
  dsimp only at *
  have hmf : ∀ (fn : Fn) (first cap : Array Value) (w : World), (Instr.makeFunc fn first cap).run Tryd.prog w = .ok (.func fn first cap) w := fun _ _ _ _ => rfl
  have HS := Aside0.mk hS
  clear hS
  go_enter Tryd.func13, Tryd.ntmps13
  go_upto_region 2 with (fail)
  obtain ⟨D, hD⟩ : ∃ D, ((((w.alloc (.cells #[.int .i64 0] 3)).alloc (.cells #[.slice none 0 0, .slice none 0 0, .slice none 0 0] 34)).alloc (.cells #[.slice Ab nb cb] 100)).alloc (.cells #[.pointer (some ⟨w.heap.size + 1 + 1, 0, none⟩)] 98)) = D := ⟨_, rfl⟩
  rw [hD]
  have b1 : Below w.heap.size w (w.alloc (.cells #[.int .i64 0] 3)) := below_alloc (Below.refl _ _) _
  obtain ⟨D1, hD1⟩ : ∃ D1, w.alloc (.cells #[.int .i64 0] 3) = D1 := ⟨_, rfl⟩
  have z1 : D1.heap.size = w.heap.size + 1 := by rw [← hD1, World.size_alloc]
  have k1 : D1.heap[w.heap.size]? = some (.cells #[.int .i64 0] 3 (0, 0)) := by rw [← hD1]; exact World.alloc_heap_new _ _
  rw [hD1] at hD b1
  have b2 : Below D1.heap.size D1 (D1.alloc (.cells #[.slice none 0 0, .slice none 0 0, .slice none 0 0] 34)) := below_alloc (Below.refl _ _) _
  obtain ⟨D2, hD2⟩ : ∃ D2, D1.alloc (.cells #[.slice none 0 0, .slice none 0 0, .slice none 0 0] 34) = D2 := ⟨_, rfl⟩
  have z2 : D2.heap.size = w.heap.size + 2 := by rw [← hD2, World.size_alloc, z1]
  have k2 : D2.heap[w.heap.size + 1]? = some (.cells #[.slice none 0 0, .slice none 0 0, .slice none 0 0] 34 (0, 0)) := by rw [← hD2, ← z1]; exact World.alloc_heap_new _ _
  rw [hD2] at hD b2
  have b3 : Below D2.heap.size D2 (D2.alloc (.cells #[.slice Ab nb cb] 100)) := below_alloc (Below.refl _ _) _
  obtain ⟨D3, hD3⟩ : ∃ D3, D2.alloc (.cells #[.slice Ab nb cb] 100) = D3 := ⟨_, rfl⟩
  have z3 : D3.heap.size = w.heap.size + 3 := by rw [← hD3, World.size_alloc, z2]
  have k3 : D3.heap[w.heap.size + 2]? = some (.cells #[.slice Ab nb cb] 100 (0, 0)) := by rw [← hD3, ← z2]; exact World.alloc_heap_new _ _
  rw [hD3] at hD b3
  have b4 : Below D3.heap.size D3 (D3.alloc (.cells #[.pointer (some ⟨w.heap.size + 1 + 1, 0, none⟩)] 98)) := below_alloc (Below.refl _ _) _
  have k4 : (D3.alloc (.cells #[.pointer (some ⟨w.heap.size + 1 + 1, 0, none⟩)] 98)).heap[w.heap.size + 3]? = some (.cells #[.pointer (some ⟨w.heap.size + 1 + 1, 0, none⟩)] 98 (0, 0)) := by rw [← z3]; exact World.alloc_heap_new _ _
  rw [hD] at b4 k4
  have z4 : D.heap.size = w.heap.size + 4 := by rw [← hD, World.size_alloc, z3]
  have b34 := below_step b3 b4
  have b24 := below_step b2 b34
  have b14 := below_step b1 b24
  replace k3 := blk_below k3 b4
  replace k2 := blk_below k2 b34
  replace k1 := blk_below k1 b24
  clear hD hD1 hD2 hD3 b1 b2 b3 b4 b34 b24 z1 z2 z3
  obtain ⟨E5, hE5⟩ : ∃ E5, D.alloc (.cells #[.int .i64 0] 25) = E5 := ⟨_, rfl⟩
  have b5 : Below D.heap.size D E5 := by rw [← hE5]; exact below_alloc (Below.refl _ _) _
  have k5 : E5.heap[D.heap.size]? = some (.cells #[.int .i64 0] 25 (0, 0)) := by rw [← hE5]; exact World.alloc_heap_new _ _
  obtain ⟨gc, hgc⟩ : ∃ gc, w.heap.size = gc := ⟨_, rfl⟩
  have HGC := Aside0.mk hgc
  obtain ⟨gs, hgs⟩ : ∃ gs, gc + 1 = gs := ⟨_, rfl⟩
  obtain ⟨g, hg⟩ : ∃ g, gs + 1 = g := ⟨_, rfl⟩
  obtain ⟨g0, hg0⟩ : ∃ g0, g + 1 = g0 := ⟨_, rfl⟩
  rw [hgc] at k1 k2 k3 k4 z4 ⊢
  rw [show gc + 2 = g by omega] at k3
  rw [show gc + 3 = g0 by omega] at k4
  rw [hgs] at k2 k4 ⊢
  rw [hg] at k4 ⊢
  rw [hg0]
  have HBX : Aside0 (Bx w E5 E5 g g0 gc gs 0 (.slice none 0 0) (.slice none 0 0) (.slice none 0 0) (stateB k ⟨A0, n0, c0, A10, n1, c10, A20, n2, c20, v10, v20⟩ s)) := ⟨⟨blk_below k4 b5, blk_below k1 b5, blk_below k2 b5, ⟨Ab, nb, cb, hnb, blk_below k3 b5, HS.out, by omega, below_step b14 b5⟩, by omega, by omega, Kb.refl _ _ _ _⟩⟩
  have HDS : Aside0 (g < D.heap.size ∧ gc < D.heap.size ∧ gs < D.heap.size ∧ w.heap.size ≤ D.heap.size) := ⟨⟨by omega, by omega, by omega, by omega⟩⟩
  have CRS := RS1_calls (v := ⟨A0, n0, c0, A10, n1, c10, A20, n2, c20, v10, v20⟩) (s := s) (k := k) HBX.out hk (by omega) hSC (by dsimp only; omega) (by dsimp only; omega) X1 X2 (by have := b5.size; have := HDS.out.2.2.2; omega)
  rw [← hE5] at CRS
  have CCA := Aside0.mk (caught_calls (CRS.mono (by
    rintro e w' ⟨rfl, h⟩
    refine ⟨rfl, ?_, h⟩
    obtain ⟨A, n, c, A1, c1, v1, A2, c2, v2, hB, _⟩ := h
    rw [hE5] at hB
    refine (hB.kb.at_ D.heap.size (by have := blk_lt k5; exact this) ?_ ?_ ?_).trans k5
    · have := HDS.out; omega
    · have := HDS.out; omega
    · have := HDS.out; omega)))
  rw [hE5] at CCA
  clear CRS k1 k2 k3 k4 z4 b14 b5 k5 hgs hg hg0 hE5 X1 X2 hSC HBX
  go_upto_region 3 with (go_at_call 40; (with_reducible refine CCA.out.mono ?_); rintro e w1 ⟨rfl, W1, ⟨A, n, c, A1, c1, v1, A2, c2, v2, hB, hSl, hO1, hO2⟩, hE, rfl⟩; rw [setCell_same hE rfl]; have HB := Aside0.mk hB; have HSl := Aside0.mk hSl; have HO1 := Aside0.mk hO1; have HO2 := Aside0.mk hO2; clear hB hSl hO1 hO2 hE)
  try dsimp only at *
  have hn : n = s.text.length := HSl.out.hn.symm
  have HST : Aside0 (StOk W1 ⟨A, n, c, A1, n1, c1, A2, n2, c2, v1, v2⟩ s) := ⟨⟨HSl.out, HO1.out.rc, HO2.out.rc, (by dsimp only; omega), (by dsimp only; omega), (by dsimp only; omega), HO1.out.sz, HO2.out.sz⟩⟩
  have hre : rightE ⟨A, n, c, A1, n1, c1, A2, n2, c2, v1, v2⟩ s = 0 := Rg4.right hn.symm HR4'.out
  have CR := Right_calls HST.out
  rw [hre] at CR
  dsimp only [SV.val] at CR
  have CR' := Aside0.mk CR
  have HBL := Aside0.mk (by obtain ⟨A, n, c, hn, h⟩ := HB.out.r; exact h.hb : Below w.heap.size w W1)
  have q0 : W1.cell? ⟨gs, 0, none⟩ = some (.slice A n c) := blk_cell HB.out.ks 0
  have q1 : W1.cell? ⟨gs, 1, none⟩ = some (.slice A1 n1 c1) := blk_cell HB.out.ks 1
  have q2 : W1.cell? ⟨gs, 2, none⟩ = some (.slice A2 n2 c2) := blk_cell HB.out.ks 2
  have HN := Aside0.mk (hn.trans HV.out)
  have hk1 := hk.1
  have hk2 := hk.2
  clear CR hre hn hTN HN4 hn12 hk CCA
  go_upto_region 7 with (go_at_call 22; (with_reducible refine CR'.out.mono ?_); rintro e w2 ⟨rfl, hb2⟩; have HB2 := Aside0.mk (HB.out.below hb2); have HS2 := Aside0.mk (HST.out.below hb2); have HBL2 := Aside0.mk (below_step HBL.out hb2); clear hb2)
  clear q0 q1 q2
  refine start_ (n := 5) (S := fun w' => C3 w' gs (.slice A n c) (.slice A1 n1 c1) (.slice A2 n2 c2) ∧ w'.heap[gc]? = some (.cells #[.int .i64 k] 3 (0, 0))) (ds := []) #[false, false, false, false, false] (by kernel_rfl) rfl rfl ⟨HB2.out.ks, HB2.out.kc⟩ (fun hHeld => ?_)
  have HS3 := Aside0.mk (HS2.out.below (below_drew1 (Below.refl _ w2)))
  have HBL3 := Aside0.mk (below_drew1 HBL2.out)
  generalize w2.drew = D9 at HS3 HBL3 hHeld ⊢
  refine take_ (i := 0) (N := some 19) (v := ?_) (a' := ?_) #[true, false, false, false, false] rfl rfl (by kernel_rfl) (fun _ _ _ h => h) (Or.inl ⟨by rfl, ?_⟩) hHeld ?_ ?_
  rotate_left
  · rintro w' ⟨h1, h2⟩
    have c0 : w'.cell? ⟨gc, 0, none⟩ = some (.int .i64 k) := blk_cell h2 0
    go_simp
    with_reducible rfl
  rotate_left
  · simp only [Act.put, List.setIfInBounds_toArray, List.set_cons_zero, List.set_cons_succ, i64_w, i32_w]
    rfl
  refine take_ (i := 1) (N := some 20) (v := ?_) (a' := ?_) #[true, true, false, false, false] rfl rfl (by kernel_rfl) (fun _ _ _ h => h) (Or.inl ⟨by rfl, ?_⟩) hHeld ?_ ?_
  rotate_left
  · rintro w' ⟨h1, h2⟩
    have c0 : w'.cell? ⟨gs, 0, none⟩ = some (.slice A n c) := blk_cell h1 0
    have c1 : w'.cell? ⟨gs, 1, none⟩ = some (.slice A1 n1 c1) := blk_cell h1 1
    have c2 : w'.cell? ⟨gs, 2, none⟩ = some (.slice A2 n2 c2) := blk_cell h1 2
    go_simp
    with_reducible rfl
  rotate_left
  · simp only [Act.put, List.setIfInBounds_toArray, List.set_cons_zero, List.set_cons_succ, i64_w, i32_w]
    rfl
  refine one_ (i := 2) (N := none) #[true, true, true, false, false] rfl rfl (by kernel_rfl) (by decide) (fun K hK => ?_)
  refine step_store rfl rfl rfl rfl rfl ((store_1 (u := .int .i64 k) hHeld.2 size3 (by simp) rfl rfl).trans (by rw [setCell_same hHeld.2 rfl])) ?_
  refine hK.out _ _ hHeld (fun hHeld => ?_)
  clear hK K
  refine one_ (i := 3) (N := none) #[true, true, true, true, false] rfl rfl (by kernel_rfl) (by decide) (fun K hK => ?_)
  refine step_store rfl rfl rfl rfl rfl (store_st hHeld.1) ?_
  refine hK.out _ _ hHeld (fun hHeld => ?_)
  clear hK K
  refine pure_ (i := 4) (N := some 4) (v := ?_) (a' := ?_) #[true, true, true, true, true] rfl rfl (by kernel_rfl) (fun _ _ _ h => h) (Or.inl ⟨by rfl, ?_⟩) ?_ ?_
  rotate_left
  · intro w'
    go_simp
    with_reducible rfl
  rotate_left
  · simp only [Act.put, List.setIfInBounds_toArray, List.set_cons_zero, List.set_cons_succ, i64_w, i32_w]
    rfl
  refine done_ (by kernel_rfl) ?_
  go_wp2
  have c0 : D9.cell? ⟨gc, 0, none⟩ = some (.int .i64 k) := blk_cell hHeld.2 0
  have d0 : D9.cell? ⟨gs, 0, none⟩ = some (.slice A n c) := blk_cell hHeld.1 0
  have d1 : D9.cell? ⟨gs, 1, none⟩ = some (.slice A1 n1 c1) := blk_cell hHeld.1 1
  have d2 : D9.cell? ⟨gs, 2, none⟩ = some (.slice A2 n2 c2) := blk_cell hHeld.1 2
  refine bodyPost_ret (v := .tuple #[.int .i64 k, .agg #[.slice A n c, .slice A1 n1 c1, .slice A2 n2 c2], .int .i64 0]) (by simp [results, Tryd.results13, go_sem, c0, d0, d1, d2]) rfl ?_
  exact ⟨A, n, c, A1, c1, v1, A2, c2, v2, rfl, HN.out, HS3.out, HBL3.out⟩
end Go.Proofs.YtenjldfflkinkaaDoor.Sav

namespace Go.Proofs.YtenjldfflkinkaaDoor.Sav
set_option linter.unusedVariables false
set_option linter.unusedSimpArgs false
theorem chunk_take (b : List Int) (tag : Int) (k : Nat) : (chunkL b tag k).take 60 = chunkP b tag k := by
  unfold chunkL
  rw [List.take_append_of_le_length (by rw [chunkP_len]; exact Nat.le_refl _), List.take_of_length_le (by rw [chunkP_len]; exact Nat.le_refl _)]
theorem chunk_drop (b : List Int) (tag : Int) (k : Nat) : (chunkL b tag k).drop 60 = crc4 (chunkP b tag k) := by
  unfold chunkL
  rw [List.drop_append_of_le_length (by rw [chunkP_len]; exact Nat.le_refl _), List.drop_of_length_le (by rw [chunkP_len]; exact Nat.le_refl _), List.nil_append]
theorem own_chunk (b : List Int) (tag : Int) (k : Nat) : ownB (chunkL b tag k) = (b.drop (54 * k)).take 54 ++ List.replicate (54 - ((b.drop (54 * k)).take 54).length) 0 := by
  unfold ownB
  rw [chunk_take]
  rfl
theorem good_chunk (b : List Int) (tag : Int) (k : Nat) : Good (chunkL b tag k) k tag b.length := by
  refine ⟨⟨?_, ?_⟩, ?_⟩
  · rw [chunk_drop, chunk_take]
  · rw [chunk_take]
    rfl
  · intro x hx
    rw [own_chunk] at hx
    have hl : ((b.drop (54 * k)).take 54).length = min 54 (b.length - 54 * k) := by rw [List.length_take, List.length_drop]
    rw [← hl, List.drop_append_of_le_length (Nat.le_refl _), List.drop_of_length_le (Nat.le_refl _), List.nil_append] at hx
    exact (List.mem_replicate.1 hx).2
theorem cut_get (b : List Int) (tag : Int) (n k : Nat) (h : k < n) : (cutL b tag n).getD k [] = chunkL b tag k := by
  rw [List.getD_eq_getElem?_getD, List.getElem?_eq_getElem (by rw [cutL_len]; exact h)]
  simp [cutL]
theorem cut_ok (b : List Int) (tag : Int) (n : Nat) : JoinOk (cutL b tag n) tag b.length := fun k hk => by
  rw [cutL_len] at hk
  rw [cut_get _ _ _ _ hk]
  exact good_chunk b tag k
theorem join_cut (b : List Int) (tag : Int) (n : Nat) : ∀ i, i ≤ n → joinL (cutL b tag n) b.length i = b.take (54 * i) := by
  intro i
  induction i with
  | zero => intro _; simp [joinL]
  | succ i ih =>
    intro hi
    unfold joinL
    rw [ih (by omega), cut_get _ _ _ _ (by omega), own_chunk]
    have hl : ((b.drop (54 * i)).take 54).length = min 54 (b.length - 54 * i) := by rw [List.length_take, List.length_drop]
    rw [← hl, List.take_append_of_le_length (Nat.le_refl _), List.take_of_length_le (Nat.le_refl _)]
    rw [show 54 * (i + 1) = 54 * i + 54 by omega, List.take_add]
theorem join_all (b : List Int) (tag : Int) : joinL (cutL b tag ((b.length + 53) / 54)) b.length ((b.length + 53) / 54) = b := by
  rw [join_cut _ _ _ _ (Nat.le_refl _), List.take_of_length_le (by omega)]
end Go.Proofs.YtenjldfflkinkaaDoor.Sav

namespace Go.Proofs.YtenjldfflkinkaaDoor.Sav
set_option linter.unusedVariables false
set_option linter.unusedSimpArgs false
theorem num4_big4 (e : Int) (l : List Int) (h : 0 ≤ e ∧ e ≤ 2147483647) : num4 (big4 e ++ l) = e := by
  have h1 : num4 (big4 e ++ l) = e / 16777216 % 256 * 16777216 + e / 65536 % 256 * 65536 + e / 256 % 256 * 256 + e % 256 := rfl
  rw [h1]
  omega
theorem head_num (k e n : Int) (h : 0 ≤ e ∧ e ≤ 2147483647) : num4 (headB k e n) = e := by
  unfold headB headA
  simp only [List.append_assoc]
  exact num4_big4 e _ h
theorem head_drop (k e n : Int) (h : 0 ≤ n ∧ n ≤ 2147483647) : num4 ((headB k e n).drop 9) = n := by
  unfold headB headA
  simp only [List.append_assoc]
  exact num4_big4 n _ h
/-- slot k holds b, whole, of epoch e -/
structure Whole (L : List (List Int)) (k : Nat) (e : Int) (b : List Int) : Prop where
  head : L.getD (61 * k) [] = headB (k : Int) e (b.length : Int)
  body : ∀ i, i < (b.length + 53) / 54 → L.getD (61 * k + 1 + i) [] = chunkL b e i
  e1 : 1 ≤ e
  e2 : e ≤ 2147483647
  n : b.length ≤ 3240
theorem Whole.epoch {L : List (List Int)} {k : Nat} {e : Int} {b : List Int} (h : Whole L k e b) : headE L k = e := by
  unfold headE
  rw [h.head]
  exact head_num _ _ _ ⟨by have := h.e1; omega, h.e2⟩
theorem Whole.size {L : List (List Int)} {k : Nat} {e : Int} {b : List Int} (h : Whole L k e b) : headS L k = (b.length : Int) := by
  unfold headS
  rw [h.head]
  exact head_drop _ _ _ ⟨by omega, by have := h.n; omega⟩
theorem Whole.chunks {L : List (List Int)} {k : Nat} {e : Int} {b : List Int} (h : Whole L k e b) : chunksOf L k ((b.length + 53) / 54) = cutL b e ((b.length + 53) / 54) := by
  unfold chunksOf cutL
  refine List.map_congr_left fun i hi => ?_
  exact h.body i (List.mem_range.1 hi)
theorem Whole.read {L : List (List Int)} {k : Nat} {e : Int} {b : List Int} (h : Whole L k e b) : readP L k = ⟨true, e, b⟩ := by
  have h1 := h.epoch
  have h2 := h.size
  have h3 := h.chunks
  have hs : Stands L k := by
    unfold Stands
    rw [h1, h2, Int.toNat_natCast, h3]
    exact ⟨h.e1, h.e2, by have := h.n; omega, h.head, cut_ok b e _⟩
  unfold readP
  rw [if_pos hs, h1, h2, Int.toNat_natCast, h3, join_all]
end Go.Proofs.YtenjldfflkinkaaDoor.Sav

namespace Go.Proofs.YtenjldfflkinkaaDoor.Sav
set_option linter.unusedVariables false
set_option linter.unusedSimpArgs false
theorem headB_last (k e n : Int) : (headB k e n).getD 63 0 = e % 256 := by
  have h : ((headA k e n ++ crc4 (headA k e n))).length = 60 := by rw [List.length_append, headA_len]; rfl
  unfold headB
  rw [List.getD_eq_getElem?_getD, List.getElem?_append_right (by omega), h]
  rfl
theorem stand_last {L : List (List Int)} {k : Nat} (h : Stands L k) : (L.getD (61 * k) []).getD 63 0 = headE L k % 256 := by
  have h1 := h.2.2.2.1
  obtain ⟨a, ha⟩ : ∃ a, headE L k = a := ⟨_, rfl⟩
  obtain ⟨b, hb⟩ : ∃ b, headS L k = b := ⟨_, rfl⟩
  rw [ha, hb] at h1
  rw [h1, headB_last, ha]
/-- a head torn behind its fourth byte does not stand -/
theorem torn_not {L : List (List Int)} {k q : Nat} {kk e n : Int} {old : List Int} (hT : L.getD (61 * k) [] = (headB kk e n).take q ++ old.drop q) (hq : 4 ≤ q) (hq2 : q < 64) (ho : old.length = 64) (he : 0 ≤ e ∧ e ≤ 2147483647) (hl : old.getD 63 0 ≠ e % 256) : ¬ Stands L k := fun h => by
  have h1 := stand_last h
  have h2 : headE L k = e := by
    unfold headE
    rw [hT]
    have h3 : (headB kk e n).take q = big4 e ++ ((headB kk e n).take q).drop 4 := by
      have h4 : ((headB kk e n).take q).take 4 = big4 e := by
        rw [List.take_take, Nat.min_eq_left hq]
        unfold headB headA
        simp only [List.append_assoc]
        rfl
      rw [← h4, List.take_append_drop]
    rw [h3, List.append_assoc]
    exact num4_big4 e _ he
  rw [h2, hT] at h1
  refine hl (h1 ▸ ?_)
  have hq3 : ((headB kk e n).take q).length = q := by rw [List.length_take, headB_len]; omega
  rw [List.getD_eq_getElem?_getD, List.getD_eq_getElem?_getD, List.getElem?_append_right (by omega), hq3, List.getElem?_drop]
  congr 2
  omega
end Go.Proofs.YtenjldfflkinkaaDoor.Sav

namespace Go.Proofs.YtenjldfflkinkaaDoor.Sav
set_option linter.unusedVariables false
set_option linter.unusedSimpArgs false
theorem torn_old {q : Nat} {k e n : Int} {old : List Int} (hq : q ≤ 3) (he : 0 ≤ e ∧ e < 256) (ho : old.take 3 = [0, 0, 0]) : (headB k e n).take q ++ old.drop q = old := by
  have h1 : (headB k e n).take 3 = [0, 0, 0] := by
    unfold headB headA
    simp only [List.append_assoc]
    show [e / 16777216 % 256, e / 65536 % 256, e / 256 % 256] = [0, 0, 0]
    rw [show e / 16777216 % 256 = 0 by omega, show e / 65536 % 256 = 0 by omega, show e / 256 % 256 = 0 by omega]
  have h2 : (headB k e n).take q = old.take q := by
    have e1 : (headB k e n).take q = ((headB k e n).take 3).take q := by rw [List.take_take, Nat.min_eq_left hq]
    have e2 : old.take q = (old.take 3).take q := by rw [List.take_take, Nat.min_eq_left hq]
    rw [e1, e2, h1, ho]
  rw [h2, List.take_append_drop]
theorem head_take3 (k e n : Int) (he : 0 ≤ e ∧ e < 256) : (headB k e n).take 3 = [0, 0, 0] := by
  have := torn_old (q := 3) (k := k) (e := e) (n := n) (old := [0, 0, 0]) (Nat.le_refl _) he rfl
  simpa using this
theorem zero_not {L : List (List Int)} {k : Nat} (h : L.getD (61 * k) [] = List.replicate 64 0) : ¬ Stands L k := fun hs => by
  have h1 := hs.1
  unfold headE at h1
  rw [h] at h1
  have h2 : num4 (List.replicate 64 0) = 0 := by decide
  omega
/-- what stands has the epoch of its head -/
theorem read_epoch {L : List (List Int)} {k : Nat} : (readP L k).s = true → (readP L k).e = headE L k := by
  unfold readP
  split
  · intro _; rfl
  · intro h; cases h
end Go.Proofs.YtenjldfflkinkaaDoor.Sav

namespace Go.Proofs.YtenjldfflkinkaaDoor.Sav
set_option linter.unusedVariables false
set_option linter.unusedSimpArgs false
/-- the head of a slot is of this epoch, or zeros -/
structure OldH (L : List (List Int)) (k : Nat) (m : Int) : Prop where
  n : (L.getD (61 * k) []).length = 64
  t : (L.getD (61 * k) []).take 3 = [0, 0, 0]
  e : headE L k = m
  z : (L.getD (61 * k) []).getD 63 0 = m
/-- the same but for the chunks of a slot -/
structure Off (k : Nat) (L L' : List (List Int)) : Prop where
  len : L'.length = L.length
  at_ : ∀ x, (x ≤ 61 * k ∨ 61 * k + 60 < x) → L'.getD x [] = L.getD x []
theorem Off.refl (k : Nat) (L : List (List Int)) : Off k L L := ⟨rfl, fun _ _ => rfl⟩
theorem Off.trans {k : Nat} {L L' L'' : List (List Int)} (h : Off k L L') (h2 : Off k L' L'') : Off k L L'' := ⟨h2.len.trans h.len, fun x hx => (h2.at_ x hx).trans (h.at_ x hx)⟩
theorem getD_set_ne {α : Type} {L : List α} {i j : Nat} {v d : α} (h : i ≠ j) : (L.set i v).getD j d = L.getD j d := by
  rw [List.getD_eq_getElem?_getD, List.getD_eq_getElem?_getD, List.getElem?_set_ne h]
theorem getD_set_eq {α : Type} {L : List α} {i : Nat} {v d : α} (h : i < L.length) : (L.set i v).getD i d = v := by
  rw [List.getD_eq_getElem?_getD, List.getElem?_set_self h]
  rfl
theorem Off.set {k i : Nat} (L : List (List Int)) (v : List Int) (h1 : 61 * k < i) (h2 : i ≤ 61 * k + 60) : Off k L (L.set i v) :=
  ⟨by simp, fun x hx => getD_set_ne (by omega)⟩
theorem Off.old {k : Nat} {L L' : List (List Int)} {m : Int} (h : Off k L L') (ho : OldH L k m) : OldH L' k m := by
  have h1 := h.at_ (61 * k) (.inl (Nat.le_refl _))
  have h2 : headE L' k = headE L k := by unfold headE; rw [h1]
  exact ⟨by rw [h1]; exact ho.n, by rw [h1]; exact ho.t, by rw [h2]; exact ho.e, by rw [h1]; exact ho.z⟩
theorem Off.other {k o : Nat} {L L' : List (List Int)} (h : Off k L L') (hko : k + o = 1) : ∀ x, 61 * o ≤ x → x ≤ 61 * o + 60 → L'.getD x [] = L.getD x [] := fun x h1 h2 => h.at_ x (by omega)
/-- two disks are the same in a slot -/
def SameS (o : Nat) (L L' : List (List Int)) : Prop := ∀ x, 61 * o ≤ x → x ≤ 61 * o + 60 → L'.getD x [] = L.getD x []
theorem SameS.old {o : Nat} {L L' : List (List Int)} {m : Int} (h : SameS o L L') (ho : OldH L o m) : OldH L' o m := by
  have h1 := h (61 * o) (by omega) (by omega)
  have h2 : headE L' o = headE L o := by unfold headE; rw [h1]
  exact ⟨by rw [h1]; exact ho.n, by rw [h1]; exact ho.t, by rw [h2]; exact ho.e, by rw [h1]; exact ho.z⟩
theorem SameS.whole {o : Nat} {L L' : List (List Int)} {e : Int} {b : List Int} (h : SameS o L L') (ho : Whole L o e b) : Whole L' o e b := by
  refine ⟨?_, fun i hi => ?_, ho.e1, ho.e2, ho.n⟩
  · rw [h (61 * o) (by omega) (by omega)]; exact ho.head
  · rw [h (61 * o + 1 + i) (by omega) (by have := ho.n; omega)]; exact ho.body i hi
theorem Whole.old {L : List (List Int)} {k : Nat} {e : Int} {b : List Int} (h : Whole L k e b) (he : e < 256) : OldH L k e := by
  have h1 := h.e1
  refine ⟨?_, ?_, h.epoch, ?_⟩
  · rw [h.head]; exact headB_len _ _ _
  · rw [h.head]; exact head_take3 _ _ _ ⟨by omega, he⟩
  · rw [h.head, headB_last]; omega
/-- the chunks that are written -/
def chW (k : Nat) (cs : List (List Int)) (m : Nat) : List (Int × List Int) := (List.range m).map fun i => (((61 * k + 1 + i : Nat) : Int), cs.getD i [])
theorem chW_succ (k : Nat) (cs : List (List Int)) (m : Nat) : chW k cs (m + 1) = chW k cs m ++ [(((61 * k + 1 + m : Nat) : Int), cs.getD m [])] := by
  unfold chW
  rw [List.range_succ, List.map_append]
  rfl
theorem chW_len (k : Nat) (cs : List (List Int)) (m : Nat) : (chW k cs m).length = m := by simp [chW]
theorem chW_mem {k m : Nat} {cs : List (List Int)} {x : Int × List Int} (h : x ∈ chW k cs m) : ∃ i, i < m ∧ x = (((61 * k + 1 + i : Nat) : Int), cs.getD i []) := by
  obtain ⟨i, hi, rfl⟩ := List.mem_map.1 h
  exact ⟨i, List.mem_range.1 hi, rfl⟩
theorem wsD_tell (st : Bool) (L : List (List Int)) (lf : Int) (k : Nat) (cs : List (List Int)) : ∀ N, ∃ e m lf', wsD st ⟨0, L, [], lf⟩ (61 * k + 1) cs N = ⟨e, L, chW k cs m, lf'⟩ ∧ m ≤ N ∧ ((e = 0 ∧ m = N) ∨ (e = 170 ∧ st = true)) ∧ (st = false → lf' = lf)
  | 0 => ⟨0, 0, lf, rfl, Nat.le_refl _, .inl ⟨rfl, rfl⟩, fun _ => rfl⟩
  | N + 1 => by
    obtain ⟨e, m, lf', h1, h2, h3, h4⟩ := wsD_tell st L lf k cs N
    have hu : wsD st ⟨0, L, [], lf⟩ (61 * k + 1) cs (N + 1) = wD st (wsD st ⟨0, L, [], lf⟩ (61 * k + 1) cs N) (61 * k + 1 + N) (cs.getD N []) := rfl
    rw [hu, h1]
    unfold wD
    rcases h3 with ⟨rfl, rfl⟩ | ⟨rfl, hst⟩
    · rw [if_pos rfl]
      split
      · rename_i hd
        refine ⟨170, m, lf', rfl, by omega, .inr ⟨rfl, ?_⟩, h4⟩
        cases st
        · simp at hd
        · rfl
      · refine ⟨0, m + 1, _, by rw [chW_succ], Nat.le_refl _, .inl ⟨rfl, rfl⟩, fun hs => ?_⟩
        subst hs
        simpa using h4 rfl
    · refine ⟨170, m, lf', if_neg (show ¬ (170 : Int) = 0 by decide), by omega, .inr ⟨rfl, hst⟩, h4⟩
theorem flush_chunks (L : List (List Int)) (k : Nat) (cs : List (List Int)) (hL : L.length = 122) (hk : k ≤ 1) : ∀ m, m ≤ 60 → Off k L (flushL L (chW k cs m)) ∧ ∀ i, i < m → (flushL L (chW k cs m)).getD (61 * k + 1 + i) [] = cs.getD i []
  | 0, _ => ⟨Off.refl k L, fun i hi => by omega⟩
  | m + 1, hm => by
    obtain ⟨h1, h2⟩ := flush_chunks L k cs hL hk m (by omega)
    rw [chW_succ, flushL_snoc]
    show Off k L ((flushL L (chW k cs m)).set (((61 * k + 1 + m : Nat) : Int).toNat) (cs.getD m [])) ∧ ∀ i, i < m + 1 → ((flushL L (chW k cs m)).set (((61 * k + 1 + m : Nat) : Int).toNat) (cs.getD m [])).getD (61 * k + 1 + i) [] = cs.getD i []
    rw [Int.toNat_natCast]
    refine ⟨h1.trans (Off.set _ _ (by omega) (by omega)), fun i hi => ?_⟩
    by_cases he : i = m
    · subst he
      exact getD_set_eq (by rw [h1.len, hL]; omega)
    · rw [getD_set_ne (by omega)]
      exact h2 i (by omega)
theorem tear_off {ks : List Int} {L : List (List Int)} {j k : Nat} {x : Int × List Int} (h1 : 61 * k < x.1.toNat) (h2 : x.1.toNat ≤ 61 * k + 60) : Off k L (tear ks L j x) := by
  unfold tear
  split
  · exact Off.set _ _ h1 h2
  · exact Off.refl _ _
theorem crash_off {ks : List Int} {k : Nat} {ws : List (Int × List Int)} (h : ∀ x ∈ ws, 61 * k < x.1.toNat ∧ x.1.toNat ≤ 61 * k + 60) (pre : List (Fin ws.length)) : ∀ L, Off k L (crashL ks L ws pre) := by
  induction pre with
  | nil => intro L; exact Off.refl _ _
  | cons x pre ih =>
    intro L
    have h1 := h ws[x.1] (List.getElem_mem _)
    exact (tear_off (ks := ks) (L := L) (j := x.1) h1.1 h1.2).trans (ih _)
/-- what a save finds -/
structure PreS (L : List (List Int)) (k o : Nat) (n : Int) (bp : List Int) : Prop where
  len : L.length = 122
  ko : k + o = 1
  n1 : 1 ≤ n
  n2 : n ≤ 200
  old : OldH L k (if n = 1 then 0 else n - 2)
  oth : OldH L o (n - 1)
  who : 2 ≤ n → Whole L o (n - 1) bp
/-- what a crash leaves -/
def Fin2 (C : List (List Int)) (k o : Nat) (n : Int) (b bp : List Int) : Prop :=
  OldH C o (n - 1) ∧ (Whole C k n b ∨ ((Stands C k → headE C k < n - 1) ∧ (2 ≤ n → Whole C o (n - 1) bp)))
theorem fin_old {L C : List (List Int)} {k o : Nat} {n : Int} {b bp : List Int} (h : PreS L k o n bp) (hO : Off k L C) : Fin2 C k o n b bp := by
  have hs : SameS o L C := hO.other h.ko
  refine ⟨hs.old h.oth, .inr ⟨fun hst => ?_, fun hn => hs.whole (h.who hn)⟩⟩
  have h1 := (hO.old h.old).e
  have h2 := hst.1
  rw [h1] at h2 ⊢
  have h3 := h.n1
  split at h2
  · omega
  · split <;> omega
theorem whole_saved {L : List (List Int)} {k o : Nat} {n : Int} {b bp : List Int} (h : PreS L k o n bp) (hb : b.length ≤ 3240) : Whole ((flushL L (chW k (cutL b n ((b.length + 53) / 54)) ((b.length + 53) / 54))).set (61 * k) (headB (k : Int) n (b.length : Int))) k n b := by
  have hk := h.ko
  obtain ⟨h1, h2⟩ := flush_chunks L k (cutL b n ((b.length + 53) / 54)) h.len (by omega) ((b.length + 53) / 54) (by omega)
  have h3 := h.n1
  have h4 := h.n2
  refine ⟨?_, fun i hi => ?_, by omega, by omega, hb⟩
  · exact getD_set_eq (by rw [h1.len, h.len]; omega)
  · rw [getD_set_ne (by omega), h2 i hi, cut_get _ _ _ _ hi]
theorem saved_other {L L' : List (List Int)} {k o : Nat} {v : List Int} (h : Off k L L') (hko : k + o = 1) : SameS o L (L'.set (61 * k) v) := fun x h1 h2 => by
  rw [getD_set_ne (by omega)]
  exact h.other hko x h1 h2
/-- a save that is done -/
theorem PreS.next {L L' : List (List Int)} {k o : Nat} {n : Int} {b bp : List Int} (h : PreS L k o n bp) (hn : n ≤ 100) (hl : L'.length = 122) (hs : SameS o L L') (hw : Whole L' k n b) : PreS L' o k (n + 1) b := by
  have h1 := h.n1
  refine ⟨hl, by have := h.ko; omega, by omega, by omega, ?_, ?_, fun _ => ?_⟩
  · rw [if_neg (by omega)]
    have := hs.old h.oth
    rw [show n + 1 - 2 = n - 1 by omega]
    exact this
  · rw [show n + 1 - 1 = n by omega]
    exact hw.old (by omega)
  · rw [show n + 1 - 1 = n by omega]
    exact hw
/-- a head that waits, torn -/
theorem torn_fin {L L1 : List (List Int)} {k o : Nat} {n : Int} {b bp : List Int} {ks : List Int} (h : PreS L k o n bp) (hO : Off k L L1) (hw : Whole (L1.set (61 * k) (headB (k : Int) n (b.length : Int))) k n b) : Fin2 (tear ks L1 0 (((61 * k : Nat) : Int), headB (k : Int) n (b.length : Int))) k o n b bp := by
  have h1 := h.n1
  have h2 := h.n2
  unfold tear
  split
  · show Fin2 (L1.set (((61 * k : Nat) : Int).toNat) ((headB (k : Int) n (b.length : Int)).take (keepN (ks.getD 0 0)) ++ (L1.getD (((61 * k : Nat) : Int).toNat) []).drop (keepN (ks.getD 0 0)))) k o n b bp
    rw [Int.toNat_natCast]
    have hq := keepN_le (ks.getD 0 0)
    obtain ⟨q, hq1⟩ : ∃ q, keepN (ks.getD 0 0) = q := ⟨_, rfl⟩
    rw [hq1] at hq ⊢
    have hold := hO.old h.old
    by_cases h64 : q = 64
    · subst h64
      rw [List.take_of_length_le (by rw [headB_len]; exact Nat.le_refl _), List.drop_of_length_le (by rw [hold.n]; exact Nat.le_refl _), List.append_nil]
      exact ⟨(saved_other hO h.ko).old h.oth, .inl hw⟩
    · by_cases h4 : 4 ≤ q
      · have hs : SameS o L (L1.set (61 * k) ((headB (k : Int) n (b.length : Int)).take q ++ (L1.getD (61 * k) []).drop q)) := saved_other hO h.ko
        refine ⟨hs.old h.oth, .inr ⟨fun hst => ?_, fun hn => hs.whole (h.who hn)⟩⟩
        refine absurd hst (torn_not (kk := (k : Int)) (e := n) (n := (b.length : Int)) (old := L1.getD (61 * k) []) (getD_set_eq (by have := h.ko; rw [hO.len, h.len]; omega)) h4 (by omega) hold.n ⟨by omega, by omega⟩ ?_)
        rw [hold.z]
        split <;> omega
      · rw [torn_old (by omega) ⟨by omega, by omega⟩ hold.t]
        have hs : L1.set (61 * k) (L1.getD (61 * k) []) = L1 := by
          have hlt : 61 * k < L1.length := by have := h.ko; rw [hO.len, h.len]; omega
          rw [List.getD_eq_getElem?_getD, List.getElem?_eq_getElem hlt]
          simp
        rw [hs]
        exact fin_old h hO
  · exact fin_old h hO
/-- what a save does, and what a crash leaves of it -/
theorem save_fin {st : Bool} {L : List (List Int)} {lf : Int} {k o : Nat} {n : Int} {b bp : List Int} (h : PreS L k o n bp) (hb : b.length ≤ 3240) (s : D4) (hs : saveS st L lf k n b = s) :
    (s.e = 0 ∨ (s.e = 170 ∧ st = true)) ∧ (st = false → s.ws = [] ∧ s.lf = lf ∧ Whole s.L k n b ∧ SameS o L s.L) ∧ s.L.length = 122 ∧ s.ws.length ≤ 1000 ∧ (∀ x ∈ s.ws, 0 ≤ x.1 ∧ x.1 < 122 ∧ x.2.length = 64) ∧ (∀ ks, Fin2 (crashL ks s.L s.ws (List.finRange s.ws.length)) k o n b bp) := by
  have hko := h.ko
  have hN : (b.length + 53) / 54 ≤ 60 := by omega
  obtain ⟨e, m, lf1, t1, t2, t3, t4⟩ := wsD_tell st L lf k (cutL b n ((b.length + 53) / 54)) ((b.length + 53) / 54)
  have hW := whole_saved h hb
  obtain ⟨o1, o2⟩ := flush_chunks L k (cutL b n ((b.length + 53) / 54)) h.len (by omega) ((b.length + 53) / 54) hN
  have c64 : ∀ i, i < (b.length + 53) / 54 → ((cutL b n ((b.length + 53) / 54)).getD i []).length = 64 := fun i hi => cutL_64 _ _ _ _ hi
  unfold saveS at hs
  rw [t1] at hs
  obtain ⟨N, hNe⟩ : ∃ N, (b.length + 53) / 54 = N := ⟨_, rfl⟩
  obtain ⟨cs, hcs⟩ : ∃ cs, cutL b n ((b.length + 53) / 54) = cs := ⟨_, rfl⟩
  rw [hcs] at hW o1 o2 c64 hs
  rw [hNe] at hW o1 o2 c64 hN t2 t3
  obtain ⟨hd, hhd⟩ : ∃ hd, headB (k : Int) n (b.length : Int) = hd := ⟨_, rfl⟩
  have hdl : hd.length = 64 := by rw [← hhd]; exact headB_len _ _ _
  have hchw : ∀ m, m ≤ N → (∀ x ∈ chW k cs m, 0 ≤ x.1 ∧ x.1 < 122 ∧ x.2.length = 64) := fun m hm x hx => by
    obtain ⟨i, hi, rfl⟩ := chW_mem hx
    refine ⟨by show (0 : Int) ≤ ((61 * k + 1 + i : Nat) : Int); omega, by show ((61 * k + 1 + i : Nat) : Int) < 122; omega, c64 i (by omega)⟩
  have hoff : ∀ m, m ≤ N → (∀ x ∈ chW k cs m, 61 * k < x.1.toNat ∧ x.1.toNat ≤ 61 * k + 60) := fun m hm x hx => by
    obtain ⟨i, hi, rfl⟩ := chW_mem hx
    show 61 * k < (((61 * k + 1 + i : Nat) : Int)).toNat ∧ (((61 * k + 1 + i : Nat) : Int)).toNat ≤ 61 * k + 60
    rw [Int.toNat_natCast]
    omega
  have hfail : ∀ lf', st = true → fD st (wD st (fD st ⟨170, L, chW k cs m, lf'⟩) (61 * k) hd) = ⟨170, L, chW k cs m, lf'⟩ := fun lf' _ => rfl
  rw [hhd] at hs hW
  rcases t3 with ⟨rfl, rfl⟩ | ⟨rfl, hst⟩
  · -- the chunks all wait
    by_cases hd1 : (st && decide (lf1 = 0)) = true
    · have hst : st = true := by cases st; (simp at hd1); rfl
      have e1 : fD st ⟨0, L, chW k cs m, lf1⟩ = ⟨170, L, chW k cs m, lf1⟩ := by unfold fD; rw [if_pos rfl, if_pos hd1]
      rw [e1] at hs
      obtain rfl : (⟨170, L, chW k cs m, lf1⟩ : D4) = s := hs
      exact ⟨.inr ⟨rfl, hst⟩, fun h0 => by (rw [hst] at h0; cases h0), h.len, by show (chW k cs m).length ≤ 1000; rw [chW_len]; omega, hchw m (Nat.le_refl _), fun ks => fin_old h (crash_off (hoff m (Nat.le_refl _)) _ L)⟩
    · have e1 : fD st ⟨0, L, chW k cs m, lf1⟩ = ⟨0, flushL L (chW k cs m), [], if st = true then lf1 - 1 else lf1⟩ := by unfold fD; rw [if_pos rfl, if_neg hd1]
      rw [e1] at hs
      obtain ⟨L1, hL1⟩ : ∃ L1, flushL L (chW k cs m) = L1 := ⟨_, rfl⟩
      rw [hL1] at hs o1 hW
      obtain ⟨lf2, hlf2⟩ : ∃ lf2, (if st = true then lf1 - 1 else lf1) = lf2 := ⟨_, rfl⟩
      rw [hlf2] at hs
      have hlen1 : L1.length = 122 := by rw [o1.len, h.len]
      by_cases hd2 : (st && decide (lf2 = 0)) = true
      · have hst : st = true := by cases st; (simp at hd2); rfl
        have e2 : wD st ⟨0, L1, [], lf2⟩ (61 * k) hd = ⟨170, L1, [], lf2⟩ := by unfold wD; rw [if_pos rfl, if_pos hd2]
        rw [e2] at hs
        obtain rfl : (⟨170, L1, [], lf2⟩ : D4) = s := hs
        exact ⟨.inr ⟨rfl, hst⟩, fun h0 => by (rw [hst] at h0; cases h0), hlen1, by show 0 ≤ 1000; omega, fun x hx => (by cases hx), fun ks => fin_old h o1⟩
      · have e2 : wD st ⟨0, L1, [], lf2⟩ (61 * k) hd = ⟨0, L1, [(((61 * k : Nat) : Int), hd)], if st = true then lf2 - 1 else lf2⟩ := by unfold wD; rw [if_pos rfl, if_neg hd2]; rfl
        rw [e2] at hs
        obtain ⟨lf3, hlf3⟩ : ∃ lf3, (if st = true then lf2 - 1 else lf2) = lf3 := ⟨_, rfl⟩
        rw [hlf3] at hs
        by_cases hd3 : (st && decide (lf3 = 0)) = true
        · have hst : st = true := by cases st; (simp at hd3); rfl
          have e3 : fD st ⟨0, L1, [(((61 * k : Nat) : Int), hd)], lf3⟩ = ⟨170, L1, [(((61 * k : Nat) : Int), hd)], lf3⟩ := by unfold fD; rw [if_pos rfl, if_pos hd3]
          rw [e3] at hs
          obtain rfl : (⟨170, L1, [(((61 * k : Nat) : Int), hd)], lf3⟩ : D4) = s := hs
          refine ⟨.inr ⟨rfl, hst⟩, fun h0 => by (rw [hst] at h0; cases h0), hlen1, by show 1 ≤ 1000; omega, fun x hx => ?_, fun ks => ?_⟩
          · obtain rfl := List.mem_singleton.1 hx
            exact ⟨by show (0 : Int) ≤ ((61 * k : Nat) : Int); omega, by show ((61 * k : Nat) : Int) < 122; omega, hdl⟩
          · subst hhd
            exact torn_fin h o1 hW
        · have e3 : fD st ⟨0, L1, [(((61 * k : Nat) : Int), hd)], lf3⟩ = ⟨0, L1.set (61 * k) hd, [], if st = true then lf3 - 1 else lf3⟩ := by
            unfold fD
            rw [if_pos rfl, if_neg hd3]
            rfl
          rw [e3] at hs
          obtain rfl := hs
          refine ⟨.inl rfl, fun h0 => ⟨rfl, ?_, hW, saved_other o1 hko⟩, by show (L1.set (61 * k) hd).length = 122; rw [List.length_set]; exact hlen1, by show 0 ≤ 1000; omega, fun x hx => (by cases hx), fun ks => ⟨(saved_other o1 hko).old h.oth, .inl hW⟩⟩
          show (if st = true then lf3 - 1 else lf3) = lf
          rw [← hlf3, ← hlf2, t4 h0, h0]
          rfl
  · rw [hfail lf1 hst] at hs
    obtain rfl := hs
    exact ⟨.inr ⟨rfl, hst⟩, fun h0 => by (rw [hst] at h0; cases h0), h.len, by show (chW k cs m).length ≤ 1000; rw [chW_len]; omega, hchw m t2, fun ks => fin_old h (crash_off (hoff m t2) _ L)⟩
/-- what is told of a slot -/
def Res (n : Int) (b bp : List Int) (x : Slt) : Prop := (x.e = n ∧ x.b = b ∧ b.length ≤ 3240) ∨ (2 ≤ n ∧ x.e = n - 1 ∧ x.b = bp ∧ bp.length ≤ 3240)
def Out3 (C : List (List Int)) (n : Int) (b bp : List Int) : Prop :=
  (whichP (readP C 0) (readP C 1) = -1 ∧ n ≤ 1) ∨ (whichP (readP C 0) (readP C 1) = 0 ∧ Res n b bp (readP C 0)) ∨ (whichP (readP C 0) (readP C 1) = 1 ∧ Res n b bp (readP C 1))
theorem read_not {L : List (List Int)} {k : Nat} (h : ¬ Stands L k) : readP L k = ⟨false, 0, []⟩ := by unfold readP; rw [if_neg h]
theorem read_s {L : List (List Int)} {k : Nat} : (readP L k).s = true → Stands L k := fun hs => by
  by_cases h : Stands L k
  · exact h
  · rw [read_not h] at hs; cases hs
theorem fin_out {C : List (List Int)} {k o : Nat} {n : Int} {b bp : List Int} (hko : k + o = 1) (hn : 1 ≤ n) (h : Fin2 C k o n b bp) : Out3 C n b bp := by
  obtain ⟨ho, h⟩ := h
  have hoe : (readP C o).s = true → (readP C o).e = n - 1 := fun hs => by rw [read_epoch hs]; exact ho.e
  have hks : (readP C k).s = true → (readP C k).e = headE C k := fun hs => read_epoch hs
  rcases h with hw | ⟨hk, hw⟩
  · have hr := hw.read
    rcases (show (k = 0 ∧ o = 1) ∨ (k = 1 ∧ o = 0) by omega) with ⟨rfl, rfl⟩ | ⟨rfl, rfl⟩
    · refine .inr (.inl ⟨?_, .inl ⟨by rw [hr], by rw [hr], hw.n⟩⟩)
      unfold whichP
      rw [hr, if_neg (fun hh => by have h1 := hoe hh.1; have h2 := hh.2 rfl; rw [h1] at h2; simp at h2; omega), if_pos rfl]
    · refine .inr (.inr ⟨?_, .inl ⟨by rw [hr], by rw [hr], hw.n⟩⟩)
      unfold whichP
      rw [hr, if_pos ⟨rfl, fun hh => by rw [hoe hh]; simp; omega⟩]
  · by_cases h2 : 2 ≤ n
    · have hr := (hw h2).read
      have hk2 : (readP C k).s = true → (readP C k).e < n - 1 := fun hs => by rw [hks hs]; exact hk (read_s hs)
      rcases (show (k = 0 ∧ o = 1) ∨ (k = 1 ∧ o = 0) by omega) with ⟨rfl, rfl⟩ | ⟨rfl, rfl⟩
      · refine .inr (.inr ⟨?_, .inr ⟨h2, by rw [hr], by rw [hr], (hw h2).n⟩⟩)
        unfold whichP
        rw [hr, if_pos ⟨rfl, fun hh => hk2 hh⟩]
      · refine .inr (.inl ⟨?_, .inr ⟨h2, by rw [hr], by rw [hr], (hw h2).n⟩⟩)
        unfold whichP
        rw [hr, if_neg (fun hh => by have h1 := hk2 hh.1; have h3 := hh.2 rfl; simp at h3; omega), if_pos rfl]
    · obtain rfl : n = 1 := by omega
      have hno : ¬ Stands C o := fun hs => by have h1 := hs.1; rw [ho.e] at h1; omega
      have hnk : ¬ Stands C k := fun hs => by have h1 := hs.1; have h3 := hk hs; omega
      refine .inl ⟨?_, by omega⟩
      rcases (show (k = 0 ∧ o = 1) ∨ (k = 1 ∧ o = 0) by omega) with ⟨rfl, rfl⟩ | ⟨rfl, rfl⟩
      · rw [read_not hno, read_not hnk]; rfl
      · rw [read_not hno, read_not hnk]; rfl
end Go.Proofs.YtenjldfflkinkaaDoor.Sav

namespace Go.Proofs.YtenjldfflkinkaaDoor.Sav
set_option linter.unusedVariables false
set_option linter.unusedSimpArgs false
open Go.RowKit Go.Proofs.YtenjldfflkinkaaDoor.F Go.Proofs.YtenjldfflkinkaaDoorW.PrintWords Go.Proofs.YtenjldfflkinkaaDoorW.PrintLast Go.Proofs.YtenjldfflkinkaaDoorW.PrintMore
open Go.Proofs.YtenjldfflkinkaaDoor.Rop (Sl Ch ChV CV ChAt Rc Ro SV SP StOk rightE scl NoI noI_sl noI_64 blk_noI Put1 own_sl upd upd_same upd_ne But C3 Rg Right_calls goesT Tyd bd add_blk effE doneT fitsB Nxt eff_ok GivesSt)
set_option linter.unusedSectionVars false
/-! ### bytes -/
theorem by_six (k t : Int) : By (six k t) := by
  intro x hx
  simp [six] at hx
  omega
theorem by_chunkL {b : List Int} (h : By b) (t : Int) (k : Nat) : By (chunkL b t k) := by
  unfold chunkL chunkP
  exact ((by_six _ _).append (((h.drop _).take _).append (By.zeros _))).append (By.crc4 _)
theorem by_encR {r : Int} (h : scal r) : By (encR r) := by
  obtain ⟨h0, h1, _⟩ := h
  intro x hx
  unfold encR at hx
  split at hx
  · simp at hx; omega
  · split at hx
    · simp at hx; omega
    · split at hx
      · simp at hx; omega
      · simp at hx; omega
theorem by_utfE {l : List Int} (h : ∀ r ∈ l, scal r) : By (utfE l) := by
  intro x hx
  unfold utfE at hx
  obtain ⟨r, hr, hx⟩ := List.mem_flatMap.1 hx
  exact by_encR (h r hr) x hx
theorem by_pieceB {l : List Int} (h : ∀ r ∈ l, scal r) : By (pieceB l) := (By.big4 _).append (by_utfE h)
/-- all sectors are bytes -/
def ABy (L : List (List Int)) : Prop := ∀ x ∈ L, By x
theorem ABy.set {L : List (List Int)} (h : ABy L) {b : List Int} (hb : By b) (i : Nat) : ABy (L.set i b) := fun x hx => by
  rcases List.mem_or_eq_of_mem_set hx with h1 | rfl
  · exact h x h1
  · exact hb
theorem ABy.getD {L : List (List Int)} (h : ABy L) (i : Nat) : By (L.getD i []) := by
  rw [List.getD_eq_getElem?_getD]
  cases hh : L[i]? with
  | none => intro x hx; cases hx
  | some b => exact h b (List.mem_of_getElem? hh)
theorem ABy.flush : ∀ (ws : List (Int × List Int)) {L : List (List Int)}, ABy L → (∀ x ∈ ws, By x.2) → ABy (flushL L ws)
  | [], L, h, _ => h
  | y :: ws, L, h, hw => ABy.flush ws (L := L.set y.1.toNat y.2) (h.set (hw y (List.mem_cons_self ..)) _) (fun x hx => hw x (List.mem_cons_of_mem _ hx))
theorem ABy.tear {ks : List Int} {L : List (List Int)} {j : Nat} {x : Int × List Int} (h : ABy L) (hx : By x.2) : ABy (tear ks L j x) := by
  unfold Go.Proofs.YtenjldfflkinkaaDoor.Sav.tear
  split
  · exact h.set ((hx.take _).append ((h.getD _).drop _)) _
  · exact h
theorem ABy.crash {ks : List Int} {ws : List (Int × List Int)} (hw : ∀ x ∈ ws, By x.2) (pre : List (Fin ws.length)) : ∀ {L : List (List Int)}, ABy L → ABy (crashL ks L ws pre) := by
  induction pre with
  | nil => intro L h; exact h
  | cons y pre ih => intro L h; exact ih (h.tear (hw _ (List.getElem_mem _)))
def PB (s : D4) : Prop := ABy s.L ∧ ∀ x ∈ s.ws, By x.2
theorem PB.wD {st : Bool} {s : D4} {n : Nat} {b : List Int} (h : PB s) (hb : By b) : PB (wD st s n b) := by
  unfold Go.Proofs.YtenjldfflkinkaaDoor.Sav.wD
  split
  · split
    · exact h
    · refine ⟨h.1, fun x hx => ?_⟩
      rcases List.mem_append.1 hx with h1 | h1
      · exact h.2 x h1
      · rw [List.mem_singleton.1 h1]; exact hb
  · exact h
theorem PB.fD {st : Bool} {s : D4} (h : PB s) : PB (fD st s) := by
  unfold Go.Proofs.YtenjldfflkinkaaDoor.Sav.fD
  split
  · split
    · exact h
    · exact ⟨ABy.flush _ h.1 h.2, fun x hx => by cases hx⟩
  · exact h
theorem PB.ws {st : Bool} {s : D4} {a : Nat} {cs : List (List Int)} (h : PB s) (hc : ABy cs) : ∀ n, PB (wsD st s a cs n)
  | 0 => h
  | n + 1 => (PB.ws h hc n).wD (hc.getD n)
theorem save_by {st : Bool} {L : List (List Int)} {lf e : Int} {k : Nat} {b : List Int} (h : ABy L) (hb : By b) : PB (saveS st L lf k e b) := by
  unfold saveS
  refine ((PB.ws (s := ⟨0, L, [], lf⟩) ⟨h, fun x hx => by cases hx⟩ ?_ _).fD.wD (By.headB _ _ _)).fD
  intro x hx
  obtain ⟨i, _, rfl⟩ := List.mem_map.1 hx
  exact by_chunkL hb _ _
/-! ### the disk's work -/
theorem SlAt.set {B : Nat} {W : World} {q p : Nat} {x0 x1 : Slt} (h : SlAt B W q p x0 x1) {g i t : Nat} {cs : Array Value} (hg : W.heap[g]? = some (.cells cs t (0, 0))) (ht : t ≠ 64) (ht2 : t ≠ 5) (u : Value) : SlAt B (W.setCell ⟨g, i, none⟩ u) q p x0 x1 := by
  obtain ⟨h0, v0, v1, h1, h2, h3⟩ := h
  have hE : ∀ q, q ∈ 5 :: (Kd.int .u8).E → q ≠ t := fun q hq e => by
    have hE2 : (Kd.int .u8).E = [] := rfl
    rw [hE2] at hq
    exact ht2 (by rw [← e]; exact List.mem_singleton.1 hq)
  exact ⟨h0, v0, v1, (Below.heap_setCell _ _ _ _ (ty_ne h1 hg (Ne.symm ht))).trans h1, Kd.R_set h2 hg hE i u, Kd.R_set h3 hg hE i u⟩
theorem SlAt.lower {B B' : Nat} {W : World} {q p : Nat} {x0 x1 : Slt} (h : SlAt B W q p x0 x1) (hb : B' ≤ B) : SlAt B' W q p x0 x1 := by
  obtain ⟨h0, v0, v1, h1, h2, h3⟩ := h
  exact ⟨Nat.le_trans hb h0, v0, v1, h1, Kd.R_lower h2 hb, Kd.R_lower h3 hb⟩
theorem Hv.mv {B : Nat} {T : List Nat} {W W' : World} (h : Hv W) (hm : Mv B T W W') (hB : 0 < B) : Hv W' := fun j hj => hm.cell (h j hj) (fun hx => by have := hx.1; dsimp only at this; omega)
section
variable [Coe Unit Nat]
theorem tyd_keep {W W' : World} {t n B : Nat} {A : Option Addr} {T : List Nat} (h : Tyd W t A n) (hm : Mv B T W W') (hb : bd ≤ B) (ht : t ∉ T) (hn : 0 < n) {ad : Addr} (hA : A = some ad) (hlt : ad.block < W.heap.size) : W'.heap[ad.block]? = W.heap[ad.block]? :=
  hm.block _ hlt (fun hx => by
    obtain ⟨h1, cs, t', h2, h3⟩ := hx
    obtain ⟨cs2, h4⟩ := h hn ad hA (Nat.le_trans hb h1)
    rw [h4] at h3
    injection h3 with h3
    injection h3 with _ h3 _
    exact ht (h3 ▸ h2))
theorem tyd_mv {W W' : World} {t n B : Nat} {A : Option Addr} {T : List Nat} (h : Tyd W t A n) (hm : Mv B T W W') (hb : bd ≤ B) (ht : t ∉ T) : Tyd W' t A n := h.heap fun ad hn hA hlt => tyd_keep h hm hb ht hn hA hlt
theorem sl_mv {W W' : World} {n c B : Nat} {A : Option Addr} {T : List Nat} {l : List Int} (h : Sl W A n c l) (hm : Mv B T W W') (hb : bd ≤ B) (ht : 21 ∉ T) : Sl W' A n c l := by
  have hr := Kd.reads_of_C (d := (0 : Int)) h.hC
  refine ⟨Kd.C_of_reads (d := (0 : Int)) (h1 := fun _ => rfl) ⟨hr.1, hr.2.1, fun hp => ?_⟩, h.hn, h.hc, h.hm, tyd_mv h.ty hm hb ht⟩
  obtain ⟨ad, he, hc⟩ := hr.2.2 hp
  refine ⟨ad, he, fun j hj => ?_⟩
  have h1 := hc j hj
  have h2 := World.block_lt_of_cell? W _ h1
  have h3 : (ad.add j).block = ad.block := add_blk ad j
  rw [h3] at h2
  have h4 := tyd_keep h.ty hm hb ht hp he h2
  simp only [World.cell?, h3, h4] at h1 ⊢
  exact h1
theorem chv_mv {W W' : World} {B m d n c b : Nat} {p : Int} {A D : Option Addr} {T : List Nat} {x : Ch} (h : ChV W p A n c D m d x) (hm : Mv B T W W') (hb : bd ≤ B) (ht : 21 ∉ T) : ChV W' p A n c D m d x := ⟨h.hp, sl_mv h.g hm hb ht, sl_mv h.k hm hb ht⟩
theorem rc_mv {W W' : World} {n c B : Nat} {A : Option Addr} {T : List Nat} {vs : Nat → CV} {xs : Nat → Ch} (h : Rc W A n c vs xs) (hm : Mv B T W W') (hb : bd ≤ B) (ht : 21 ∉ T) (ht2 : 68 ∉ T) : Rc W' A n c vs xs := by
  refine ⟨fun i hi => ?_, h.hc, h.hm, h.h0, tyd_mv h.ty hm hb ht2⟩
  obtain ⟨ad, hA, hat⟩ := h.at_ i hi
  have h3 : (ad.add (i * 3)).block = ad.block := add_blk ad _
  have h2 := World.block_lt_of_cell? W _ hat.c0
  rw [h3] at h2
  have h4 := tyd_keep h.ty hm hb ht2 (by omega) hA h2
  refine ⟨ad, hA, ?_, ?_, ?_, chv_mv (b := 0) hat.h hm hb ht⟩
  · have h1 := hat.c0
    simp only [World.cell?, h3, h4] at h1 ⊢
    exact h1
  · have h1 := hat.c1
    simp only [World.cell?, h3, h4] at h1 ⊢
    exact h1
  · have h1 := hat.c2
    simp only [World.cell?, h3, h4] at h1 ⊢
    exact h1
theorem ok_mv {W W' : World} {B : Nat} {T : List Nat} {v : SV} {s : SP} (h : StOk W v s) (hm : Mv B T W W') (hb : bd ≤ B) (ht : 21 ∉ T) (ht2 : 68 ∉ T) : StOk W' v s :=
  ⟨sl_mv h.t hm hb ht, rc_mv h.u hm hb ht ht2, rc_mv h.r hm hb ht ht2, h.bn, h.b1, h.b2, h.s1, h.s2⟩
/-! ### a state in its box -/
structure Sta (W : World) (g : Nat) (v : SV) (s : SP) : Prop where
  st : C3 W g (.slice v.A v.n v.c) (.slice v.A1 v.n1 v.c1) (.slice v.A2 v.n2 v.c2)
  ok : StOk W v s
  rg : Rg4 s.text v.n1 v.n2 s.x1 s.x2
theorem Sta.below {W W' : World} {g : Nat} {v : SV} {s : SP} (h : Sta W g v s) (hb : Below W.heap.size W W') : Sta W' g v s := ⟨h.st.below hb, h.ok.below hb, h.rg⟩
theorem Sta.mv {W W' : World} {g B : Nat} {v : SV} {s : SP} (h : Sta W g v s) (hm : Mv B (64 :: DT) W W') (hb : bd ≤ B) : Sta W' g v s := ⟨hm.blk h.st (by decide), ok_mv h.ok hm hb (by decide) (by decide), h.rg⟩
theorem Sta.right {W : World} {g : Nat} {v : SV} {s : SP} (h : Sta W g v s) : rightE v s = 0 := Rg4.right h.ok.t.hn h.rg
/-- rows of changes do not lie in a box of a state -/
theorem ok_ne {W : World} {g t : Nat} {cs : Array Value} {v : SV} {s : SP} {A : Option Addr} {n c : Nat} {vs : Nat → CV} {xs : Nat → Ch} (h : Rc W A n c vs xs) (hn : n ≠ 0) (hg : W.heap[g]? = some (.cells cs t (0, 0))) (hb : bd ≤ g) (ht : t ≠ 68) : ∀ ad, A = some ad → ad.block ≠ g := by
  intro ad hA e
  obtain ⟨cs2, h4⟩ := h.ty (by omega) ad hA (by rw [e]; exact hb)
  rw [e, hg] at h4
  injection h4 with h4
  injection h4 with _ h4 _
  exact ht h4
theorem rc_put {W W1 : World} {n c q t : Nat} {cs : Array Value} {A : Option Addr} {vs : Nat → CV} {xs : Nat → Ch} (h : Rc W A n c vs xs) (hp : Put1 W W1 q) (hq : ∀ (a : Addr) (v : Value), a.block = q → W.cell? a = some v → NoI v) (hg : W.heap[q]? = some (.cells cs t (0, 0))) (hb : bd ≤ q) (ht : t ≠ 68) : Rc W1 A n c vs xs := by
  by_cases hn : n = 0
  · exact ⟨fun i hi => by omega, h.hc, h.hm, h.h0, fun h0 => by omega⟩
  · exact h.put hp hq (ok_ne (v := ⟨A, n, c, A, n, c, A, n, c, vs, vs⟩) (s := ⟨[], xs, xs⟩) h hn hg hb ht)
theorem ok_put {W W1 : World} {q t : Nat} {cs : Array Value} {v : SV} {s : SP} (h : StOk W v s) (hp : Put1 W W1 q) (hq : ∀ (a : Addr) (v : Value), a.block = q → W.cell? a = some v → NoI v) (hg : W.heap[q]? = some (.cells cs t (0, 0))) (hb : bd ≤ q) (ht : t ≠ 68) : StOk W1 v s :=
  ⟨h.t.only hq hp.2, rc_put h.u hp hq hg hb ht, rc_put h.r hp hq hg hb ht, h.bn, h.b1, h.b2, h.s1, h.s2⟩
end
theorem set3_blk {W : World} {g t : Nat} {x y z a b c : Value} (h : W.heap[g]? = some (.cells #[x, y, z] t (0, 0))) : (((W.setCell ⟨g, 0, none⟩ a).setCell ⟨g, 1, none⟩ b).setCell ⟨g, 2, none⟩ c).heap[g]? = some (.cells #[a, b, c] t (0, 0)) := set_blk (set_blk (set_blk h))
theorem Dk.set3 {B : Nat} {W : World} {p : Nat} {L : List (List Int)} {Ws : List (Int × List Int)} {st : Bool} {lf : Int} (h : Dk B W p L Ws st lf) {g : Nat} {x y z : Value} (hg : C3 W g x y z) (a b c : Value) : Dk B (((W.setCell ⟨g, 0, none⟩ a).setCell ⟨g, 1, none⟩ b).setCell ⟨g, 2, none⟩ c) p L Ws st lf :=
  ((h.set hg (by decide) a).set (set_blk (i := 0) (u := a) hg) (by decide) b).set (set_blk (i := 1) (u := b) (set_blk (i := 0) (u := a) hg)) (by decide) c
theorem SlAt.set3 {B : Nat} {W : World} {q p : Nat} {x0 x1 : Slt} (h : SlAt B W q p x0 x1) {g : Nat} {x y z : Value} (hg : C3 W g x y z) (a b c : Value) : SlAt B (((W.setCell ⟨g, 0, none⟩ a).setCell ⟨g, 1, none⟩ b).setCell ⟨g, 2, none⟩ c) q p x0 x1 :=
  ((h.set hg (by decide) (by decide) a).set (set_blk (i := 0) (u := a) hg) (by decide) (by decide) b).set (set_blk (i := 1) (u := b) (set_blk (i := 0) (u := a) hg)) (by decide) (by decide) c
theorem below_set3' {B : Nat} {w W : World} {g : Nat} (h : Below B w W) (hg : B ≤ g) (a b c : Value) : Below B w (((W.setCell ⟨g, 0, none⟩ a).setCell ⟨g, 1, none⟩ b).setCell ⟨g, 2, none⟩ c) := ((h.setCell (p := ⟨g, 0, none⟩) hg _).setCell (p := ⟨g, 1, none⟩) hg _).setCell (p := ⟨g, 2, none⟩) hg _
end Go.Proofs.YtenjldfflkinkaaDoor.Sav

namespace Go.Proofs.YtenjldfflkinkaaDoor.Sav
set_option linter.unusedVariables false
set_option linter.unusedSimpArgs false
open Go.RowKit Go.Proofs.YtenjldfflkinkaaDoor.F Go.Proofs.YtenjldfflkinkaaDoorW.PrintWords Go.Proofs.YtenjldfflkinkaaDoorW.PrintLast Go.Proofs.YtenjldfflkinkaaDoorW.PrintMore
open Go.Proofs.YtenjldfflkinkaaDoor.Rop (Sl Ch ChV CV ChAt Rc Ro SV SP StOk rightE scl)
set_option linter.unusedSectionVars false
/-- the slots behind so many saves, the last one of these bytes -/
structure Pr (i : Nat) (L : List (List Int)) (x0 x1 : Slt) (bp : List Int) : Prop where
  ex : ∃ k o, PreS L k o ((i : Int) + 1) bp ∧ ((k = 0 ∧ ¬ whichP x0 x1 = 0) ∨ (k = 1 ∧ whichP x0 x1 = 0))
  last : lastE x0 x1 = (i : Int)
  e0 : x0.s = true → x0.e ≤ (i : Int)
  e1 : x1.s = true → x1.e ≤ (i : Int)
  l0 : x0.b.length ≤ 3240
  l1 : x1.b.length ≤ 3240
/-- what a crash leaves -/
def Crs (L : List (List Int)) (ws : List (Int × List Int)) (I : Nat) (b bp : List Int) : Prop :=
  L.length = 122 ∧ ws.length ≤ 1000 ∧ (∀ x ∈ ws, 0 ≤ x.1 ∧ x.1 < 122 ∧ x.2.length = 64) ∧ ABy L ∧ (∀ x ∈ ws, By x.2) ∧ ∀ ks, Out3 (crashL ks L ws (List.finRange ws.length)) (I : Int) b bp
abbrev L00 : List (List Int) := List.replicate 122 (List.replicate 64 0)
abbrev X00 : Slt := ⟨false, 0, []⟩
theorem L00_get {i : Nat} (h : i < 122) : L00.getD i [] = List.replicate 64 0 := by
  rw [List.getD_eq_getElem?_getD, List.getElem?_replicate, if_pos h]
  rfl
theorem L00_old {k : Nat} (h : k ≤ 1) : OldH L00 k 0 := by
  have h1 := L00_get (i := 61 * k) (by omega)
  refine ⟨by rw [h1]; rfl, by rw [h1]; rfl, ?_, by rw [h1]; rfl⟩
  unfold headE
  rw [h1]
  decide
theorem L00_read {k : Nat} (h : k ≤ 1) : readP L00 k = X00 := read_not (zero_not (L00_get (by omega)))
theorem L00_by : ABy L00 := fun x hx => by
  rw [List.eq_of_mem_replicate hx]
  exact By.zeros _
theorem Pr.start (bp : List Int) : Pr 0 L00 X00 X00 bp :=
  ⟨⟨0, 1, ⟨by simp, rfl, by decide, by decide, by simpa using L00_old (k := 0) (by decide), by simpa using L00_old (k := 1) (by decide), fun h => by omega⟩, .inl ⟨rfl, by decide⟩⟩, rfl, (fun h => by cases h), (fun h => by cases h), by decide, by decide⟩
theorem Crs.start (b bp : List Int) : Crs L00 [] 0 b bp := by
  refine ⟨by simp, by decide, (fun x hx => by cases hx), L00_by, (fun x hx => by cases hx), fun ks => ?_⟩
  show Out3 L00 0 b bp
  refine .inl ⟨?_, by decide⟩
  rw [L00_read (by decide), L00_read (by decide)]
  rfl
theorem which_0 {x0 x1 : Slt} {i e : Int} {b : List Int} (h1 : x1.s = true → x1.e ≤ i) (he : i < e) : whichP ⟨true, e, b⟩ x1 = 0 := by
  unfold whichP
  rw [if_neg (fun hh => by have h2 := h1 hh.1; have h3 := hh.2 rfl; dsimp only at h3; omega), if_pos rfl]
theorem which_1 {x0 : Slt} {i e : Int} {b : List Int} (h0 : x0.s = true → x0.e ≤ i) (he : i < e) : whichP x0 ⟨true, e, b⟩ = 1 := by
  unfold whichP
  rw [if_pos ⟨rfl, fun hh => by have h2 := h0 hh; dsimp only; omega⟩]
theorem last_0 {x0 x1 : Slt} (h : whichP x0 x1 = 0) : lastE x0 x1 = x0.e := by
  unfold lastE
  rw [if_neg (by rw [h]; decide), if_pos h]
theorem last_1 {x0 x1 : Slt} (h : whichP x0 x1 = 1) : lastE x0 x1 = x1.e := by
  unfold lastE
  rw [if_pos h]
/-- what Save gives -/
def GivesSv (B p q i : Nat) (st : Bool) (b bp : List Int) (w : World) (e : Ending) (w' : World) : Prop := ∃ (E : Int) (L : List (List Int)) (ws : List (Int × List Int)) (lf : Int) (x0 x1 : Slt), e = .returned (.int .i64 E) ∧ Dk B w' p L ws st lf ∧ SlAt B w' q p x0 x1 ∧ Mv B (64 :: DT) w w' ∧ (E = 0 ∨ (E = 170 ∧ st = true)) ∧ (st = false → ws = [] ∧ lf = 0 ∧ Pr (i + 1) L x0 x1 b) ∧ Crs L ws (i + 1) b bp
theorem Save_all {B : Nat} {w : World} {p q i : Nat} {L : List (List Int)} {st : Bool} {lf epoch : Int} {x0 x1 : Slt} {A : Option Addr} {n c base : Nat} {ok : Nat → Prop} {b bp : List Int} (H : Hv w) (hB0 : 0 < B) (hd : Dk B w p L [] st lf) (hs : SlAt B w q p x0 x1) (hlf : 0 ≤ lf ∧ lf ≤ 1000) (hlf0 : st = false → lf = 0) (hb : Kd.R (Kd.int .u8) 5 w base ok (.slice A n c) b) (hn0 : 0 < n) (hn : n ≤ 3240) (hP : Pr i L x0 x1 bp) (hi : i ≤ 5) (hL : ABy L) (hby : By b) (he : epoch = (i : Int) + 1) :
    Calls Tryd.prog 10 #[.pointer (some ⟨q, 0, none⟩), .slice A n c, .int .i64 epoch] w (GivesSv B p q i st b bp w) := by
  subst he
  obtain ⟨⟨k, o, hpre, hk⟩, hlast, he0, he1, hl0, hl1⟩ := hP
  have hbn : b.length = n := (Kd.R_reads' hb).1.symm
  rcases hk with ⟨rfl, hk⟩ | ⟨rfl, hk⟩
  · obtain rfl : o = 1 := by have := hpre.ko; omega
    refine (Save_0 (epoch := (i : Int) + 1) H hB0 hd hs hpre.len hlf hb hn0 hn (by rw [hlast]; omega) (by rw [hlast]; omega) (by omega) (by omega) (by omega) hk).mono ?_
    rintro e w' ⟨rfl, h1, h2, h3⟩
    obtain ⟨f1, f2, f3, f4, f5, f6⟩ := save_fin (st := st) (lf := lf) (b := b) hpre (by omega) _ rfl
    obtain ⟨g1, g2⟩ := save_by (st := st) (lf := lf) (b := b) (e := (i : Int) + 1) (k := 0) hL hby
    refine ⟨_, _, _, _, _, _, rfl, h1, h2, h3, f1, fun hst => ?_, f3, f4, f5, g1, g2, fun ks => ?_⟩
    · obtain ⟨a1, a2, a3, a4⟩ := f2 hst
      have hE : (saveS st L lf 0 ((i : Int) + 1) b).e = 0 := by
        rcases f1 with h | ⟨_, h⟩
        · exact h
        · rw [hst] at h; cases h
      rw [if_pos hE]
      refine ⟨a1, by rw [a2]; exact hlf0 hst, ?_⟩
      have hw := which_0 (x0 := x0) (x1 := x1) (e := (i : Int) + 1) (b := b) he1 (by omega)
      exact ⟨⟨1, 0, by have := hpre.next (by omega) f3 a4 a3; push_cast; exact this, .inr ⟨rfl, hw⟩⟩, by rw [last_0 hw]; push_cast; rfl, (fun _ => by push_cast; exact Int.le_refl _), (fun h => by have := he1 h; push_cast; omega), by show b.length ≤ 3240; omega, hl1⟩
    · have := fin_out hpre.ko hpre.n1 (f6 ks)
      push_cast
      exact this
  · obtain rfl : o = 0 := by have := hpre.ko; omega
    refine (Save_1 (epoch := (i : Int) + 1) H hB0 hd hs hpre.len hlf hb hn0 hn (by rw [hlast]; omega) (by rw [hlast]; omega) (by omega) (by omega) (by omega) hk).mono ?_
    rintro e w' ⟨rfl, h1, h2, h3⟩
    obtain ⟨f1, f2, f3, f4, f5, f6⟩ := save_fin (st := st) (lf := lf) (b := b) hpre (by omega) _ rfl
    obtain ⟨g1, g2⟩ := save_by (st := st) (lf := lf) (b := b) (e := (i : Int) + 1) (k := 1) hL hby
    refine ⟨_, _, _, _, _, _, rfl, h1, h2, h3, f1, fun hst => ?_, f3, f4, f5, g1, g2, fun ks => ?_⟩
    · obtain ⟨a1, a2, a3, a4⟩ := f2 hst
      have hE : (saveS st L lf 1 ((i : Int) + 1) b).e = 0 := by
        rcases f1 with h | ⟨_, h⟩
        · exact h
        · rw [hst] at h; cases h
      rw [if_pos hE]
      refine ⟨a1, by rw [a2]; exact hlf0 hst, ?_⟩
      have hw := which_1 (x0 := x0) (e := (i : Int) + 1) (b := b) he0 (by omega)
      exact ⟨⟨0, 1, by have := hpre.next (by omega) f3 a4 a3; push_cast; exact this, .inl ⟨rfl, by rw [hw]; decide⟩⟩, by rw [last_1 hw]; push_cast; rfl, (fun h => by have := he0 h; push_cast; omega), (fun _ => by push_cast; exact Int.le_refl _), hl0, by show b.length ≤ 3240; omega⟩
    · have := fin_out hpre.ko hpre.n1 (f6 ks)
      push_cast
      exact this
theorem by_chsL (xs : Nat → Ch) : ∀ n, (∀ i, i < n → (∀ r ∈ (xs i).gone, scal r) ∧ (∀ r ∈ (xs i).came, scal r)) → By (chsL xs n)
  | 0, _ => fun x hx => by cases hx
  | n + 1, h => (by_chsL xs n (fun i hi => h i (by omega))).append (((By.big4 _).append (by_pieceB (h n (by omega)).1)).append (by_pieceB (h n (by omega)).2))
theorem by_chsB {xs : Nat → Ch} {n : Nat} (hn : n < 256) (h : ∀ i, i < n → (∀ r ∈ (xs i).gone, scal r) ∧ (∀ r ∈ (xs i).came, scal r)) : By (chsB n xs) := fun x hx => by
  unfold chsB at hx
  rcases List.mem_cons.1 hx with rfl | hx
  · omega
  · exact by_chsL xs n h x hx
theorem by_state {v : SV} {s : SP} (k : Int) (h : Rt v s) : By (stateB k v s) := by
  have := h.n12
  unfold stateB
  exact (((By.big4 _).append (by_pieceB h.t)).append (by_chsB (by omega) h.x1)).append (by_chsB (by omega) h.x2)
theorem state_pos (k : Int) (v : SV) (s : SP) : 0 < (stateB k v s).length := by
  unfold stateB big4
  simp
end Go.Proofs.YtenjldfflkinkaaDoor.Sav

namespace Go.Proofs.YtenjldfflkinkaaDoor.Sav
set_option linter.unusedVariables false
set_option linter.unusedSimpArgs false
open Go.RowKit Go.Proofs.YtenjldfflkinkaaDoor.F Go.Proofs.YtenjldfflkinkaaDoorW.PrintWords Go.Proofs.YtenjldfflkinkaaDoorW.PrintLast Go.Proofs.YtenjldfflkinkaaDoorW.PrintMore
open Go.Proofs.YtenjldfflkinkaaDoor.Rop (Sl Ch ChV CV ChAt Rc Ro SV SP StOk rightE scl bd C3 Put1 effE doneT fitsB Nxt eff_ok GivesSt Apply_calls)
set_option linter.unusedSectionVars false
/-- an operation, read -/
structure OpAt (W : World) (ad : Addr) (k a b : Int) (A : Option Addr) (z : List Int) (c : Nat) : Prop where
  c0 : W.cell? ad = some (.int .i64 k)
  c1 : W.cell? ⟨ad.block, ad.off + 1, none⟩ = some (.int .i64 a)
  c2 : W.cell? ⟨ad.block, ad.off + 2, none⟩ = some (.int .i64 b)
  c3 : W.cell? ⟨ad.block, ad.off + 3, none⟩ = some (.slice A z.length c)
  hC : Kd.C (Kd.int .i32) W A z.length z
  hc : z.length ≤ c
  hm : c ≤ 9223372036854775807
def OpRow (W : World) (A : Option Addr) (n c : Nat) : Prop := n ≤ c ∧ c ≤ 9223372036854775807 ∧ ∀ i, i < n → ∃ ad k a b A' z c', A = some ad ∧ OpAt W (ad.add (i * 4)) k a b A' z c'
def OpRows (W : World) (A : Option Addr) (n c : Nat) : Prop := n ≤ c ∧ c ≤ 9223372036854775807 ∧ ∀ i, i < n → ∃ ad A' n' c', A = some ad ∧ W.cell? (ad.add i) = some (.slice A' n' c') ∧ OpRow W A' n' c'
theorem OpAt.below {W W' : World} {ad : Addr} {k a b : Int} {A : Option Addr} {z : List Int} {c : Nat} (h : OpAt W ad k a b A z c) (hb : Below W.heap.size W W') : OpAt W' ad k a b A z c :=
  ⟨(hb.cell (World.block_lt_of_cell? W _ h.c0)).trans h.c0, (hb.cell (World.block_lt_of_cell? W _ h.c1)).trans h.c1, (hb.cell (World.block_lt_of_cell? W _ h.c2)).trans h.c2, (hb.cell (World.block_lt_of_cell? W _ h.c3)).trans h.c3, Kd.C_below h.hC hb, h.hc, h.hm⟩
section
variable [Coe Unit Nat]
theorem OpAt.sl {W : World} {ad : Addr} {k a b : Int} {A : Option Addr} {z : List Int} {c : Nat} (h : OpAt W ad k a b A z c) (hb : W.heap.size ≤ bd) : Sl W A z.length c z :=
  ⟨h.hC, rfl, h.hc, h.hm, fun hn ad' hA hbd => by
    have hr := Kd.reads_of_C (d := (0 : Int)) h.hC
    obtain ⟨ad2, he, hc⟩ := hr.2.2 hn
    rw [hA] at he
    injection he with he
    subst he
    have h1 := World.block_lt_of_cell? W _ (hc 0 hn)
    have h2 : (ad'.add 0).block = ad'.block := rfl
    rw [h2] at h1
    omega⟩
/-- Apply, of a right state -/
theorem Apply_next {w : World} {v : SV} {s : SP} {Az : Option Addr} {nz cz : Nat} {z : List Int} {k a b : Int} (h : StOk w v s) (hg : Rg4 s.text v.n1 v.n2 s.x1 s.x2) (hz : Sl w Az nz cz z) (hnz : nz ≤ 5000) : Calls Tryd.prog 6 #[v.val, .agg #[.int .i64 k, .int .i64 a, .int .i64 b, .slice Az nz cz]] w fun e w' => ∃ A n c A1 n1 c1 A2 n2 c2 q, e = .returned (.tuple #[.agg #[.slice A n c, .slice A1 n1 c1, .slice A2 n2 c2], .int .i64 q]) ∧ Below w.heap.size w w' ∧ (q = 0 → ∃ v1 v2 s', StOk w' ⟨A, n, c, A1, n1, c1, A2, n2, c2, v1, v2⟩ s' ∧ Rg4 s'.text n1 n2 s'.x1 s'.x2) := by
  refine (Apply_calls (k := k) (a := a) (b := b) h hz hnz).mono ?_
  rintro e w' ⟨A, n, c, A1, n1, c1, A2, n2, c2, rfl, hb, hq⟩
  refine ⟨A, n, c, A1, n1, c1, A2, n2, c2, _, rfl, hb, fun h0 => ?_⟩
  obtain ⟨v1, v2, x1, x2, hst, _, _, _, hN⟩ := hq h0
  obtain ⟨f1, f2, _⟩ := eff_ok h (by rw [hz.hn]; exact hnz) h0
  exact ⟨v1, v2, _, hst, right_keep hg (Prod.ext rfl h0) f1 f2 hN⟩
/-- what a round keeps -/
structure Inn (w W : World) (p q g10 g11 : Nat) (L : List (List Int)) (x0 x1 : Slt) (v : SV) (s : SP) (v' : SV) (s' : SP) : Prop where
  b : Below w.heap.size w W
  dk : Dk w.heap.size W p L [] false 0
  sl : SlAt w.heap.size W q p x0 x1
  now : Sta W g10 v s
  was : Sta W g11 v' s'
  h10 : w.heap.size ≤ g10
  h11 : w.heap.size ≤ g11
  ne : g10 ≠ g11
theorem Inn.below {w W W' : World} {p q g10 g11 : Nat} {L : List (List Int)} {x0 x1 : Slt} {v v' : SV} {s s' : SP} (h : Inn w W p q g10 g11 L x0 x1 v s v' s') (hb : Below W.heap.size W W') : Inn w W' p q g10 g11 L x0 x1 v s v' s' :=
  ⟨below_step h.b hb, h.dk.below hb, h.sl.below hb, h.now.below hb, h.was.below hb, h.h10, h.h11, h.ne⟩
/-- the state is set -/
theorem Inn.setNow {w W : World} {p q g10 g11 : Nat} {L : List (List Int)} {x0 x1 : Slt} {v v' v2 : SV} {s s' s2 : SP} (h : Inn w W p q g10 g11 L x0 x1 v s v' s') (hbd : bd ≤ w.heap.size) (ho : StOk W v2 s2) (hr : Rg4 s2.text v2.n1 v2.n2 s2.x1 s2.x2) :
    Inn w (((W.setCell ⟨g10, 0, none⟩ (.slice v2.A v2.n v2.c)).setCell ⟨g10, 1, none⟩ (.slice v2.A1 v2.n1 v2.c1)).setCell ⟨g10, 2, none⟩ (.slice v2.A2 v2.n2 v2.c2)) p q g10 g11 L x0 x1 v2 s2 v' s' := by
  have hp := Put1.three W g10 (.slice v2.A v2.n v2.c) (.slice v2.A1 v2.n1 v2.c1) (.slice v2.A2 v2.n2 v2.c2)
  have hb : bd ≤ g10 := Nat.le_trans hbd h.h10
  have hno := h.now.st.noI
  refine ⟨below_set3' h.b h.h10 _ _ _, h.dk.set3 h.now.st _ _ _, h.sl.set3 h.now.st _ _ _, ⟨set3_blk h.now.st, ok_put ho hp hno h.now.st hb (by decide), hr⟩, ⟨(hp.2 g11 (blk_lt h.was.st) (Ne.symm h.ne)).trans h.was.st, ok_put h.was.ok hp hno h.now.st hb (by decide), h.was.rg⟩, h.h10, h.h11, h.ne⟩
theorem Inn.setWas {w W : World} {p q g10 g11 : Nat} {L : List (List Int)} {x0 x1 : Slt} {v v' : SV} {s s' : SP} (h : Inn w W p q g10 g11 L x0 x1 v s v' s') (hbd : bd ≤ w.heap.size) :
    Inn w (((W.setCell ⟨g11, 0, none⟩ (.slice v.A v.n v.c)).setCell ⟨g11, 1, none⟩ (.slice v.A1 v.n1 v.c1)).setCell ⟨g11, 2, none⟩ (.slice v.A2 v.n2 v.c2)) p q g10 g11 L x0 x1 v s v s := by
  have hp := Put1.three W g11 (.slice v.A v.n v.c) (.slice v.A1 v.n1 v.c1) (.slice v.A2 v.n2 v.c2)
  have hb : bd ≤ g11 := Nat.le_trans hbd h.h11
  have hno := h.was.st.noI
  have ho := ok_put h.now.ok hp hno h.was.st hb (by decide)
  refine ⟨below_set3' h.b h.h11 _ _ _, h.dk.set3 h.was.st _ _ _, h.sl.set3 h.was.st _ _ _, ⟨(hp.2 g10 (blk_lt h.now.st) h.ne).trans h.now.st, ho, h.now.rg⟩, ⟨set3_blk h.was.st, ho, h.now.rg⟩, h.h10, h.h11, h.ne⟩
/-- what the rounds leave behind -/
structure EndS (w W : World) (p g10 g11 I : Nat) (v : SV) (s : SP) (v' : SV) (s' : SP) : Prop where
  b : Below w.heap.size w W
  now : Sta W g10 v s
  was : Sta W g11 v' s'
  dk : ∃ L ws st lf, Dk w.heap.size W p L ws st lf ∧ Crs L ws I (stateB ((I : Int) - 1) v s) (stateB ((I : Int) - 2) v' s')
/-- ahead of a round, and behind the last one -/
def TRel (w : World) (p q g10 g11 n0 i : Nat) (W : World) : Prop :=
  (∃ L x0 x1 v s v' s', Inn w W p q g10 g11 L x0 x1 v s v' s' ∧ Pr i L x0 x1 (stateB ((i : Int) - 1) v s) ∧ ABy L ∧ i < n0 ∧ i < 6) ∨ (∃ v s v' s', EndS w W p g10 g11 i v s v' s' ∧ (i = n0 ∨ i = 6))
theorem stop_val (t : Int) : ∃ x : Int, wrap64 ((IntKind.u64.wrap t).tmod 70) = x ∧ 0 ≤ x ∧ x ≤ 1000 := by
  have h1 : IntKind.u64.wrap t = t % 18446744073709551616 := by simp [IntKind.wrap, IntKind.bits, IntKind.signed]
  rw [h1]
  have h2 : 0 ≤ t % 18446744073709551616 := by omega
  rw [Int.tmod_eq_emod_of_nonneg h2]
  unfold wrap64
  exact ⟨_, rfl, by omega, by omega⟩
theorem kB_T {T : List Nat} (h : 5 ∉ T) : ∀ q, q ∈ 5 :: (Kd.int .u8).E → q ∉ T := fun q hq => by
  have hE : (Kd.int .u8).E = [] := rfl
  rw [hE] at hq
  rw [List.mem_singleton.1 hq]
  exact h
theorem below_tr {B : Nat} {a b c : World} (h : Below B a b) (k : Below B b c) : Below B a c := ⟨k.os.trans h.os, k.tape.trans h.tape, k.output.trans h.output, Nat.le_trans h.size k.size, fun i hi => (k.block i hi).trans (h.block i hi)⟩
/-- a round whose save is done -/
theorem trel_live {w W W' : World} {p q g10 g11 n0 i : Nat} {L L' : List (List Int)} {x0 x1 y0 y1 : Slt} {v v' : SV} {s s' : SP} (h : Inn w W p q g10 g11 L x0 x1 v s v' s') (hbd : bd ≤ w.heap.size) (hw : w.heap.size ≤ W.heap.size) (hm : Mv w.heap.size (64 :: DT) W W') (hd : Dk w.heap.size W' p L' [] false 0) (hs : SlAt w.heap.size W' q p y0 y1) (hP : Pr (i + 1) L' y0 y1 (stateB (i : Int) v s)) (hL : ABy L') (h1 : i + 1 < n0) (h2 : i + 1 < 6) : TRel w p q g10 g11 n0 (i + 1) W' := by
  refine .inl ⟨L', y0, y1, v, s, v', s', ⟨below_tr h.b (hm.below hw), hd, hs, h.now.mv hm hbd, h.was.mv hm hbd, h.h10, h.h11, h.ne⟩, ?_, hL, h1, h2⟩
  rw [show (((i + 1 : Nat) : Int) - 1) = (i : Int) by omega]
  exact hP
/-- the last round -/
theorem trel_end {w W W' : World} {p q g10 g11 n0 i : Nat} {L L' : List (List Int)} {ws : List (Int × List Int)} {st : Bool} {lf : Int} {x0 x1 : Slt} {v v' : SV} {s s' : SP} (h : Inn w W p q g10 g11 L x0 x1 v s v' s') (hbd : bd ≤ w.heap.size) (hw : w.heap.size ≤ W.heap.size) (hm : Mv w.heap.size (64 :: DT) W W') (hd : Dk w.heap.size W' p L' ws st lf) (hc : Crs L' ws (i + 1) (stateB (i : Int) v s) (stateB ((i : Int) - 1) v' s')) (h1 : i + 1 = n0 ∨ i + 1 = 6) : TRel w p q g10 g11 n0 (i + 1) W' := by
  refine .inr ⟨v, s, v', s', ⟨below_tr h.b (hm.below hw), h.now.mv hm hbd, h.was.mv hm hbd, L', ws, st, lf, hd, ?_⟩, h1⟩
  rw [show (((i + 1 : Nat) : Int) - 1) = (i : Int) by omega, show (((i + 1 : Nat) : Int) - 2) = (i : Int) - 1 by omega]
  exact hc
def SV0 : SV := ⟨none, 0, 0, none, 0, 0, none, 0, 0, fun _ => ⟨0, none, 0, 0, none, 0, 0⟩, fun _ => ⟨0, none, 0, 0, none, 0, 0⟩⟩
def SP0 : SP := ⟨[], fun _ => ⟨0, [], []⟩, fun _ => ⟨0, [], []⟩⟩
theorem ok_zero (W : World) : StOk W SV0 SP0 :=
  ⟨Sl.nil W, ⟨(fun i hi => absurd hi (Nat.not_lt_zero _)), Nat.le_refl _, (by decide), (fun _ => rfl), (fun h => absurd h (Nat.lt_irrefl _))⟩, ⟨(fun i hi => absurd hi (Nat.not_lt_zero _)), Nat.le_refl _, (by decide), (fun _ => rfl), (fun h => absurd h (Nat.lt_irrefl _))⟩, by decide, by decide, by decide, (fun i hi => absurd hi (Nat.not_lt_zero _)), (fun i hi => absurd hi (Nat.not_lt_zero _))⟩
theorem rg_zero : Rg4 SP0.text SV0.n1 SV0.n2 SP0.x1 SP0.x2 := ⟨by decide, by decide, rfl, rfl, rfl⟩
theorem sta_zero {W : World} {g : Nat} (h : C3 W g (.slice none 0 0) (.slice none 0 0) (.slice none 0 0)) : Sta W g SV0 SP0 := ⟨h, ok_zero W, rg_zero⟩
/-- no stretches at all -/
theorem TRel.start {w W : World} {p q g10 g11 n0 : Nat} (h : Inn w W p q g10 g11 L00 X00 X00 SV0 SP0 SV0 SP0) : TRel w p q g10 g11 n0 0 W := by
  by_cases hn : n0 = 0
  · exact .inr ⟨_, _, _, _, ⟨h.b, h.now, h.was, L00, [], false, 0, h.dk, Crs.start _ _⟩, .inl hn.symm⟩
  · exact .inl ⟨_, _, _, _, _, _, _, h, Pr.start _, L00_by, by omega, by omega⟩
end
end Go.Proofs.YtenjldfflkinkaaDoor.Sav

namespace Go.Proofs.YtenjldfflkinkaaDoor.Sav
set_option linter.unusedVariables false
set_option linter.unusedSimpArgs false
open Go.ChangeShapes Go.WideShapes Go.ChangeAt Go.RowKit Go.Proofs.YtenjldfflkinkaaDoor.F Go.Proofs.YtenjldfflkinkaaDoorW.PrintWords Go.Proofs.YtenjldfflkinkaaDoorW.PrintLast Go.Proofs.YtenjldfflkinkaaDoorW.PrintMore
theorem cells_op : Tryd.prog.cellsOf 37 = 4 := by kernel_rfl
theorem cells_ops : Tryd.prog.cellsOf 35 = 1 := by kernel_rfl
theorem cells_int : Tryd.prog.cellsOf 3 = 1 := by kernel_rfl
theorem cells_runes : Tryd.prog.cellsOf 31 = 1 := by kernel_rfl
theorem cells_rune : Tryd.prog.cellsOf 21 = 1 := by kernel_rfl
def InRow (w : World) (a0 : Option Addr) (len0 cap0 : Nat) (z0 : List Int) : Prop :=
  (a0 = none ∧ len0 = 0 ∧ cap0 = 0 ∧ z0 = []) ∨ ∃ x, a0 = some x ∧ len0 ≤ cap0 ∧ cap0 ≤ maxLen ∧ z0.length = cap0 ∧ (∀ i, i < z0.length → w.cell? (x.add i) = some (.int .i32 (z0.getD i 0))) ∧ ∀ n ∈ z0, (Lit.int .i32 n).wf = true
theorem InRow.list {w : World} {a0 : Option Addr} {len0 cap0 : Nat} {z0 : List Int} (h : InRow w a0 len0 cap0 z0) :
    ∃ l : List Int, len0 = l.length ∧ Kd.C (Kd.int .i32) w a0 l.length l ∧ l.length ≤ cap0 ∧ cap0 ≤ 9223372036854775807 := by
  obtain ⟨l0, rfl, hr0, hm0, hw0, hc0⟩ := ReadsInt.ofRowC h
  have hcm : cap0 ≤ 9223372036854775807 := by
    rcases h with ⟨_, _, rfl, _⟩ | ⟨_, _, _, h, _⟩
    · omega
    · simpa [maxLen] using h
  exact ⟨l0, rfl, Kd.C_of_reads (d := (0 : Int)) (h1 := fun _ => rfl) hr0, hc0, hcm⟩
theorem open_runes {H : Type} {enc : TypeId × Value → H} {W : World} {c : Value} {y : DataW H × List MemPlace} {n : Nat} (h : DataW.trod enc Tryd.prog W 0 (fun _ => true) true n 31 [c] = some y) :
    ∃ a len cap zs, c = .slice a len cap ∧ InRow W a len cap zs := by
  rcases open_ints Tryd.underlying31 Tryd.underlying21 cells_rune h with ⟨hcs, _⟩ | ⟨x, l, c', zs, hcs, _, hl, hm, hz, _, hcell, hwz⟩
  · simp at hcs
    exact ⟨none, 0, 0, [], hcs, .inl ⟨rfl, rfl, rfl, rfl⟩⟩
  · simp at hcs
    exact ⟨some x, l, c', zs, hcs, .inr ⟨_, rfl, hl, hm, by simpa using hz, hcell, hwz⟩⟩
theorem add_lit {a : Addr} {j : Nat} (h : j ≠ 0) : a.add j = ⟨a.block, a.off + j, none⟩ := by
  unfold Addr.add
  rw [if_neg h]
set_option maxRecDepth 100000 in
theorem open_ops1 {H : Type} {enc : TypeId × Value → H} {W : World} {c : Value} {y : DataW H × List MemPlace} {fuel : Nat} (h : DataW.trod enc Tryd.prog W 0 (fun _ => true) true fuel 35 [c] = some y) :
    ∃ A len cap, c = .slice A len cap ∧ OpRow W A len cap := by
  obtain ⟨d, p⟩ := y
  rcases DataW.trod_slice Tryd.underlying35 h with ⟨hcs, _⟩ | ⟨x, l, c', elems, rest, n, -, hcs, -, -, hl, hm, hlen, hel, -, -⟩
  · simp at hcs
    exact ⟨none, 0, 0, hcs, Nat.le_refl _, by decide, fun i hi => absurd hi (Nat.not_lt_zero _)⟩
  · simp at hcs
    refine ⟨some x, l, c', hcs, hl, by simpa [maxLen] using hm, fun i hi => ?_⟩
    have h1 := hel i hi
    rw [cells_op, List.getElem?_eq_getElem (by omega), Option.bind_eq_some_iff] at h1
    obtain ⟨cs, hcs, ht⟩ := h1
    have hget := World.cells?_some hcs
    obtain ⟨xs, m, -, -, hcl, hxl, hparts⟩ := DataW.trod_struct Tryd.underlying37 ht
    rw [cells_op] at hcl
    match cs, hcl with
    | [c0, c1, c2, c3], _ =>
      match xs, hxl with
      | [y0, y1, y2, y3], _ =>
        have g0 : DataW.trod enc Tryd.prog W 0 (fun _ => true) true m 3 [c0] = some y0 := by simpa [cells_int] using hparts 0 _ rfl
        have g1 : DataW.trod enc Tryd.prog W 0 (fun _ => true) true m 3 [c1] = some y1 := by simpa [cells_int] using hparts 1 _ rfl
        have g2 : DataW.trod enc Tryd.prog W 0 (fun _ => true) true m 3 [c2] = some y2 := by simpa [cells_int] using hparts 2 _ rfl
        have g3 : DataW.trod enc Tryd.prog W 0 (fun _ => true) true m 31 [c3] = some y3 := by simpa [cells_runes] using hparts 3 _ rfl
        obtain ⟨a0, e0, -, v0⟩ := DataW.trod_int Tryd.underlying3 g0
        obtain ⟨a1, e1, -, v1⟩ := DataW.trod_int Tryd.underlying3 g1
        obtain ⟨a2, e2, -, v2⟩ := DataW.trod_int Tryd.underlying3 g2
        obtain ⟨A, ln, cp, zs, rfl, hin⟩ := open_runes g3
        simp at e0 e1 e2
        subst e0 e1 e2
        have k0 := hget.2.2 0 (by decide)
        have k1 := hget.2.2 1 (by decide)
        have k2 := hget.2.2 2 (by decide)
        have k3 := hget.2.2 3 (by decide)
        rw [add_lit (by decide)] at k1 k2 k3
        obtain ⟨z, rfl, hC, hc, hm2⟩ := hin.list
        exact ⟨x, a0, a1, a2, A, z, cp, rfl, ⟨by simpa [Addr.add_add] using k0, by simpa using k1, by simpa using k2, by simpa using k3, hC, hc, hm2⟩⟩
set_option maxRecDepth 100000 in
theorem open_opss {H : Type} {enc : TypeId × Value → H} {W : World} {a : Option Addr} {len cap : Nat} {d : DataW H} {p : List MemPlace} (h : DataW.Trod enc Tryd.prog W 0 (fun _ => true) true 22 (.slice a len cap) d p) :
    OpRows W a len cap := by
  obtain ⟨fuel, hf⟩ := h
  rcases DataW.trod_slice Tryd.underlying22 hf with ⟨hcs, _⟩ | ⟨x, l, c, elems, rest, n, -, hcs, -, -, hl, hm, hlen, hel, -, -⟩
  · simp [Value.cells] at hcs
    obtain ⟨rfl, rfl, rfl⟩ := hcs
    exact ⟨Nat.le_refl _, by decide, fun i hi => absurd hi (Nat.not_lt_zero _)⟩
  · simp [Value.cells] at hcs
    obtain ⟨rfl, rfl, rfl⟩ := hcs
    refine ⟨hl, by simpa [maxLen] using hm, fun i hi => ?_⟩
    have h1 := hel i hi
    rw [cells_ops, List.getElem?_eq_getElem (by omega), Option.bind_eq_some_iff] at h1
    obtain ⟨cs, hcs, ht⟩ := h1
    have hget := World.cells?_some hcs
    have hl1 : cs.length = 1 := hget.2.1
    match cs, hl1 with
    | [c0], _ =>
      obtain ⟨A', n', c', rfl, hrow⟩ := open_ops1 ht
      have k0 := hget.2.2 0 (by decide)
      refine ⟨x, A', n', c', rfl, ?_, hrow⟩
      have k1 := k0
      simp only [Nat.mul_one] at k1
      exact k1
end Go.Proofs.YtenjldfflkinkaaDoor.Sav

namespace Go.Proofs.YtenjldfflkinkaaDoor.Sav
set_option linter.unusedVariables false
set_option linter.unusedSimpArgs false
open Go.RowKit Go.Proofs.YtenjldfflkinkaaDoor.F Go.Proofs.YtenjldfflkinkaaDoorW.PrintWords Go.Proofs.YtenjldfflkinkaaDoorW.PrintLast Go.Proofs.YtenjldfflkinkaaDoorW.PrintMore
theorem which_s0 {x0 x1 : Slt} (h : whichP x0 x1 = 0) : x0.s = true := by
  unfold whichP at h
  split at h
  · cases h
  · split at h
    · assumption
    · cases h
theorem which_s1 {x0 x1 : Slt} (h : whichP x0 x1 = 1) : x1.s = true := by
  unfold whichP at h
  split at h
  · rename_i h1
    exact h1.1
  · split at h <;> cases h
theorem read_pos {L : List (List Int)} {k : Nat} (h : (readP L k).s = true) : 1 ≤ (readP L k).e := by
  rw [read_epoch h]
  exact (read_s h).1
/-- bytes told with an epoch -/
def Told (w w' : World) (vb : Value) (b : List Int) : Prop := ∃ A c, vb = .slice A b.length c ∧ Sb w' A b.length c b ∧ b.length ≤ 3240
theorem Latest_out {B : Nat} {w : World} {q p : Nat} {C : List (List Int)} {n : Int} {b bp : List Int} (hs : SlAt B w q p (readP C 0) (readP C 1)) (ho : Out3 C n b bp) : Calls Tryd.prog 12 #[.pointer (some ⟨q, 0, none⟩)] w fun e w' => ∃ (vb : Value) (ep : Int) (o : Bool), e = .returned (.tuple #[vb, .int .i64 ep, .bool o]) ∧ Below w.heap.size w w' ∧ ((o = false ∧ n ≤ 1) ∨ (o = true ∧ ep = n ∧ 1 ≤ n ∧ Told w w' vb b) ∨ (o = true ∧ ep = n - 1 ∧ 2 ≤ n ∧ Told w w' vb bp)) := by
  have told : ∀ {v : Value} {w' : World} {l : List Int}, Kd.R (Kd.int .u8) 5 w' w.heap.size (fun _ => True) v l → l.length ≤ 3240 → Told w w' v l := fun h hl => by
    obtain ⟨A, c, rfl, h1⟩ := own_sb h
    exact ⟨A, c, rfl, h1, hl⟩
  rcases ho with ⟨h1, h2⟩ | ⟨h1, hr⟩ | ⟨h1, hr⟩
  · refine (Latest_none hs h1).mono ?_
    rintro e w' ⟨rfl, hb⟩
    exact ⟨_, _, _, rfl, hb, .inl ⟨rfl, h2⟩⟩
  · have hp := read_pos (which_s0 h1)
    have hl : (readP C 0).b.length ≤ 100000 := by rcases hr with ⟨_, h, h3⟩ | ⟨_, _, h, h3⟩ <;> (rw [h]; omega)
    refine (Latest_0 hs h1 hl).mono ?_
    rintro e w' ⟨v, rfl, hk, hb⟩
    rcases hr with ⟨he, hbb, h3⟩ | ⟨h2, he, hbb, h3⟩
    · rw [hbb] at hk
      exact ⟨_, _, _, rfl, hb, .inr (.inl ⟨rfl, he, by omega, told hk h3⟩)⟩
    · rw [hbb] at hk
      exact ⟨_, _, _, rfl, hb, .inr (.inr ⟨rfl, he, h2, told hk h3⟩)⟩
  · have hp := read_pos (which_s1 h1)
    have hl : (readP C 1).b.length ≤ 100000 := by rcases hr with ⟨_, h, h3⟩ | ⟨_, _, h, h3⟩ <;> (rw [h]; omega)
    refine (Latest_1 hs h1 hl).mono ?_
    rintro e w' ⟨v, rfl, hk, hb⟩
    rcases hr with ⟨he, hbb, h3⟩ | ⟨h2, he, hbb, h3⟩
    · rw [hbb] at hk
      exact ⟨_, _, _, rfl, hb, .inr (.inl ⟨rfl, he, by omega, told hk h3⟩)⟩
    · rw [hbb] at hk
      exact ⟨_, _, _, rfl, hb, .inr (.inr ⟨rfl, he, h2, told hk h3⟩)⟩
end Go.Proofs.YtenjldfflkinkaaDoor.Sav

namespace Go.Proofs.YtenjldfflkinkaaDoor.Sav
set_option linter.unusedVariables false
set_option linter.unusedSimpArgs false
open Go.RowKit Go.Proofs.YtenjldfflkinkaaDoor.F Go.Proofs.YtenjldfflkinkaaDoorW.PrintWords Go.Proofs.YtenjldfflkinkaaDoorW.PrintLast Go.Proofs.YtenjldfflkinkaaDoorW.PrintMore
open Go.Proofs.YtenjldfflkinkaaDoor.Rop (Sl Ch ChV CV ChAt Rc Ro SV SP StOk rightE scl bd C3 Put1)
set_option linter.unusedSectionVars false
variable [Coe Unit Nat]
set_option maxRecDepth 100000 in
set_option maxHeartbeats 16000000 in
theorem saves_walk {w : World} {A0 : Option Addr} {n0 c0 : Nat} {t : Int} {Ak : Option Addr} {nk ck : Nat} {ks : List Int} (hbd : bd = w.heap.size) (H : Hv w) (hA : OpRows w A0 n0 c0) (hk : Kd.C (Kd.int .i64) w Ak nk ks) (hkn : ks.length = nk) (hkb : nk ≤ 1000000000000000) :
    Calls Tryd.prog 3 #[.slice A0 n0 c0, .int .i64 t, .slice Ak nk ck] w fun e w' => e = .returned (.bool true) ∧ Below w.heap.size w w' := by
  have HH := Aside0.mk H
  have HA := Aside0.mk hA
  have HK := Aside0.mk hk
  have HKN := Aside0.mk hkn
  have HKB := Aside0.mk hkb
  have HBD := Aside0.mk hbd
  have hw0 : Aside0 (0 < w.heap.size) := ⟨World.block_lt_of_cell? w _ (H 0 (by decide))⟩
  have hn0 : n0 ≤ 9223372036854775807 := Nat.le_trans hA.1 hA.2.1
  have COp := Aside0.mk (fun W p (hb : Below w.heap.size w W) (hd : Dk w.heap.size W p L00 [] false 0) => Open2_calls (H.below hb) hd rfl (by simp) L00_by)
  clear H hA hk hkn hkb hbd
  go_enter Tryd.func3, Tryd.ntmps3
  go_upto_region 8 with (first
    | (go_at_call 4; (with_reducible refine New_calls.mono ?_); rintro e w1 ⟨p, rfl, hd1, hb1⟩; have HD1 := Aside0.mk hd1; have HB1 := Aside0.mk hb1; clear hd1 hb1)
    | (go_at_call 5; (with_reducible refine (COp.out _ _ HB1.out HD1.out).mono ?_); rintro e w2 ⟨q, rfl, hs2, hb2⟩; have HS2 := Aside0.mk hs2; have HB2 := Aside0.mk hb2; clear hs2 hb2))
  have b2 := below_step HB1.out HB2.out
  obtain ⟨g10, hg10⟩ : ∃ g, w2.heap.size = g := ⟨_, rfl⟩
  have h10 : w.heap.size ≤ g10 := by have := b2.size; omega
  have b3 : Below w2.heap.size w2 ((w2.alloc (.cells #[.slice none 0 0, .slice none 0 0, .slice none 0 0] 34)).alloc (.cells #[.slice none 0 0, .slice none 0 0, .slice none 0 0] 34)) := below_alloc (below_alloc (Below.refl _ _) _) _
  have k11 : ((w2.alloc (.cells #[.slice none 0 0, .slice none 0 0, .slice none 0 0] 34)).alloc (.cells #[.slice none 0 0, .slice none 0 0, .slice none 0 0] 34)).heap[w2.heap.size + 1]? = some (.cells #[.slice none 0 0, .slice none 0 0, .slice none 0 0] 34 (0, 0)) := by
    have := World.alloc_heap_new (w2.alloc (.cells #[.slice none 0 0, .slice none 0 0, .slice none 0 0] 34)) (.cells #[.slice none 0 0, .slice none 0 0, .slice none 0 0] 34)
    rw [World.size_alloc] at this
    exact this
  have k10 : ((w2.alloc (.cells #[.slice none 0 0, .slice none 0 0, .slice none 0 0] 34)).alloc (.cells #[.slice none 0 0, .slice none 0 0, .slice none 0 0] 34)).heap[w2.heap.size]? = some (.cells #[.slice none 0 0, .slice none 0 0, .slice none 0 0] 34 (0, 0)) :=
    blk_below (World.alloc_heap_new w2 (.cells #[.slice none 0 0, .slice none 0 0, .slice none 0 0] 34)) (below_alloc (Below.refl _ _) _)
  generalize (w2.alloc (.cells #[.slice none 0 0, .slice none 0 0, .slice none 0 0] 34)).alloc (.cells #[.slice none 0 0, .slice none 0 0, .slice none 0 0] 34) = W3 at b3 k10 k11 ⊢
  have hI : Inn w W3 p q w2.heap.size (w2.heap.size + 1) L00 X00 X00 SV0 SP0 SV0 SP0 := ⟨below_step b2 b3, (HD1.out.below HB2.out).below b3, by
    have := (HS2.out.below b3).lower HB1.out.size
    rw [L00_read (by decide), L00_read (by decide)] at this
    exact this, sta_zero k10, sta_zero k11, by omega, by omega, by omega⟩
  have TS := Aside0.mk (TRel.start (n0 := n0) hI)
  rw [hg10] at TS ⊢
  obtain ⟨g11, hg11⟩ : ∃ g, g10 + 1 = g := ⟨_, rfl⟩
  rw [hg11] at TS ⊢
  clear b2 b3 k10 k11 hI hg10 hg11 h10 HD1 HB1 HS2 HB2
  go_wp2
  go_loopw [12, 13] (fun v12 v13 wr => ∃ i : Nat, v12 = .int .i64 (i : Int) ∧ v13 = .int .i64 (i : Int) ∧ i ≤ 6 ∧ Aside0 (TRel w p q g10 g11 n0 i wr)) (fun _ v13 _ => 6 - (intOf v13).toNat)
  case atStart => exact ⟨0, rfl, rfl, Nat.zero_le _, TS⟩
  case round =>
    obtain ⟨i, rfl, rfl, hi6, HR⟩ := hrel
    rcases HR.out with ⟨L, x0, x1, v, s, v', s', hI, hP, hL, hi1, hi2⟩ | ⟨v, s, v', s', hE, hi⟩
    · have HI := Aside0.mk hI
      have HP := Aside0.mk hP
      have HL := Aside0.mk hL
      have hlt1 : (i : Int) < (n0 : Int) := by omega
      have hlt2 : (i : Int) < 6 := by omega
      obtain ⟨A, n, c, A1, n1, c1, A2, n2, c2, u1, u2⟩ := v
      obtain ⟨A', n', c', A1', n1', c1', A2', n2', c2', u1', u2'⟩ := v'
      have q0 : wr.cell? ⟨g10, 0, none⟩ = some (.slice A n c) := blk_cell hI.now.st 0
      have q1 : wr.cell? ⟨g10, 1, none⟩ = some (.slice A1 n1 c1) := blk_cell hI.now.st 1
      have q2 : wr.cell? ⟨g10, 2, none⟩ = some (.slice A2 n2 c2) := blk_cell hI.now.st 2
      have m0 : wr.cell? ⟨g11, 0, none⟩ = some (.slice A' n' c') := blk_cell hI.was.st 0
      have m1 : wr.cell? ⟨g11, 1, none⟩ = some (.slice A1' n1' c1') := blk_cell hI.was.st 1
      have m2 : wr.cell? ⟨g11, 2, none⟩ = some (.slice A2' n2' c2') := blk_cell hI.was.st 2
      have f0 : wr.frozen? ⟨g11, 0, none⟩ = false := blk_frozen hI.was.st 0
      have f1 : wr.frozen? ⟨g11, 1, none⟩ = false := blk_frozen hI.was.st 1
      have f2 : wr.frozen? ⟨g11, 2, none⟩ = false := blk_frozen hI.was.st 2
      clear hI hP hL HR
      go_upto_region 12 with (fail)
      have HI2 := Aside0.mk (HI.out.setWas (Nat.le_of_eq HBD.out))
      dsimp only at HI2
      generalize ((wr.setCell ⟨g11, 0, none⟩ (.slice A n c)).setCell ⟨g11, 1, none⟩ (.slice A1 n1 c1)).setCell ⟨g11, 2, none⟩ (.slice A2 n2 c2) = W1 at HI2 ⊢
      clear q0 q1 q2 m0 m1 m2 f0 f1 f2 HI
      obtain ⟨ad0, As, ns, cs, rfl, hcell0, hrow⟩ := HA.out.2.2 i hi1
      have HCE := Aside0.mk hcell0
      have HRO := Aside0.mk hrow
      have hns : ns ≤ 9223372036854775807 := Nat.le_trans hrow.1 hrow.2.1
      clear hcell0 hrow
      go_wp2
      go_loopw [14] (fun v14 wr => ∃ (k : Nat) (v2 : SV) (s2 : SP), v14 = .int .i64 (k : Int) ∧ k ≤ 15 ∧ Aside0 (Inn w wr p q g10 g11 L x0 x1 v2 s2 ⟨A, n, c, A1, n1, c1, A2, n2, c2, u1, u2⟩ s)) (fun v14 _ => 15 - (intOf v14).toNat)
      case atStart => exact ⟨0, _, _, rfl, Nat.zero_le _, HI2⟩
      case round =>
        obtain ⟨k, v2, s2, rfl, hk15, HJ⟩ := hrel
        have hc0 : wr.cell? (ad0.add i) = some (.slice As ns cs) := (HJ.out.b.cell (World.block_lt_of_cell? w _ HCE.out)).trans HCE.out
        by_cases hk1 : k < ns
        · by_cases hk2 : k < 15
          · have hk1' : (k : Int) < (ns : Int) := by omega
            have hk2' : (k : Int) < 15 := by omega
            obtain ⟨ad1, kk, aa, bb, Az, z, cz, rfl, hop⟩ := HRO.out.2.2 k hk1
            have hop2 := hop.below HJ.out.b
            have o0 := hop2.c0
            have o1 := hop2.c1
            have o2 := hop2.c2
            have o3 := hop2.c3
            have HSZ := Aside0.mk (hop.sl (Nat.le_of_eq HBD.out.symm))
            clear hop hop2
            go_upto_region 16 with (fail)
            have hb5 : Below wr.heap.size wr (wr.alloc (.cells #[.int .i64 kk, .int .i64 aa, .int .i64 bb, .slice Az z.length cz] 37)) := below_alloc (Below.refl _ _) _
            have K5 : Aside0 ((wr.alloc (.cells #[.int .i64 kk, .int .i64 aa, .int .i64 bb, .slice Az z.length cz] 37)).heap[wr.heap.size]? = some (.cells #[.int .i64 kk, .int .i64 aa, .int .i64 bb, .slice Az z.length cz] 37 (0, 0))) := ⟨World.alloc_heap_new _ _⟩
            have HJ5 := Aside0.mk (HJ.out.below hb5)
            generalize wr.alloc (.cells #[.int .i64 kk, .int .i64 aa, .int .i64 bb, .slice Az z.length cz] 37) = W5 at hb5 K5 HJ5 ⊢
            obtain ⟨ob, hob⟩ : ∃ g, wr.heap.size = g := ⟨_, rfl⟩
            rw [hob] at K5 ⊢
            clear hb5 hob o0 o1 o2 o3 hc0 HJ
            have t0 : W5.cell? ⟨ob, 0, none⟩ = some (.int .i64 kk) := blk_cell K5.out 0
            have t1 : W5.cell? ⟨ob, 1, none⟩ = some (.int .i64 aa) := blk_cell K5.out 1
            have t2 : W5.cell? ⟨ob, 2, none⟩ = some (.int .i64 bb) := blk_cell K5.out 2
            have t3 : W5.cell? ⟨ob, 3, none⟩ = some (.slice Az z.length cz) := blk_cell K5.out 3
            by_cases hz : z.length ≤ 20
            · have hz' : (z.length : Int) ≤ 20 := by omega
              obtain ⟨B, m, d, B1, m1, d1, B2, m2, d2, y1, y2⟩ := v2
              have q0 : W5.cell? ⟨g10, 0, none⟩ = some (.slice B m d) := blk_cell HJ5.out.now.st 0
              have q1 : W5.cell? ⟨g10, 1, none⟩ = some (.slice B1 m1 d1) := blk_cell HJ5.out.now.st 1
              have q2 : W5.cell? ⟨g10, 2, none⟩ = some (.slice B2 m2 d2) := blk_cell HJ5.out.now.st 2
              have CAp := Aside0.mk (Apply_next (k := kk) (a := aa) (b := bb) HJ5.out.now.ok HJ5.out.now.rg (HSZ.out.below HJ5.out.b) (by omega))
              dsimp only [SV.val] at CAp
              go_upto_region 18 with (go_at_call 6; (with_reducible refine CAp.out.mono ?_); rintro e w6 ⟨C, l, b, C1, l1, b1, C2, l2, b2, qe, rfl, hb6, hq6⟩; have HB6 := Aside0.mk hb6; have HQ6 := Aside0.mk hq6; clear hb6 hq6)
              have hb7 : Below w6.heap.size w6 (w6.alloc (.cells #[.slice C l b, .slice C1 l1 b1, .slice C2 l2 b2] 34)) := below_alloc (Below.refl _ _) _
              have K7 : Aside0 ((w6.alloc (.cells #[.slice C l b, .slice C1 l1 b1, .slice C2 l2 b2] 34)).heap[w6.heap.size]? = some (.cells #[.slice C l b, .slice C1 l1 b1, .slice C2 l2 b2] 34 (0, 0))) := ⟨World.alloc_heap_new _ _⟩
              have HB7 := Aside0.mk hb7
              have HJ7 := Aside0.mk (HJ5.out.below (below_step HB6.out hb7))
              generalize w6.alloc (.cells #[.slice C l b, .slice C1 l1 b1, .slice C2 l2 b2] 34) = W7 at hb7 K7 HB7 HJ7 ⊢
              obtain ⟨nb, hnb⟩ : ∃ g, w6.heap.size = g := ⟨_, rfl⟩
              have HNB := Aside0.mk hnb
              rw [hnb] at K7 ⊢
              clear hb7 hnb q0 q1 q2 t0 t1 t2 t3 HJ5 K5
              by_cases hqe : qe = 0
              · subst hqe
                obtain ⟨y3, y4, s3, hst3, hrg3⟩ := HQ6.out rfl
                have HST := Aside0.mk (hst3.below HB7.out)
                have HRG := Aside0.mk hrg3
                clear hst3 hrg3 HQ6
                have p0 : W7.cell? ⟨nb, 0, none⟩ = some (.slice C l b) := blk_cell K7.out 0
                have p1 : W7.cell? ⟨nb, 1, none⟩ = some (.slice C1 l1 b1) := blk_cell K7.out 1
                have p2 : W7.cell? ⟨nb, 2, none⟩ = some (.slice C2 l2 b2) := blk_cell K7.out 2
                have q0 : W7.cell? ⟨g10, 0, none⟩ = some (.slice B m d) := blk_cell HJ7.out.now.st 0
                have q1 : W7.cell? ⟨g10, 1, none⟩ = some (.slice B1 m1 d1) := blk_cell HJ7.out.now.st 1
                have q2 : W7.cell? ⟨g10, 2, none⟩ = some (.slice B2 m2 d2) := blk_cell HJ7.out.now.st 2
                have f0 : W7.frozen? ⟨g10, 0, none⟩ = false := blk_frozen HJ7.out.now.st 0
                have f1 : W7.frozen? ⟨g10, 1, none⟩ = false := blk_frozen HJ7.out.now.st 1
                have f2 : W7.frozen? ⟨g10, 2, none⟩ = false := blk_frozen HJ7.out.now.st 2
                go_wp2
                go_roundw
                case measure => simp [intOf]; omega
                case rel =>
                  have HN := HJ7.out.setNow (Nat.le_of_eq HBD.out) HST.out HRG.out
                  dsimp only at HN
                  refine ⟨k + 1, ⟨C, l, b, C1, l1, b1, C2, l2, b2, y3, y4⟩, s3, by go_num, by omega, ⟨?_⟩⟩
                  exact HN
              · have hqe' : (qe == 0) = false := by simpa using hqe
                go_wp2
                go_roundw
                case measure => simp [intOf]; omega
                case rel => exact ⟨k + 1, _, _, by go_num, by omega, HJ7⟩
            · have hz' : ¬ (z.length : Int) ≤ 20 := by omega
              go_wp2
              go_roundw
              case measure => simp [intOf]; omega
              case rel => exact ⟨k + 1, _, _, by go_num, by omega, HJ5⟩
          · have hk1' : (k : Int) < (ns : Int) := by omega
            have hk2' : ¬ (k : Int) < 15 := by omega
            go_upto_region 20 with (fail)
            obtain ⟨B, m, d, B1, m1, d1, B2, m2, d2, y1, y2⟩ := v2
            have q0 : wr.cell? ⟨g10, 0, none⟩ = some (.slice B m d) := blk_cell HJ.out.now.st 0
            have q1 : wr.cell? ⟨g10, 1, none⟩ = some (.slice B1 m1 d1) := blk_cell HJ.out.now.st 1
            have q2 : wr.cell? ⟨g10, 2, none⟩ = some (.slice B2 m2 d2) := blk_cell HJ.out.now.st 2
            have hik : 0 ≤ (i : Int) ∧ (i : Int) ≤ 2147483647 := by omega
            have CS := Aside0.mk (fun W (hb : Below wr.heap.size wr W) => State_calls (k := (i : Int)) (HJ.out.now.ok.below hb) HJ.out.now.right hik)
            have CR := Aside0.mk (fun W (hb : Below wr.heap.size wr W) => RState_calls (k := (i : Int)) (HJ.out.now.ok.below hb) HJ.out.now.right hik)
            have HBY := Aside0.mk (by_state (i : Int) (Rt.of HJ.out.now.right))
            have HPO := Aside0.mk (state_pos (i : Int) ⟨B, m, d, B1, m1, d1, B2, m2, d2, y1, y2⟩ s2)
            dsimp only [SV.val] at CS CR
            obtain ⟨bs, hbs⟩ : ∃ bs, stateB (i : Int) ⟨B, m, d, B1, m1, d1, B2, m2, d2, y1, y2⟩ s2 = bs := ⟨_, rfl⟩
            rw [hbs] at CS CR HBY HPO
            have HBS := Aside0.mk hbs
            clear hbs hik hc0
            go_upto_region 22 with (first
              | (go_at_call 7; (with_reducible refine (CS.out _ (Below.refl _ _)).mono ?_); rintro e w8 ⟨u8, rfl, hK8, hB8⟩; obtain ⟨A8, c8, rfl⟩ := Kd.R_slice hK8; have HK8 := Aside0.mk hK8; have HB8 := Aside0.mk hB8; have z0 : w8.cell? ⟨g10, 0, none⟩ = some (.slice B m d) := blk_cell (HJ.out.now.st.below hB8) 0; have z1 : w8.cell? ⟨g10, 1, none⟩ = some (.slice B1 m1 d1) := blk_cell (HJ.out.now.st.below hB8) 1; have z2 : w8.cell? ⟨g10, 2, none⟩ = some (.slice B2 m2 d2) := blk_cell (HJ.out.now.st.below hB8) 2; clear hK8 hB8)
              | (go_at_call 8; (with_reducible refine (CR.out _ HB8.out).mono ?_); rintro e w9 ⟨u9, rfl, hK9, hB9⟩; obtain ⟨A9, c9, rfl⟩ := Kd.R_slice hK9; have HK9 := Aside0.mk hK9; have HB9 := Aside0.mk hB9; clear hK9 hB9))
            have HJ9 := Aside0.mk (HJ.out.below (below_step HB8.out HB9.out))
            have HS9 := Aside0.mk (Kd.R_below HK8.out HB9.out)
            have hv8 := Kd.C_string (c := c8) (src := 40) (dst := 9) Tryd.underlying40 Tryd.underlying5 underS (Kd.R_reads' HS9.out).2.2
            have hv9 := Kd.C_string (c := c9) (src := 40) (dst := 9) Tryd.underlying40 Tryd.underlying5 underS (Kd.R_reads' HK9.out).2.2
            have hlc := (Kd.R_reads' HS9.out).2.1
            have hcm := R_cap HS9.out
            have hlb : bs.length ≤ 9223372036854775807 := by omega
            clear z0 z1 z2 q0 q1 q2 hlc hcm
            by_cases hbig : 3240 < bs.length
            · have hbig' : (3240 : Int) < (bs.length : Int) := by omega
              go_wp2
              go_ret
              exact ⟨rfl, HJ9.out.b⟩
            · have hbig' : ¬ (3240 : Int) < (bs.length : Int) := by omega
              have HBG := Aside0.mk hbig
              have hww : Aside0 (w.heap.size ≤ w9.heap.size) := ⟨HJ9.out.b.size⟩
              have HPR := Aside0.mk HP.out
              clear HB8 HB9 HJ CS CR HK8 HK9
              have hlen : Aside0 (L.length = 122) := ⟨by obtain ⟨k, o, h1, _⟩ := HP.out.ex; exact h1.len⟩
              have CSv := Aside0.mk (fun W st lf (hv : Hv W) (hd : Dk w.heap.size W p L [] st lf) (hs : SlAt w.heap.size W q p x0 x1) (hlf : 0 ≤ lf ∧ lf ≤ 1000) (hlf0 : st = false → lf = 0) (hr : Kd.R (Kd.int .u8) 5 W wr.heap.size (fun _ => True) (.slice A8 bs.length c8) bs) => Save_all (epoch := (i : Int) + 1) hv hw0.out hd hs hlf hlf0 hr HPO.out (by omega) HP.out (by omega) HL.out HBY.out rfl)
              have CSt := Aside0.mk (Stop_calls (n := wrap64 ((IntKind.u64.wrap t).tmod 70)) HJ9.out.dk (by rw [hlen.out]; decide) (by rw [hlen.out]; decide) (by obtain ⟨x, hx, h0, h1⟩ := stop_val t; rw [hx]; exact h0))
              have HV9 := Aside0.mk (HH.out.below HJ9.out.b)
              by_cases hl1 : i + 1 = n0
              · have hl1' : ((i : Int) + 1 == (n0 : Int)) = true := by simp; omega
                have hlast : Aside0 (i + 1 = n0 ∨ i + 1 = 6) := ⟨.inl hl1⟩
                clear hl1
                obtain ⟨tx, htx, htx0, htx1⟩ := stop_val t
                have HTX := Aside0.mk htx
                have HTB := Aside0.mk (And.intro htx0 htx1)
                clear htx htx0 htx1
                go_upto_region 28 with (first
                  | (go_at_call 9; (with_reducible refine CSt.out.mono ?_); rintro e w10 ⟨rfl, hd10, hm10⟩; rw [HTX.out] at hd10; have HD10 := Aside0.mk hd10; have HM10 := Aside0.mk hm10; clear hd10 hm10)
                  | (go_at_call 10; (with_reducible refine (CSv.out _ _ _ (HV9.out.mv HM10.out hw0.out) HD10.out (HJ9.out.sl.mv HM10.out) HTB.out (fun h => by cases h) (HM10.out.R HS9.out (kB_T (by decide)))).mono ?_); rintro e w11 ⟨E, L', ws, lf', y0, y1, rfl, hd11, hs11, hm11, hE, hX, hc11⟩; have HD11 := Aside0.mk hd11; have HM11 := Aside0.mk hm11; have HC11 := Aside0.mk hc11; have HEE := Aside0.mk hE; clear hd11 hs11 hm11 hE hX hc11))
                have HT : Aside0 (TRel w p q g10 g11 n0 (i + 1) w11) := ⟨trel_end HJ9.out (Nat.le_of_eq HBD.out) hww.out ((HM10.out.mono (Nat.le_refl _) (fun t ht => List.mem_cons_of_mem _ ht)).trans HM11.out) HD11.out (by rw [HBS.out]; exact HC11.out) hlast.out⟩
                clear CSv CSt
                rcases HEE.out with rfl | ⟨rfl, -⟩
                · go_wp2
                  go_roundw
                  case measure => simp [intOf]; omega
                  case rel => exact ⟨i + 1, by go_num, by go_num, by omega, HT⟩
                · go_wp2
                  go_roundw
                  case measure => simp [intOf]; omega
                  case rel => exact ⟨i + 1, by go_num, by go_num, by omega, HT⟩
              · have hl1' : ((i : Int) + 1 == (n0 : Int)) = false := by simp; omega
                by_cases hl2 : i = 5
                · have hl2' : ((i : Int) == 5) = true := by simp; omega
                  have hlast : Aside0 (i + 1 = n0 ∨ i + 1 = 6) := ⟨.inr (by omega)⟩
                  clear hl1 hl2
                  obtain ⟨tx, htx, htx0, htx1⟩ := stop_val t
                  have HTX := Aside0.mk htx
                  have HTB := Aside0.mk (And.intro htx0 htx1)
                  clear htx htx0 htx1
                  go_upto_region 28 with (first
                    | (go_at_call 9; (with_reducible refine CSt.out.mono ?_); rintro e w10 ⟨rfl, hd10, hm10⟩; rw [HTX.out] at hd10; have HD10 := Aside0.mk hd10; have HM10 := Aside0.mk hm10; clear hd10 hm10)
                    | (go_at_call 10; (with_reducible refine (CSv.out _ _ _ (HV9.out.mv HM10.out hw0.out) HD10.out (HJ9.out.sl.mv HM10.out) HTB.out (fun h => by cases h) (HM10.out.R HS9.out (kB_T (by decide)))).mono ?_); rintro e w11 ⟨E, L', ws, lf', y0, y1, rfl, hd11, hs11, hm11, hE, hX, hc11⟩; have HD11 := Aside0.mk hd11; have HM11 := Aside0.mk hm11; have HC11 := Aside0.mk hc11; have HEE := Aside0.mk hE; clear hd11 hs11 hm11 hE hX hc11))
                  have HT : Aside0 (TRel w p q g10 g11 n0 (i + 1) w11) := ⟨trel_end HJ9.out (Nat.le_of_eq HBD.out) hww.out ((HM10.out.mono (Nat.le_refl _) (fun t ht => List.mem_cons_of_mem _ ht)).trans HM11.out) HD11.out (by rw [HBS.out]; exact HC11.out) hlast.out⟩
                  clear CSv CSt
                  rcases HEE.out with rfl | ⟨rfl, -⟩
                  · go_wp2
                    go_roundw
                    case measure => simp [intOf]; omega
                    case rel => exact ⟨i + 1, by go_num, by go_num, by omega, HT⟩
                  · go_wp2
                    go_roundw
                    case measure => simp [intOf]; omega
                    case rel => exact ⟨i + 1, by go_num, by go_num, by omega, HT⟩
                · have hl2' : ((i : Int) == 5) = false := by simp; omega
                  have h1 : Aside0 (i + 1 < n0 ∧ i + 1 < 6) := ⟨by omega, by omega⟩
                  clear hl1 hl2
                  go_upto_region 28 with (go_at_call 10; (with_reducible refine (CSv.out _ _ _ HV9.out HJ9.out.dk HJ9.out.sl ⟨by decide, by decide⟩ (fun _ => rfl) HS9.out).mono ?_); rintro e w11 ⟨E, L', ws, lf', y0, y1, rfl, hd11, hs11, hm11, hE, hX, hc11⟩; have HD11 := Aside0.mk hd11; have HS11 := Aside0.mk hs11; have HM11 := Aside0.mk hm11; have HC11 := Aside0.mk hc11; have HEE := Aside0.mk hE; have HXX := Aside0.mk (hX rfl); clear hd11 hs11 hm11 hE hX hc11)
                  have HT : Aside0 (TRel w p q g10 g11 n0 (i + 1) w11) := ⟨by
                    obtain ⟨rfl, rfl, h3⟩ := HXX.out
                    exact trel_live HJ9.out (Nat.le_of_eq HBD.out) hww.out HM11.out HD11.out HS11.out (by rw [HBS.out]; exact h3) HC11.out.2.2.2.1 h1.out.1 h1.out.2⟩
                  clear CSv CSt
                  rcases HEE.out with rfl | ⟨-, h⟩
                  · go_wp2
                    go_roundw
                    case measure => simp [intOf]; omega
                    case rel => exact ⟨i + 1, by go_num, by go_num, by omega, HT⟩
                  · cases h
        · have hk1' : ¬ (k : Int) < (ns : Int) := by omega
          go_upto_region 20 with (fail)
          obtain ⟨B, m, d, B1, m1, d1, B2, m2, d2, y1, y2⟩ := v2
          have q0 : wr.cell? ⟨g10, 0, none⟩ = some (.slice B m d) := blk_cell HJ.out.now.st 0
          have q1 : wr.cell? ⟨g10, 1, none⟩ = some (.slice B1 m1 d1) := blk_cell HJ.out.now.st 1
          have q2 : wr.cell? ⟨g10, 2, none⟩ = some (.slice B2 m2 d2) := blk_cell HJ.out.now.st 2
          have hik : 0 ≤ (i : Int) ∧ (i : Int) ≤ 2147483647 := by omega
          have CS := Aside0.mk (fun W (hb : Below wr.heap.size wr W) => State_calls (k := (i : Int)) (HJ.out.now.ok.below hb) HJ.out.now.right hik)
          have CR := Aside0.mk (fun W (hb : Below wr.heap.size wr W) => RState_calls (k := (i : Int)) (HJ.out.now.ok.below hb) HJ.out.now.right hik)
          have HBY := Aside0.mk (by_state (i : Int) (Rt.of HJ.out.now.right))
          have HPO := Aside0.mk (state_pos (i : Int) ⟨B, m, d, B1, m1, d1, B2, m2, d2, y1, y2⟩ s2)
          dsimp only [SV.val] at CS CR
          obtain ⟨bs, hbs⟩ : ∃ bs, stateB (i : Int) ⟨B, m, d, B1, m1, d1, B2, m2, d2, y1, y2⟩ s2 = bs := ⟨_, rfl⟩
          rw [hbs] at CS CR HBY HPO
          have HBS := Aside0.mk hbs
          clear hbs hik hc0
          go_upto_region 22 with (first
            | (go_at_call 7; (with_reducible refine (CS.out _ (Below.refl _ _)).mono ?_); rintro e w8 ⟨u8, rfl, hK8, hB8⟩; obtain ⟨A8, c8, rfl⟩ := Kd.R_slice hK8; have HK8 := Aside0.mk hK8; have HB8 := Aside0.mk hB8; have z0 : w8.cell? ⟨g10, 0, none⟩ = some (.slice B m d) := blk_cell (HJ.out.now.st.below hB8) 0; have z1 : w8.cell? ⟨g10, 1, none⟩ = some (.slice B1 m1 d1) := blk_cell (HJ.out.now.st.below hB8) 1; have z2 : w8.cell? ⟨g10, 2, none⟩ = some (.slice B2 m2 d2) := blk_cell (HJ.out.now.st.below hB8) 2; clear hK8 hB8)
            | (go_at_call 8; (with_reducible refine (CR.out _ HB8.out).mono ?_); rintro e w9 ⟨u9, rfl, hK9, hB9⟩; obtain ⟨A9, c9, rfl⟩ := Kd.R_slice hK9; have HK9 := Aside0.mk hK9; have HB9 := Aside0.mk hB9; clear hK9 hB9))
          have HJ9 := Aside0.mk (HJ.out.below (below_step HB8.out HB9.out))
          have HS9 := Aside0.mk (Kd.R_below HK8.out HB9.out)
          have hv8 := Kd.C_string (c := c8) (src := 40) (dst := 9) Tryd.underlying40 Tryd.underlying5 underS (Kd.R_reads' HS9.out).2.2
          have hv9 := Kd.C_string (c := c9) (src := 40) (dst := 9) Tryd.underlying40 Tryd.underlying5 underS (Kd.R_reads' HK9.out).2.2
          have hlc := (Kd.R_reads' HS9.out).2.1
          have hcm := R_cap HS9.out
          have hlb : bs.length ≤ 9223372036854775807 := by omega
          clear z0 z1 z2 q0 q1 q2 hlc hcm
          by_cases hbig : 3240 < bs.length
          · have hbig' : (3240 : Int) < (bs.length : Int) := by omega
            go_wp2
            go_ret
            exact ⟨rfl, HJ9.out.b⟩
          · have hbig' : ¬ (3240 : Int) < (bs.length : Int) := by omega
            have HBG := Aside0.mk hbig
            have hww : Aside0 (w.heap.size ≤ w9.heap.size) := ⟨HJ9.out.b.size⟩
            have HPR := Aside0.mk HP.out
            clear HB8 HB9 HJ CS CR HK8 HK9
            have hlen : Aside0 (L.length = 122) := ⟨by obtain ⟨k, o, h1, _⟩ := HP.out.ex; exact h1.len⟩
            have CSv := Aside0.mk (fun W st lf (hv : Hv W) (hd : Dk w.heap.size W p L [] st lf) (hs : SlAt w.heap.size W q p x0 x1) (hlf : 0 ≤ lf ∧ lf ≤ 1000) (hlf0 : st = false → lf = 0) (hr : Kd.R (Kd.int .u8) 5 W wr.heap.size (fun _ => True) (.slice A8 bs.length c8) bs) => Save_all (epoch := (i : Int) + 1) hv hw0.out hd hs hlf hlf0 hr HPO.out (by omega) HP.out (by omega) HL.out HBY.out rfl)
            have CSt := Aside0.mk (Stop_calls (n := wrap64 ((IntKind.u64.wrap t).tmod 70)) HJ9.out.dk (by rw [hlen.out]; decide) (by rw [hlen.out]; decide) (by obtain ⟨x, hx, h0, h1⟩ := stop_val t; rw [hx]; exact h0))
            have HV9 := Aside0.mk (HH.out.below HJ9.out.b)
            by_cases hl1 : i + 1 = n0
            · have hl1' : ((i : Int) + 1 == (n0 : Int)) = true := by simp; omega
              have hlast : Aside0 (i + 1 = n0 ∨ i + 1 = 6) := ⟨.inl hl1⟩
              clear hl1
              obtain ⟨tx, htx, htx0, htx1⟩ := stop_val t
              have HTX := Aside0.mk htx
              have HTB := Aside0.mk (And.intro htx0 htx1)
              clear htx htx0 htx1
              go_upto_region 28 with (first
                | (go_at_call 9; (with_reducible refine CSt.out.mono ?_); rintro e w10 ⟨rfl, hd10, hm10⟩; rw [HTX.out] at hd10; have HD10 := Aside0.mk hd10; have HM10 := Aside0.mk hm10; clear hd10 hm10)
                | (go_at_call 10; (with_reducible refine (CSv.out _ _ _ (HV9.out.mv HM10.out hw0.out) HD10.out (HJ9.out.sl.mv HM10.out) HTB.out (fun h => by cases h) (HM10.out.R HS9.out (kB_T (by decide)))).mono ?_); rintro e w11 ⟨E, L', ws, lf', y0, y1, rfl, hd11, hs11, hm11, hE, hX, hc11⟩; have HD11 := Aside0.mk hd11; have HM11 := Aside0.mk hm11; have HC11 := Aside0.mk hc11; have HEE := Aside0.mk hE; clear hd11 hs11 hm11 hE hX hc11))
              have HT : Aside0 (TRel w p q g10 g11 n0 (i + 1) w11) := ⟨trel_end HJ9.out (Nat.le_of_eq HBD.out) hww.out ((HM10.out.mono (Nat.le_refl _) (fun t ht => List.mem_cons_of_mem _ ht)).trans HM11.out) HD11.out (by rw [HBS.out]; exact HC11.out) hlast.out⟩
              clear CSv CSt
              rcases HEE.out with rfl | ⟨rfl, -⟩
              · go_wp2
                go_roundw
                case measure => simp [intOf]; omega
                case rel => exact ⟨i + 1, by go_num, by go_num, by omega, HT⟩
              · go_wp2
                go_roundw
                case measure => simp [intOf]; omega
                case rel => exact ⟨i + 1, by go_num, by go_num, by omega, HT⟩
            · have hl1' : ((i : Int) + 1 == (n0 : Int)) = false := by simp; omega
              by_cases hl2 : i = 5
              · have hl2' : ((i : Int) == 5) = true := by simp; omega
                have hlast : Aside0 (i + 1 = n0 ∨ i + 1 = 6) := ⟨.inr (by omega)⟩
                clear hl1 hl2
                obtain ⟨tx, htx, htx0, htx1⟩ := stop_val t
                have HTX := Aside0.mk htx
                have HTB := Aside0.mk (And.intro htx0 htx1)
                clear htx htx0 htx1
                go_upto_region 28 with (first
                  | (go_at_call 9; (with_reducible refine CSt.out.mono ?_); rintro e w10 ⟨rfl, hd10, hm10⟩; rw [HTX.out] at hd10; have HD10 := Aside0.mk hd10; have HM10 := Aside0.mk hm10; clear hd10 hm10)
                  | (go_at_call 10; (with_reducible refine (CSv.out _ _ _ (HV9.out.mv HM10.out hw0.out) HD10.out (HJ9.out.sl.mv HM10.out) HTB.out (fun h => by cases h) (HM10.out.R HS9.out (kB_T (by decide)))).mono ?_); rintro e w11 ⟨E, L', ws, lf', y0, y1, rfl, hd11, hs11, hm11, hE, hX, hc11⟩; have HD11 := Aside0.mk hd11; have HM11 := Aside0.mk hm11; have HC11 := Aside0.mk hc11; have HEE := Aside0.mk hE; clear hd11 hs11 hm11 hE hX hc11))
                have HT : Aside0 (TRel w p q g10 g11 n0 (i + 1) w11) := ⟨trel_end HJ9.out (Nat.le_of_eq HBD.out) hww.out ((HM10.out.mono (Nat.le_refl _) (fun t ht => List.mem_cons_of_mem _ ht)).trans HM11.out) HD11.out (by rw [HBS.out]; exact HC11.out) hlast.out⟩
                clear CSv CSt
                rcases HEE.out with rfl | ⟨rfl, -⟩
                · go_wp2
                  go_roundw
                  case measure => simp [intOf]; omega
                  case rel => exact ⟨i + 1, by go_num, by go_num, by omega, HT⟩
                · go_wp2
                  go_roundw
                  case measure => simp [intOf]; omega
                  case rel => exact ⟨i + 1, by go_num, by go_num, by omega, HT⟩
              · have hl2' : ((i : Int) == 5) = false := by simp; omega
                have h1 : Aside0 (i + 1 < n0 ∧ i + 1 < 6) := ⟨by omega, by omega⟩
                clear hl1 hl2
                go_upto_region 28 with (go_at_call 10; (with_reducible refine (CSv.out _ _ _ HV9.out HJ9.out.dk HJ9.out.sl ⟨by decide, by decide⟩ (fun _ => rfl) HS9.out).mono ?_); rintro e w11 ⟨E, L', ws, lf', y0, y1, rfl, hd11, hs11, hm11, hE, hX, hc11⟩; have HD11 := Aside0.mk hd11; have HS11 := Aside0.mk hs11; have HM11 := Aside0.mk hm11; have HC11 := Aside0.mk hc11; have HEE := Aside0.mk hE; have HXX := Aside0.mk (hX rfl); clear hd11 hs11 hm11 hE hX hc11)
                have HT : Aside0 (TRel w p q g10 g11 n0 (i + 1) w11) := ⟨by
                  obtain ⟨rfl, rfl, h3⟩ := HXX.out
                  exact trel_live HJ9.out (Nat.le_of_eq HBD.out) hww.out HM11.out HD11.out HS11.out (by rw [HBS.out]; exact h3) HC11.out.2.2.2.1 h1.out.1 h1.out.2⟩
                clear CSv CSt
                rcases HEE.out with rfl | ⟨-, h⟩
                · go_wp2
                  go_roundw
                  case measure => simp [intOf]; omega
                  case rel => exact ⟨i + 1, by go_num, by go_num, by omega, HT⟩
                · cases h
    · have HE := Aside0.mk hE
      obtain ⟨LE, wsE, stE, lfE, hdE, hcE⟩ := hE.dk
      have CCr := Aside0.mk (Crash_calls (ck := ck) hdE (by rw [hcE.1]; decide) (by rw [hcE.1]; decide) hcE.2.1 (fun x hx => by have h1 := hcE.2.2.1 x hx; refine ⟨h1.1, ?_, h1.2.2⟩; rw [hcE.1]; have h2 := h1.2.1; omega) (Kd.C_below HK.out hE.b) HKN.out HKB.out)
      have hCL : (crashL ks LE wsE (List.finRange wsE.length)).length = 122 := by rw [crashL_len, hcE.1]
      have hCB : ABy (crashL ks LE wsE (List.finRange wsE.length)) := ABy.crash hcE.2.2.2.2.1 _ hcE.2.2.2.1
      have hO := hcE.2.2.2.2.2 ks
      obtain ⟨CC, hCC⟩ : ∃ CC, crashL ks LE wsE (List.finRange wsE.length) = CC := ⟨_, rfl⟩
      rw [hCC] at CCr hCL hCB hO
      have HO := Aside0.mk hO
      have COp2 := Aside0.mk (fun W p (hb : Below w.heap.size w W) (hd : Dk wr.heap.size W p CC [] false 0) => Open2_calls (HH.out.below hb) hd rfl hCL hCB)
      obtain ⟨A, n, c, A1, n1, c1, A2, n2, c2, u1, u2⟩ := v
      obtain ⟨A', n', c', A1', n1', c1', A2', n2', c2', u1', u2'⟩ := v'
      clear hE hdE hcE hCL hCB hO hCC HR
      have hi' := hi
      by_cases hlt : i < n0
      · have hlt1 : (i : Int) < (n0 : Int) := by omega
        have hlt2 : ¬ (i : Int) < 6 := by omega
        clear hi hi' hlt
        go_upto_region 38 with (first
          | (go_at_call 11; (with_reducible refine CCr.out.mono ?_); rintro e w12 ⟨p2, rfl, hd12, hb12⟩; have HD12 := Aside0.mk hd12; have HB12 := Aside0.mk hb12; have HW12 := Aside0.mk (below_step HE.out.b hb12); clear hd12 hb12)
          | (go_at_call 5; (with_reducible refine (COp2.out _ _ HW12.out HD12.out).mono ?_); rintro e w13 ⟨q2, rfl, hs13, hb13⟩; have HS13 := Aside0.mk hs13; have HB13 := Aside0.mk (below_step HB12.out hb13); clear hs13 hb13)
          | (go_at_call 12; (with_reducible refine (Latest_out HS13.out HO.out).mono ?_); rintro e w14 ⟨vb, ep, ok, rfl, hb14, hcs⟩; have HB14 := Aside0.mk (below_step HB13.out hb14); have HCS := Aside0.mk hcs; clear hb14 hcs))
        have HW14 := Aside0.mk (below_step HE.out.b HB14.out)
        have HE14n := Aside0.mk (HE.out.now.below HB14.out)
        have HE14w := Aside0.mk (HE.out.was.below HB14.out)
        clear CCr COp2 COp HD12 HB12 HW12 HS13 HB13
        rcases HCS.out with ⟨rfl, h1⟩ | ⟨rfl, rfl, h1, hT⟩ | ⟨rfl, rfl, h2, hT⟩
        · go_wp2
          go_ret
          exact ⟨rfl, HW14.out⟩
        · obtain ⟨A9, c9, rfl, hSb, hl9⟩ := hT
          have CRd := Aside0.mk (ReadState_calls hSb (by omega) HE14n.out.ok HE14n.out.right ⟨by omega, by omega⟩)
          clear hSb HCS HO
          go_upto_region 43 with (go_at_call 13; (with_reducible refine CRd.out.mono ?_); rintro e w15 ⟨B, m, d, B1, d1, y1, B2, d2, y2, rfl, hm, hst, hb15⟩; have HST15 := Aside0.mk hst; have HB15 := Aside0.mk hb15; have HMN := Aside0.mk hm; clear hst hb15 hm)
          obtain rfl : m = n := HMN.out
          try dsimp only at HST15
          have hb16 : Below w15.heap.size w15 (w15.alloc (.cells #[.slice B m d, .slice B1 n1 d1, .slice B2 n2 d2] 34)) := below_alloc (Below.refl _ _) _
          have k16 : (w15.alloc (.cells #[.slice B m d, .slice B1 n1 d1, .slice B2 n2 d2] 34)).heap[w15.heap.size]? = some (.cells #[.slice B m d, .slice B1 n1 d1, .slice B2 n2 d2] 34 (0, 0)) := World.alloc_heap_new _ _
          try dsimp only
          have HW16 := Aside0.mk (below_step HW14.out (below_step HB15.out hb16))
          have HX16 := Aside0.mk (HE14n.out.below (below_step HB15.out hb16))
          have HST16 := Aside0.mk (HST15.out.below hb16)
          generalize w15.alloc (.cells #[.slice B m d, .slice B1 n1 d1, .slice B2 n2 d2] 34) = W16 at k16 HW16 HX16 HST16 ⊢
          obtain ⟨gb, hgb⟩ : ∃ g, w15.heap.size = g := ⟨_, rfl⟩
          rw [hgb] at k16 ⊢
          clear hb16 hgb
          have r0 : W16.cell? ⟨gb, 0, none⟩ = some (.slice B m d) := blk_cell k16 0
          have r1 : W16.cell? ⟨gb, 1, none⟩ = some (.slice B1 n1 d1) := blk_cell k16 1
          have r2 : W16.cell? ⟨gb, 2, none⟩ = some (.slice B2 n2 d2) := blk_cell k16 2
          have q0 : W16.cell? ⟨g10, 0, none⟩ = some (.slice A m c) := blk_cell HX16.out.st 0
          have q1 : W16.cell? ⟨g10, 1, none⟩ = some (.slice A1 n1 c1) := blk_cell HX16.out.st 1
          have q2 : W16.cell? ⟨g10, 2, none⟩ = some (.slice A2 n2 c2) := blk_cell HX16.out.st 2
          have CSm := Aside0.mk (RSameSt_calls HST16.out HX16.out.ok)
          go_wp2_with (go_at_call 14; (with_reducible refine CSm.out.mono ?_); rintro e w17 ⟨rfl, hb17⟩; have HB17 := Aside0.mk (below_step HW16.out hb17); clear hb17)
          go_ret
          exact ⟨rfl, HB17.out⟩
        · obtain ⟨A9, c9, rfl, hSb, hl9⟩ := hT
          obtain ⟨e1, he1⟩ : ∃ e1, (i : Int) - 1 = e1 := ⟨_, rfl⟩
          have he2 : (i : Int) - 2 = e1 - 1 := by omega
          rw [he2] at hSb hl9
          have CRd := Aside0.mk (ReadState_calls hSb (by omega) HE14w.out.ok HE14w.out.right ⟨by omega, by omega⟩)
          rw [he1, he2]
          have he3 : (e1 == (i : Int)) = false := by simp; omega
          have he4 : (e1 == (i : Int) - 1) = true := by simp; omega
          have he5 : 1 ≤ e1 := by omega
          have he6 : e1 ≤ 6 := by omega
          clear hSb HCS HO he1 he2
          go_upto_region 43 with (go_at_call 13; (with_reducible refine CRd.out.mono ?_); rintro e w15 ⟨B, m, d, B1, d1, y1, B2, d2, y2, rfl, hm, hst, hb15⟩; have HST15 := Aside0.mk hst; have HB15 := Aside0.mk hb15; have HMN := Aside0.mk hm; clear hst hb15 hm)
          obtain rfl : m = n' := HMN.out
          try dsimp only at HST15
          have hb16 : Below w15.heap.size w15 (w15.alloc (.cells #[.slice B m d, .slice B1 n1' d1, .slice B2 n2' d2] 34)) := below_alloc (Below.refl _ _) _
          have k16 : (w15.alloc (.cells #[.slice B m d, .slice B1 n1' d1, .slice B2 n2' d2] 34)).heap[w15.heap.size]? = some (.cells #[.slice B m d, .slice B1 n1' d1, .slice B2 n2' d2] 34 (0, 0)) := World.alloc_heap_new _ _
          try dsimp only
          have HW16 := Aside0.mk (below_step HW14.out (below_step HB15.out hb16))
          have HX16 := Aside0.mk (HE14w.out.below (below_step HB15.out hb16))
          have HST16 := Aside0.mk (HST15.out.below hb16)
          generalize w15.alloc (.cells #[.slice B m d, .slice B1 n1' d1, .slice B2 n2' d2] 34) = W16 at k16 HW16 HX16 HST16 ⊢
          obtain ⟨gb, hgb⟩ : ∃ g, w15.heap.size = g := ⟨_, rfl⟩
          rw [hgb] at k16 ⊢
          clear hb16 hgb
          have r0 : W16.cell? ⟨gb, 0, none⟩ = some (.slice B m d) := blk_cell k16 0
          have r1 : W16.cell? ⟨gb, 1, none⟩ = some (.slice B1 n1' d1) := blk_cell k16 1
          have r2 : W16.cell? ⟨gb, 2, none⟩ = some (.slice B2 n2' d2) := blk_cell k16 2
          have q0 : W16.cell? ⟨g11, 0, none⟩ = some (.slice A' m c') := blk_cell HX16.out.st 0
          have q1 : W16.cell? ⟨g11, 1, none⟩ = some (.slice A1' n1' c1') := blk_cell HX16.out.st 1
          have q2 : W16.cell? ⟨g11, 2, none⟩ = some (.slice A2' n2' c2') := blk_cell HX16.out.st 2
          have CSm := Aside0.mk (RSameSt_calls HST16.out HX16.out.ok)
          go_wp2_with (go_at_call 14; (with_reducible refine CSm.out.mono ?_); rintro e w17 ⟨rfl, hb17⟩; have HB17 := Aside0.mk (below_step HW16.out hb17); clear hb17)
          go_ret
          exact ⟨rfl, HB17.out⟩
      · have hlt1 : ¬ (i : Int) < (n0 : Int) := by omega
        clear hi hi' hlt
        go_upto_region 38 with (first
          | (go_at_call 11; (with_reducible refine CCr.out.mono ?_); rintro e w12 ⟨p2, rfl, hd12, hb12⟩; have HD12 := Aside0.mk hd12; have HB12 := Aside0.mk hb12; have HW12 := Aside0.mk (below_step HE.out.b hb12); clear hd12 hb12)
          | (go_at_call 5; (with_reducible refine (COp2.out _ _ HW12.out HD12.out).mono ?_); rintro e w13 ⟨q2, rfl, hs13, hb13⟩; have HS13 := Aside0.mk hs13; have HB13 := Aside0.mk (below_step HB12.out hb13); clear hs13 hb13)
          | (go_at_call 12; (with_reducible refine (Latest_out HS13.out HO.out).mono ?_); rintro e w14 ⟨vb, ep, ok, rfl, hb14, hcs⟩; have HB14 := Aside0.mk (below_step HB13.out hb14); have HCS := Aside0.mk hcs; clear hb14 hcs))
        have HW14 := Aside0.mk (below_step HE.out.b HB14.out)
        have HE14n := Aside0.mk (HE.out.now.below HB14.out)
        have HE14w := Aside0.mk (HE.out.was.below HB14.out)
        clear CCr COp2 COp HD12 HB12 HW12 HS13 HB13
        rcases HCS.out with ⟨rfl, h1⟩ | ⟨rfl, rfl, h1, hT⟩ | ⟨rfl, rfl, h2, hT⟩
        · go_wp2
          go_ret
          exact ⟨rfl, HW14.out⟩
        · obtain ⟨A9, c9, rfl, hSb, hl9⟩ := hT
          have CRd := Aside0.mk (ReadState_calls hSb (by omega) HE14n.out.ok HE14n.out.right ⟨by omega, by omega⟩)
          clear hSb HCS HO
          go_upto_region 43 with (go_at_call 13; (with_reducible refine CRd.out.mono ?_); rintro e w15 ⟨B, m, d, B1, d1, y1, B2, d2, y2, rfl, hm, hst, hb15⟩; have HST15 := Aside0.mk hst; have HB15 := Aside0.mk hb15; have HMN := Aside0.mk hm; clear hst hb15 hm)
          obtain rfl : m = n := HMN.out
          try dsimp only at HST15
          have hb16 : Below w15.heap.size w15 (w15.alloc (.cells #[.slice B m d, .slice B1 n1 d1, .slice B2 n2 d2] 34)) := below_alloc (Below.refl _ _) _
          have k16 : (w15.alloc (.cells #[.slice B m d, .slice B1 n1 d1, .slice B2 n2 d2] 34)).heap[w15.heap.size]? = some (.cells #[.slice B m d, .slice B1 n1 d1, .slice B2 n2 d2] 34 (0, 0)) := World.alloc_heap_new _ _
          try dsimp only
          have HW16 := Aside0.mk (below_step HW14.out (below_step HB15.out hb16))
          have HX16 := Aside0.mk (HE14n.out.below (below_step HB15.out hb16))
          have HST16 := Aside0.mk (HST15.out.below hb16)
          generalize w15.alloc (.cells #[.slice B m d, .slice B1 n1 d1, .slice B2 n2 d2] 34) = W16 at k16 HW16 HX16 HST16 ⊢
          obtain ⟨gb, hgb⟩ : ∃ g, w15.heap.size = g := ⟨_, rfl⟩
          rw [hgb] at k16 ⊢
          clear hb16 hgb
          have r0 : W16.cell? ⟨gb, 0, none⟩ = some (.slice B m d) := blk_cell k16 0
          have r1 : W16.cell? ⟨gb, 1, none⟩ = some (.slice B1 n1 d1) := blk_cell k16 1
          have r2 : W16.cell? ⟨gb, 2, none⟩ = some (.slice B2 n2 d2) := blk_cell k16 2
          have q0 : W16.cell? ⟨g10, 0, none⟩ = some (.slice A m c) := blk_cell HX16.out.st 0
          have q1 : W16.cell? ⟨g10, 1, none⟩ = some (.slice A1 n1 c1) := blk_cell HX16.out.st 1
          have q2 : W16.cell? ⟨g10, 2, none⟩ = some (.slice A2 n2 c2) := blk_cell HX16.out.st 2
          have CSm := Aside0.mk (RSameSt_calls HST16.out HX16.out.ok)
          go_wp2_with (go_at_call 14; (with_reducible refine CSm.out.mono ?_); rintro e w17 ⟨rfl, hb17⟩; have HB17 := Aside0.mk (below_step HW16.out hb17); clear hb17)
          go_ret
          exact ⟨rfl, HB17.out⟩
        · obtain ⟨A9, c9, rfl, hSb, hl9⟩ := hT
          obtain ⟨e1, he1⟩ : ∃ e1, (i : Int) - 1 = e1 := ⟨_, rfl⟩
          have he2 : (i : Int) - 2 = e1 - 1 := by omega
          rw [he2] at hSb hl9
          have CRd := Aside0.mk (ReadState_calls hSb (by omega) HE14w.out.ok HE14w.out.right ⟨by omega, by omega⟩)
          rw [he1, he2]
          have he3 : (e1 == (i : Int)) = false := by simp; omega
          have he4 : (e1 == (i : Int) - 1) = true := by simp; omega
          have he5 : 1 ≤ e1 := by omega
          have he6 : e1 ≤ 6 := by omega
          clear hSb HCS HO he1 he2
          go_upto_region 43 with (go_at_call 13; (with_reducible refine CRd.out.mono ?_); rintro e w15 ⟨B, m, d, B1, d1, y1, B2, d2, y2, rfl, hm, hst, hb15⟩; have HST15 := Aside0.mk hst; have HB15 := Aside0.mk hb15; have HMN := Aside0.mk hm; clear hst hb15 hm)
          obtain rfl : m = n' := HMN.out
          try dsimp only at HST15
          have hb16 : Below w15.heap.size w15 (w15.alloc (.cells #[.slice B m d, .slice B1 n1' d1, .slice B2 n2' d2] 34)) := below_alloc (Below.refl _ _) _
          have k16 : (w15.alloc (.cells #[.slice B m d, .slice B1 n1' d1, .slice B2 n2' d2] 34)).heap[w15.heap.size]? = some (.cells #[.slice B m d, .slice B1 n1' d1, .slice B2 n2' d2] 34 (0, 0)) := World.alloc_heap_new _ _
          try dsimp only
          have HW16 := Aside0.mk (below_step HW14.out (below_step HB15.out hb16))
          have HX16 := Aside0.mk (HE14w.out.below (below_step HB15.out hb16))
          have HST16 := Aside0.mk (HST15.out.below hb16)
          generalize w15.alloc (.cells #[.slice B m d, .slice B1 n1' d1, .slice B2 n2' d2] 34) = W16 at k16 HW16 HX16 HST16 ⊢
          obtain ⟨gb, hgb⟩ : ∃ g, w15.heap.size = g := ⟨_, rfl⟩
          rw [hgb] at k16 ⊢
          clear hb16 hgb
          have r0 : W16.cell? ⟨gb, 0, none⟩ = some (.slice B m d) := blk_cell k16 0
          have r1 : W16.cell? ⟨gb, 1, none⟩ = some (.slice B1 n1' d1) := blk_cell k16 1
          have r2 : W16.cell? ⟨gb, 2, none⟩ = some (.slice B2 n2' d2) := blk_cell k16 2
          have q0 : W16.cell? ⟨g11, 0, none⟩ = some (.slice A' m c') := blk_cell HX16.out.st 0
          have q1 : W16.cell? ⟨g11, 1, none⟩ = some (.slice A1' n1' c1') := blk_cell HX16.out.st 1
          have q2 : W16.cell? ⟨g11, 2, none⟩ = some (.slice A2' n2' c2') := blk_cell HX16.out.st 2
          have CSm := Aside0.mk (RSameSt_calls HST16.out HX16.out.ok)
          go_wp2_with (go_at_call 14; (with_reducible refine CSm.out.mono ?_); rintro e w17 ⟨rfl, hb17⟩; have HB17 := Aside0.mk (below_step HW16.out hb17); clear hb17)
          go_ret
          exact ⟨rfl, HB17.out⟩
end Go.Proofs.YtenjldfflkinkaaDoor.Sav

namespace Go.Proofs.YtenjldfflkinkaaDoor.Sav
end Go.Proofs.YtenjldfflkinkaaDoor.Sav
