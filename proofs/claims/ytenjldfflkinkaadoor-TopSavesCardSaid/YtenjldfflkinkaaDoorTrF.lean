/- The texts FGCodL, FGCodM, FGCodN, FGCodO, FGCodP, FGRdN, FGRdD, FGRdA, FGRdB, FGSavU, FGSavV, FGSavW, FGSavX, FGRdC, FGLawR, FGLawS, in one: what the law does not need is left out. -/
import Derived.Test.YtenjldfflkinkaaDoorTrE
import Derived.WalkSpells
import Derived.ScopeJumps
import Derived.WalkMore
import Derived.Scope
set_option linter.unusedVariables false
set_option linter.unusedSimpArgs false
namespace Go.Proofs.YtenjldfflkinkaaDoor.Sav
set_option linter.unusedVariables false
set_option linter.unusedSimpArgs false
open Go.RowKit Go.Proofs.YtenjldfflkinkaaDoor.F Go.Proofs.YtenjldfflkinkaaDoorW.PrintWords Go.Proofs.YtenjldfflkinkaaDoorW.PrintLast Go.Proofs.YtenjldfflkinkaaDoorW.PrintMore
open Go.Proofs.YtenjldfflkinkaaDoor.Rop (Sl Ch ChV CV ChAt Rc SV SP StOk rightE scl fitsB doneT goesT dn)
set_option linter.unusedSectionVars false
variable [Coe Unit Nat]
theorem way_at (x : Ch) (b : Bool) : (x.way b).at_ = x.at_ := by cases b <;> rfl
theorem ahead_pos {back : Bool} {xs : Nat → Ch} : ∀ (k : Nat) (t : List Int), t.length ≤ 5000 → (goesT back t (ahead xs k)).isSome = true → ∀ i, i < k → 0 ≤ (xs i).at_ ∧ (xs i).at_ ≤ 2147483647
  | 0, _, _, _, i, hi => by omega
  | k + 1, t, ht, h, i, hi => by
    obtain ⟨h1, h2, h3, h4, h5⟩ := step_some (show (goesT back t (xs k :: ahead xs k)).isSome = true from h)
    rcases Nat.lt_succ_iff_lt_or_eq.1 hi with hlt | rfl
    · exact ahead_pos k _ (by omega) h5 i hlt
    · unfold fitsB at h1
      simp only [decide_eq_true_eq] at h1
      obtain ⟨f0, f1, _⟩ := h1
      rw [way_at] at f0 f1
      omega
set_option maxRecDepth 100000 in
set_option maxHeartbeats 4000000 in
theorem RState_calls {w : World} {v : SV} {s : SP} {k : Int} (h : StOk w v s) (hr : rightE v s = 0) (hk : 0 ≤ k ∧ k ≤ 2147483647) :
    Calls Tryd.prog 8 #[.int .i64 k, v.val] w fun e w' => ∃ u : Value, e = .returned (.tuple #[u, .int .i64 0]) ∧ Kd.R (Kd.int .u8) 5 w' w.heap.size (fun _ => True) u (stateB k v s) ∧ Below w.heap.size w w' := by
  have HRT := Aside0.mk (Rt.of hr)
  obtain ⟨hg1, hg2⟩ := right_0 hr
  rw [ahead_dn] at hg1 hg2
  have htl : s.text.length ≤ 5000 := by rw [h.t.hn]; exact h.bn
  have hp1 := ahead_pos _ _ htl hg1
  have hp2 := ahead_pos _ _ htl hg2
  obtain ⟨A, n, c, A1, n1, c1, A2, n2, c2, v1, v2⟩ := v
  unfold stateB
  dsimp only [SV.val]
  dsimp only at hp1 hp2
  have CI := Aside0.mk (fun W => Ris_calls (w := W) hk)
  have CD := Aside0.mk (fun W => digits_calls (w := W) hk)
  have CR := Aside0.mk (fun W (hb : Below w.heap.size w W) => (show Calls Tryd.prog 27 #[.agg #[.slice A n c, .slice A1 n1 c1, .slice A2 n2 c2]] W (fun e w' => e = .returned (.int .i64 0) ∧ Below W.heap.size W w') from by
    have := RRight_calls (h.below hb) hr
    exact this))
  have CP := Aside0.mk (fun W (hb : Below w.heap.size w W) => Rpiece_calls (h.below hb).t h.bn HRT.out.t)
  have CC1 := Aside0.mk (fun W (hb : Below w.heap.size w W) => Rchanges_calls (n := n1) (c := c1) (vs := v1) (h.below hb).u (by have := HRT.out.n12; dsimp only at this; omega) h.s1 HRT.out.x1 hp1)
  have CC2 := Aside0.mk (fun W (hb : Below w.heap.size w W) => Rchanges_calls (n := n2) (c := c2) (vs := v2) (h.below hb).r (by have := HRT.out.n12; dsimp only at this; omega) h.s2 HRT.out.x2 hp2)
  have hxl : ∀ i, i < n1 → (s.x1 i).gone.length ≤ 5000 ∧ (s.x1 i).came.length ≤ 5000 := fun i hi => by
    obtain ⟨ad, _, hh⟩ := h.u.at_ i hi
    have h1 := hh.h.g.hn
    have h2 := hh.h.k.hn
    have h3 := h.s1 i hi
    dsimp only at h1 h2 h3
    omega
  have hxl2 : ∀ i, i < n2 → (s.x2 i).gone.length ≤ 5000 ∧ (s.x2 i).came.length ≤ 5000 := fun i hi => by
    obtain ⟨ad, _, hh⟩ := h.r.at_ i hi
    have h1 := hh.h.g.hn
    have h2 := hh.h.k.hn
    have h3 := h.s2 i hi
    dsimp only at h1 h2 h3
    omega
  have b12 := HRT.out.n12
  dsimp only at b12
  have hl1 : (pieceB s.text).length ≤ 20100 := by have := pieceB_len s.text; omega
  have hl2 : (chsB n1 s.x1).length ≤ 900000 := by
    have h1 := chsL_len s.x1 n1 hxl
    have h2 : n1 * 40100 ≤ 16 * 40100 := Nat.mul_le_mul_right _ (by omega)
    simp only [chsB, List.length_cons]
    omega
  have hl3 : (chsB n2 s.x2).length ≤ 900000 := by
    have h1 := chsL_len s.x2 n2 hxl2
    have h2 : n2 * 40100 ≤ 16 * 40100 := Nat.mul_le_mul_right _ (by omega)
    simp only [chsB, List.length_cons]
    omega
  have hl0 : (big4 k).length = 4 := by simp [big4]
  obtain ⟨P1, hP1⟩ : ∃ x, pieceB s.text = x := ⟨_, rfl⟩
  obtain ⟨P2, hP2⟩ : ∃ x, chsB n1 s.x1 = x := ⟨_, rfl⟩
  obtain ⟨P3, hP3⟩ : ∃ x, chsB n2 s.x2 = x := ⟨_, rfl⟩
  obtain ⟨P0, hP0⟩ : ∃ x, big4 k = x := ⟨_, rfl⟩
  rw [hP1] at CP hl1 ⊢
  rw [hP2] at CC1 hl2 ⊢
  rw [hP3] at CC2 hl3 ⊢
  rw [hP0] at CD hl0 ⊢
  clear h hr hk hg1 hg2 htl hp1 hp2 hxl hxl2 hP1 hP2 hP3 hP0 HRT b12
  go_enter Tryd.func8, Tryd.ntmps8
  go_upto_region 1 with (fail)
  have kg := World.alloc_heap_new w (.cells #[.slice A n c, .slice A1 n1 c1, .slice A2 n2 c2] 34)
  have hb1 := below_alloc (Below.refl _ w) (.cells #[.slice A n c, .slice A1 n1 c1, .slice A2 n2 c2] 34)
  have KG := Aside0.mk kg
  have HB0 := Aside0.mk hb1
  have cg0 : _ = some (Value.slice A n c) := blk_cell kg 0
  have cg1 : _ = some (Value.slice A1 n1 c1) := blk_cell kg 1
  have cg2 : _ = some (Value.slice A2 n2 c2) := blk_cell kg 2
  clear kg hb1
  generalize w.alloc (.cells #[.slice A n c, .slice A1 n1 c1, .slice A2 n2 c2] 34) = W0 at KG HB0 cg0 cg1 cg2 ⊢
  obtain ⟨g3, hg3⟩ : ∃ g, w.heap.size = g := ⟨_, rfl⟩
  rw [show Value.pointer (some ⟨w.heap.size, 0, none⟩) = Value.pointer (some ⟨g3, 0, none⟩) from by rw [hg3]]
  rw [hg3] at KG cg0 cg1 cg2
  clear hg3
  go_upto_region 3 with (go_at_call 26; (with_reducible refine (CI.out _).mono ?_); rintro e w1 ⟨rfl, hb⟩; have HB1 := Aside0.mk (below_step HB0.out hb); have KG1 := Aside0.mk (blk_below KG.out hb); have dg0 := (hb.cell (World.block_lt_of_cell? _ _ cg0)).trans cg0; have dg1 := (hb.cell (World.block_lt_of_cell? _ _ cg1)).trans cg1; have dg2 := (hb.cell (World.block_lt_of_cell? _ _ cg2)).trans cg2; clear hb cg0 cg1 cg2)
  go_upto_region 6 with (go_at_call 27; (with_reducible refine (CR.out _ HB1.out).mono ?_); rintro e w2 ⟨rfl, hb⟩; have HB2 := Aside0.mk (below_step HB1.out hb); have KG2 := Aside0.mk (blk_below KG1.out hb); clear hb dg0 dg1 dg2)
  clear CI CR
  refine start_ (n := 7) (S := fun w' => w'.heap[g3]? = some (.cells #[.slice A n c, .slice A1 n1 c1, .slice A2 n2 c2] 34 (0, 0))) (ds := []) #[false, false, false, false, false, false, false] (by kernel_rfl) rfl rfl KG2.out (fun hHeld => ?_)
  have HBd := Aside0.mk (below_drew HB2.out)
  clear HB1 HB0 KG KG1 KG2 HB2
  generalize w2.drew = D at HBd hHeld ⊢
  refine pure_ (i := 0) (N := some 16) (v := ?_) (a' := ?_) #[true, false, false, false, false, false, false] rfl rfl (by kernel_rfl) (fun _ _ _ h => h) (Or.inl ⟨by rfl, ?_⟩) ?_ ?_
  rotate_left
  · intro w'
    go_simp
    with_reducible rfl
  rotate_left
  · simp only [Act.put, List.setIfInBounds_toArray, List.set_cons_zero, List.set_cons_succ, i64_w, i32_w]
    rfl
  refine pure_ (i := 2) (N := some 18) (v := ?_) (a' := ?_) #[true, false, true, false, false, false, false] rfl rfl (by kernel_rfl) (fun _ _ _ h => h) (Or.inl ⟨by rfl, ?_⟩) ?_ ?_
  rotate_left
  · intro w'
    go_simp
    with_reducible rfl
  rotate_left
  · simp only [Act.put, List.setIfInBounds_toArray, List.set_cons_zero, List.set_cons_succ, i64_w, i32_w]
    rfl
  refine take_ (i := 3) (N := some 19) (v := ?_) (a' := ?_) #[true, false, true, true, false, false, false] rfl rfl (by kernel_rfl) (fun _ _ _ h => h) (Or.inl ⟨by rfl, ?_⟩) hHeld ?_ ?_
  rotate_left
  · rintro w' hq
    have c1 := blk_cell hq 0
    simp only [List.getElem?_toArray, List.getElem?_cons_zero, List.getElem?_cons_succ] at c1
    go_simp
    with_reducible rfl
  rotate_left
  · simp only [Act.put, List.setIfInBounds_toArray, List.set_cons_zero, List.set_cons_succ, i64_w, i32_w]
    rfl
  refine one_ (i := 1) (N := some 17) #[true, true, true, true, false, false, false] rfl rfl (by kernel_rfl) (by decide) (fun K hK => ?_)
  refine goes_ Tryd.func28 (by kernel_rfl) rfl #[.int .i64 k] (by rfl) rfl rfl (by (try simp only [List.map_toArray, List.map_cons, List.map_nil]); first | done | rfl) ?_
  (with_reducible refine (CD.out _).mono ?_)
  rintro e w17 ⟨v17, rfl, ho, hb⟩
  refine ⟨_, rfl, ?_⟩
  have HO17 := Aside0.mk (Kd.R_lower ho HBd.out.size)
  have HB17 := Aside0.mk (below_step HBd.out hb)
  have hh17 := blk_below hHeld hb
  clear ho hb
  refine hK.out _ _ hh17 (fun hHeld => ?_)
  clear hK K
  refine norm_ (a' := ?_) ?_ ?_
  rotate_left
  · show Act.put _ (some 17) _ = _
    simp only [Act.put, List.setIfInBounds_toArray, List.set_cons_zero, List.set_cons_succ, i64_w, i32_w]
    rfl
  refine one_ (i := 4) (N := some 20) #[true, true, true, true, true, false, false] rfl rfl (by kernel_rfl) (by decide) (fun K hK => ?_)
  refine goes_ Tryd.func29 (by kernel_rfl) rfl #[.slice A n c] (by rfl) rfl rfl (by (try simp only [List.map_toArray, List.map_cons, List.map_nil]); first | done | rfl) ?_
  (with_reducible refine (CP.out _ HB17.out).mono ?_)
  rintro e w20 ⟨v20, rfl, ho, hb⟩
  obtain ⟨A20, c20, rfl⟩ := Kd.R_slice ho
  refine ⟨_, rfl, ?_⟩
  have HC20 := Aside0.mk (Kd.R_reads' ho).2.2
  have HO20 := Aside0.mk (Kd.R_below HO17.out hb)
  have HB20 := Aside0.mk (below_step HB17.out hb)
  have hh20 := blk_below hHeld hb
  clear ho hb
  refine hK.out _ _ hh20 (fun hHeld => ?_)
  clear hK K
  refine norm_ (a' := ?_) ?_ ?_
  rotate_left
  · show Act.put _ (some 20) _ = _
    simp only [Act.put, List.setIfInBounds_toArray, List.set_cons_zero, List.set_cons_succ, i64_w, i32_w]
    rfl
  refine one_ (i := 5) (N := some 21) #[true, true, true, true, true, true, false] rfl rfl (by kernel_rfl) (by decide) (fun K hK => ?_)
  refine Kd.R_append_rows_step (Kd.int .u8) (w0 := w) w.heap.size (by rfl) (.tmp 17) (.tmp 20) 40 5 (.int .u8 0) 1 rfl Tryd.underlying40 info5 rfl (by decide) (by omega) v17 P0 P1 _ _ _ (fun _ => True) (fun _ => False) rfl rfl HO20.out HC20.out (fun _ _ h => h) (fun _ h => h.elim) (fun _ _ => trivial) HB20.out HB20.out.size (by omega) ?_
  intro v21 w21 ho hb hg hn_
  have HO21 := Aside0.mk ho
  have HB21 := Aside0.mk hb
  have hh21 := blk_grown hHeld hg (Kd.R_ne HO20.out hHeld (by decide))
  clear ho hb hg hn_
  refine hK.out _ _ hh21 (fun hHeld => ?_)
  clear hK K
  refine norm_ (a' := ?_) ?_ ?_
  rotate_left
  · show Act.put _ (some 21) _ = _
    simp only [Act.put, List.setIfInBounds_toArray, List.set_cons_zero, List.set_cons_succ, i64_w, i32_w]
    rfl
  refine pure_ (i := 6) (N := some 7) (v := ?_) (a' := ?_) #[true, true, true, true, true, true, true] rfl rfl (by kernel_rfl) (fun _ _ _ h => h) (Or.inl ⟨by rfl, ?_⟩) ?_ ?_
  rotate_left
  · intro w'
    go_simp
    with_reducible rfl
  rotate_left
  · simp only [Act.put, List.setIfInBounds_toArray, List.set_cons_zero, List.set_cons_succ, i64_w, i32_w]
    rfl
  refine done_ (by kernel_rfl) ?_
  have hk21 := hHeld
  clear hHeld
  have cg1 : _ = some (Value.slice A1 n1 c1) := blk_cell hk21 1
  go_upto_region 8 with (first
    | (go_at_call 30; (with_reducible refine (CC1.out _ HB21.out).mono ?_); rintro e w25 ⟨v25, rfl, ho, hb⟩; obtain ⟨A25, c25, eo25⟩ := Kd.R_slice ho; subst eo25; have HC25 := Aside0.mk (Kd.R_reads' ho).2.2; have HO25 := Aside0.mk (Kd.R_below HO21.out hb); have HB25 := Aside0.mk (below_step HB21.out hb); have HK25 := Aside0.mk (blk_below hk21 hb); clear ho hb)
    | ((with_reducible refine gate_builtin (b := .append) (xs := #[.tmp 22, .tmp 25]) rfl ?_); at_builtin; refine Kd.R_append_rows (Kd.int .u8) (w0 := w) w.heap.size rfl (.tmp 22) (.tmp 25) 40 5 (.int .u8 0) 1 rfl Tryd.underlying40 info5 rfl (by decide) (by omega) v21 (P0 ++ P1) P2 _ _ _ (fun _ => True) (fun _ => False) rfl rfl HO25.out HC25.out (fun _ _ h => h) (fun _ h => h.elim) (fun _ _ => trivial) HB25.out HB25.out.size (by simp only [List.length_append]; omega) ?_; intro v26 w26 ho hb hg hat; have HO26 := Aside0.mk ho; have HB26 := Aside0.mk hb; have HG26 := Aside0.mk hg; clear ho hb hg hat))
  have hk26 := blk_grown HK25.out HG26.out (Kd.R_ne HO25.out HK25.out (by decide))
  have cg2 : _ = some (Value.slice A2 n2 c2) := blk_cell hk26 2
  clear cg1 hk21
  go_wp2_with (first
    | (go_at_call 30; (with_reducible refine (CC2.out _ HB26.out).mono ?_); rintro e w30 ⟨v30, rfl, ho, hb⟩; obtain ⟨A30, c30, eo30⟩ := Kd.R_slice ho; subst eo30; have HC30 := Aside0.mk (Kd.R_reads' ho).2.2; have HO30 := Aside0.mk (Kd.R_below HO26.out hb); have HB30 := Aside0.mk (below_step HB26.out hb); have HK30 := Aside0.mk (blk_below hk26 hb); clear ho hb)
    | ((with_reducible refine gate_builtin (b := .append) (xs := #[.tmp 27, .tmp 30]) rfl ?_); at_builtin; refine Kd.R_append_rows (Kd.int .u8) (w0 := w) w.heap.size rfl (.tmp 27) (.tmp 30) 40 5 (.int .u8 0) 1 rfl Tryd.underlying40 info5 rfl (by decide) (by omega) v26 ((P0 ++ P1) ++ P2) P3 _ _ _ (fun _ => True) (fun _ => False) rfl rfl HO30.out HC30.out (fun _ _ h => h) (fun _ h => h.elim) (fun _ _ => trivial) HB30.out HB30.out.size (by simp only [List.length_append]; omega) ?_; intro v31 w31 ho hb hg hat; have HO31 := Aside0.mk ho; have HB31 := Aside0.mk hb; have HG31 := Aside0.mk hg; clear ho hb hg hat))
  go_ret2
  exact ⟨_, rfl, HO31.out, HB31.out⟩
end Go.Proofs.YtenjldfflkinkaaDoor.Sav

namespace Go.Proofs.YtenjldfflkinkaaDoor.Sav
set_option linter.unusedVariables false
set_option linter.unusedSimpArgs false
open Go.RowKit Go.Proofs.YtenjldfflkinkaaDoor.F Go.Proofs.YtenjldfflkinkaaDoorW.PrintWords Go.Proofs.YtenjldfflkinkaaDoorW.PrintLast Go.Proofs.YtenjldfflkinkaaDoorW.PrintMore
open Go.Proofs.YtenjldfflkinkaaDoor.Rop (Sl)
set_option linter.unusedSectionVars false
variable [Coe Unit Nat]
set_option maxRecDepth 100000 in
set_option maxHeartbeats 4000000 in
theorem RSame_calls {w : World} {A B : Option Addr} {n c d : Nat} {l : List Int} (h : Sl w A n c l) (h2 : Sl w B n d l) (hn : n ≤ 100000) : Calls Tryd.prog 46 #[.slice A n c, .slice B n d] w fun e w' => e = .returned (.bool true) ∧ Below w.heap.size w w' := by
  have HL := Aside0.mk h
  have HM := Aside0.mk h2
  clear h h2
  go_enter Tryd.func46, Tryd.ntmps46
  go_wp2
  go_loopw [5] (fun v5 wr => ∃ i : Nat, v5 = .int .i64 (i : Int) ∧ i ≤ n ∧ Aside0 (Below w.heap.size w wr)) (fun v5 _ => n - (intOf v5).toNat)
  case atStart => exact ⟨0, rfl, Nat.zero_le _, ⟨Below.refl _ _⟩⟩
  case round =>
    obtain ⟨i, rfl, hi, HBr⟩ := hrel
    by_cases hlt : i < n
    · have hlt' : (i : Int) < (n : Int) := by omega
      obtain ⟨ad, rfl, hx1⟩ := rune_read (HL.out.below HBr.out).hC HL.out.hn i hlt
      obtain ⟨ad2, rfl, hx2⟩ := rune_read (HM.out.below HBr.out).hC HM.out.hn i hlt
      obtain ⟨y, hy⟩ : ∃ y, l.getD i 0 = y := ⟨_, rfl⟩
      rw [hy] at hx1 hx2
      clear hy
      go_wp2
      go_quiet (fail)
      go_wp2
      go_roundw
      case measure => first | (simp [intOf]; done) | (simp [intOf]; omega)
      case rel => exact ⟨i + 1, by go_num, by omega, ⟨pw_below_drewN HBr.out nq⟩⟩
    · obtain rfl : i = n := by omega
      go_wp2
      go_ret
      exact ⟨rfl, HBr.out⟩
end Go.Proofs.YtenjldfflkinkaaDoor.Sav

namespace Go.Proofs.YtenjldfflkinkaaDoor.Sav
set_option linter.unusedVariables false
set_option linter.unusedSimpArgs false
open Go.RowKit Go.Proofs.YtenjldfflkinkaaDoor.F Go.Proofs.YtenjldfflkinkaaDoorW.PrintWords Go.Proofs.YtenjldfflkinkaaDoorW.PrintLast Go.Proofs.YtenjldfflkinkaaDoorW.PrintMore
open Go.Proofs.YtenjldfflkinkaaDoor.Rop (Sl Ch ChV)
set_option linter.unusedSectionVars false
variable [Coe Unit Nat]
set_option maxRecDepth 100000 in
set_option maxHeartbeats 4000000 in
theorem RSameChange_calls {w : World} {A B A' B' : Option Addr} {n c m d c' d' : Nat} {p : Int} {x : Ch} (h : ChV w p A n c B m d x) (h2 : ChV w p A' n c' B' m d' x) (hn : n ≤ 100000) (hm : m ≤ 100000) : Calls Tryd.prog 73 #[.agg #[.int .i64 p, .slice A n c, .slice B m d], .agg #[.int .i64 p, .slice A' n c', .slice B' m d']] w fun e w' => e = .returned (.bool true) ∧ Below w.heap.size w w' := by
  have C1 := Aside0.mk (fun W (hb : Below w.heap.size w W) => RSame_calls (h.g.below hb) (h2.g.below hb) hn)
  have C2 := Aside0.mk (fun W (hb : Below w.heap.size w W) => RSame_calls (h.k.below hb) (h2.k.below hb) hm)
  clear h h2
  go_enter Tryd.func73, Tryd.ntmps73
  go_upto_region 1 with (fail)
  obtain ⟨D1, hD1⟩ : ∃ D1, w.alloc (Obj.cells #[Value.int IntKind.i64 p, Value.slice A n c, Value.slice B m d] 68) = D1 := ⟨_, rfl⟩
  have m0 : D1.heap[w.heap.size]? = some (.cells #[Value.int IntKind.i64 p, Value.slice A n c, Value.slice B m d] 68 (0, 0)) := by rw [← hD1]; exact World.alloc_heap_new w _
  have hz1 : D1.heap.size = w.heap.size + 1 := by rw [← hD1]; simp
  have hb1 : Below w.heap.size w D1 := by rw [← hD1]; exact (Below.refl _ _).alloc (Nat.le_refl _) _
  rw [hD1]
  obtain ⟨D2, hD2⟩ : ∃ D2, D1.alloc (Obj.cells #[Value.int IntKind.i64 p, Value.slice A' n c', Value.slice B' m d'] 68) = D2 := ⟨_, rfl⟩
  have hb2 : Below D1.heap.size D1 D2 := by rw [← hD2]; exact (Below.refl _ _).alloc (Nat.le_refl _) _
  have z0 : D2.heap[w.heap.size + 1]? = some (.cells #[Value.int IntKind.i64 p, Value.slice A' n c', Value.slice B' m d'] 68 (0, 0)) := by rw [← hD2, ← hz1]; exact World.alloc_heap_new D1 _
  rw [hD2]
  replace m0 := blk_below m0 hb2
  have HBD := Aside0.mk (below_step hb1 hb2)
  clear hD1 hD2 hz1 hb1 hb2
  have a0 : _ = some (Value.int .i64 p) := blk_cell m0 0
  have a1 : _ = some (Value.slice A n c) := blk_cell m0 1
  have a2 : _ = some (Value.slice B m d) := blk_cell m0 2
  have b0 : _ = some (Value.int .i64 p) := blk_cell z0 0
  have b1 : _ = some (Value.slice A' n c') := blk_cell z0 1
  have b2 : _ = some (Value.slice B' m d') := blk_cell z0 2
  obtain ⟨h, hh⟩ : ∃ h, w.heap.size + 1 = h := ⟨_, rfl⟩
  rw [hh] at b0 b1 b2 ⊢
  have HM0 := Aside0.mk m0
  have HZ0 := Aside0.mk z0
  clear m0 z0
  go_wp2_with (first
    | (go_at_call 46; (with_reducible refine (C1.out _ HBD.out).mono ?_); rintro e w3 ⟨rfl, hb⟩; have HB3 := Aside0.mk (below_step HBD.out hb); have e2 := (hb.cell (World.block_lt_of_cell? _ _ a2)).trans a2; have f2 := (hb.cell (World.block_lt_of_cell? _ _ b2)).trans b2; clear hb a0 a1 a2 b0 b1 b2)
    | (go_at_call 46; (with_reducible refine (C2.out _ HB3.out).mono ?_); rintro e w4 ⟨rfl, hb⟩; have HB4 := Aside0.mk (below_step HB3.out hb); clear hb))
  go_ret
  exact ⟨rfl, HB4.out⟩
end Go.Proofs.YtenjldfflkinkaaDoor.Sav

namespace Go.Proofs.YtenjldfflkinkaaDoor.Sav
set_option linter.unusedVariables false
set_option linter.unusedSimpArgs false
open Go.RowKit Go.Proofs.YtenjldfflkinkaaDoor.F Go.Proofs.YtenjldfflkinkaaDoorW.PrintWords Go.Proofs.YtenjldfflkinkaaDoorW.PrintLast Go.Proofs.YtenjldfflkinkaaDoorW.PrintMore
open Go.Proofs.YtenjldfflkinkaaDoor.Rop (Sl Ch ChV CV ChAt Rc)
set_option linter.unusedSectionVars false
variable [Coe Unit Nat]
set_option maxRecDepth 100000 in
set_option maxHeartbeats 4000000 in
theorem RSameRows_calls {w : World} {A A' : Option Addr} {n c c' : Nat} {vs vs' : Nat → CV} {xs : Nat → Ch} (h : Rc w A n c vs xs) (h2 : Rc w A' n c' vs' xs) (hn : n ≤ 1000) (hv : ∀ i, i < n → (vs i).n ≤ 5000 ∧ (vs i).m ≤ 5000) : Calls Tryd.prog 47 #[.slice A n c, .slice A' n c'] w fun e w' => e = .returned (.bool true) ∧ Below w.heap.size w w' := by
  have HR := Aside0.mk h
  have HR2 := Aside0.mk h2
  have HV := Aside0.mk hv
  clear h h2 hv
  go_enter Tryd.func47, Tryd.ntmps47
  go_wp2
  go_loopw [5] (fun v5 wr => ∃ i : Nat, v5 = .int .i64 (i : Int) ∧ i ≤ n ∧ Aside0 (Below w.heap.size w wr)) (fun v5 _ => n - (intOf v5).toNat)
  case atStart => exact ⟨0, rfl, Nat.zero_le _, ⟨Below.refl _ _⟩⟩
  case round =>
    obtain ⟨i, rfl, hi, HBr⟩ := hrel
    by_cases hlt : i < n
    · have hlt' : (i : Int) < (n : Int) := by omega
      obtain ⟨ad, rfl, hat0⟩ := HR.out.at_ i hlt
      obtain ⟨ad2, rfl, hat2⟩ := HR2.out.at_ i hlt
      have hsz := HV.out i hlt
      obtain ⟨x, hx⟩ : ∃ x, xs i = x := ⟨_, rfl⟩
      obtain ⟨cv, hcv⟩ : ∃ cv, vs i = cv := ⟨_, rfl⟩
      obtain ⟨cw, hcw⟩ : ∃ cw, vs' i = cw := ⟨_, rfl⟩
      rw [hx, hcv] at hat0
      rw [hx, hcw] at hat2
      rw [hcv] at hsz
      obtain ⟨p, A5, n5, c5, B5, m5, d5⟩ := cv
      obtain ⟨p6, A6, n6, c6, B6, m6, d6⟩ := cw
      have e1 : p6 = p := hat2.h.hp.trans hat0.h.hp.symm
      have e2 : n6 = n5 := hat2.h.g.hn.symm.trans hat0.h.g.hn
      have e3 : m6 = m5 := hat2.h.k.hn.symm.trans hat0.h.k.hn
      subst e1 e2 e3
      try dsimp only at hsz
      have HA1 := Aside0.mk (fun W (hb : Below w.heap.size w W) => hat0.below hb)
      have HA2 := Aside0.mk (fun W (hb : Below w.heap.size w W) => hat2.below hb)
      try dsimp only at HA1 HA2
      clear hat0 hat2 hx hcv hcw
      go_upto_region 6 with (fail)
      refine start_ (n := 10) (S := fun w' => Below w.heap.size w w') (ds := []) #[false, false, false, false, false, false, false, false, false, false] (by kernel_rfl) rfl rfl (below_drew HBr.out) (fun hHeld => ?_)
      generalize wr.drew = D at hHeld ⊢
      refine pure_ (i := 0) (N := some 17) (v := ?_) (a' := ?_) #[true, false, false, false, false, false, false, false, false, false] rfl rfl (by kernel_rfl) (fun _ _ _ h => h) (Or.inl ⟨by rfl, ?_⟩) ?_ ?_
      rotate_left
      · intro w'
        go_simp
        with_reducible rfl
      rotate_left
      · simp only [Act.put, List.setIfInBounds_toArray, List.set_cons_zero, List.set_cons_succ, i64_w, i32_w]
        rfl
      refine pure_ (i := 1) (N := some 18) (v := ?_) (a' := ?_) #[true, true, false, false, false, false, false, false, false, false] rfl rfl (by kernel_rfl) (fun _ _ _ h => h) (Or.inl ⟨by rfl, ?_⟩) ?_ ?_
      rotate_left
      · intro w'
        go_simp
        with_reducible rfl
      rotate_left
      · simp only [Act.put, List.setIfInBounds_toArray, List.set_cons_zero, List.set_cons_succ, i64_w, i32_w]
        rfl
      refine pure_ (i := 4) (N := some 21) (v := ?_) (a' := ?_) #[true, true, false, false, true, false, false, false, false, false] rfl rfl (by kernel_rfl) (fun _ _ _ h => h) (Or.inl ⟨by rfl, ?_⟩) ?_ ?_
      rotate_left
      · intro w'
        go_simp
        with_reducible rfl
      rotate_left
      · simp only [Act.put, List.setIfInBounds_toArray, List.set_cons_zero, List.set_cons_succ, i64_w, i32_w]
        rfl
      refine pure_ (i := 5) (N := some 22) (v := ?_) (a' := ?_) #[true, true, false, false, true, true, false, false, false, false] rfl rfl (by kernel_rfl) (fun _ _ _ h => h) (Or.inl ⟨by rfl, ?_⟩) ?_ ?_
      rotate_left
      · intro w'
        go_simp
        with_reducible rfl
      rotate_left
      · simp only [Act.put, List.setIfInBounds_toArray, List.set_cons_zero, List.set_cons_succ, i64_w, i32_w]
        rfl
      refine pure_ (i := 2) (N := some 19) (v := ?_) (a' := ?_) #[true, true, true, false, true, true, false, false, false, false] rfl rfl (by kernel_rfl) (fun _ _ _ h => h) (Or.inl ⟨by rfl, ?_⟩) ?_ ?_
      rotate_left
      · intro w'
        go_simp
        with_reducible rfl
      rotate_left
      · simp only [Act.put, List.setIfInBounds_toArray, List.set_cons_zero, List.set_cons_succ, i64_w, i32_w]
        rfl
      refine take_ (i := 3) (N := some 20) (v := ?_) (a' := ?_) #[true, true, true, true, true, true, false, false, false, false] rfl rfl (by kernel_rfl) (fun _ _ _ h => h) (Or.inl ⟨by rfl, ?_⟩) hHeld ?_ ?_
      rotate_left
      · rintro w' hs
        have k0 := (HA1.out _ hs).c0
        have k1 := (HA1.out _ hs).c1
        have k2 := (HA1.out _ hs).c2
        go_simp
        with_reducible rfl
      rotate_left
      · simp only [Act.put, List.setIfInBounds_toArray, List.set_cons_zero, List.set_cons_succ, i64_w, i32_w]
        rfl
      refine pure_ (i := 6) (N := some 23) (v := ?_) (a' := ?_) #[true, true, true, true, true, true, true, false, false, false] rfl rfl (by kernel_rfl) (fun _ _ _ h => h) (Or.inl ⟨by rfl, ?_⟩) ?_ ?_
      rotate_left
      · intro w'
        go_simp
        with_reducible rfl
      rotate_left
      · simp only [Act.put, List.setIfInBounds_toArray, List.set_cons_zero, List.set_cons_succ, i64_w, i32_w]
        rfl
      refine take_ (i := 7) (N := some 24) (v := ?_) (a' := ?_) #[true, true, true, true, true, true, true, true, false, false] rfl rfl (by kernel_rfl) (fun _ _ _ h => h) (Or.inl ⟨by rfl, ?_⟩) hHeld ?_ ?_
      rotate_left
      · rintro w' hs
        have k0 := (HA2.out _ hs).c0
        have k1 := (HA2.out _ hs).c1
        have k2 := (HA2.out _ hs).c2
        go_simp
        with_reducible rfl
      rotate_left
      · simp only [Act.put, List.setIfInBounds_toArray, List.set_cons_zero, List.set_cons_succ, i64_w, i32_w]
        rfl
      refine one_ (i := 8) (N := some 25) #[true, true, true, true, true, true, true, true, true, false] rfl rfl (by kernel_rfl) (by decide) (fun K hK => ?_)
      refine goes_ Tryd.func73 (by kernel_rfl) rfl #[.agg #[.int .i64 p6, .slice A5 n6 c5, .slice B5 m6 d5], .agg #[.int .i64 p6, .slice A6 n6 c6, .slice B6 m6 d6]] (by rfl) rfl rfl (by (try simp only [List.map_toArray, List.map_cons, List.map_nil]); first | done | rfl) ?_
      (with_reducible refine (RSameChange_calls (HA1.out _ hHeld).h (HA2.out _ hHeld).h (show n6 ≤ 100000 by omega) (show m6 ≤ 100000 by omega)).mono ?_)
      rintro e w9 ⟨rfl, hb⟩
      refine ⟨_, rfl, ?_⟩
      have hh9 := below_step hHeld hb
      clear hb
      refine hK.out _ _ hh9 (fun hHeld => ?_)
      clear hK K
      refine norm_ (a' := ?_) ?_ ?_
      rotate_left
      · show Act.put _ (some 25) _ = _
        simp only [Act.put, List.setIfInBounds_toArray, List.set_cons_zero, List.set_cons_succ, i64_w, i32_w]
        rfl
      refine pure_ (i := 9) (N := some 26) (v := ?_) (a' := ?_) #[true, true, true, true, true, true, true, true, true, true] rfl rfl (by kernel_rfl) (fun _ _ _ h => h) (Or.inl ⟨by rfl, ?_⟩) ?_ ?_
      rotate_left
      · intro w'
        go_simp
        with_reducible rfl
      rotate_left
      · simp only [Act.put, List.setIfInBounds_toArray, List.set_cons_zero, List.set_cons_succ, i64_w, i32_w]
        rfl
      refine done_ (by kernel_rfl) ?_
      go_wp2
      go_roundw
      case measure => first | (simp [intOf]; done) | (simp [intOf]; omega)
      case rel => exact ⟨i + 1, by go_num, by omega, ⟨hHeld⟩⟩
    · obtain rfl : i = n := by omega
      go_wp2
      go_ret
      exact ⟨rfl, HBr.out⟩
end Go.Proofs.YtenjldfflkinkaaDoor.Sav

namespace Go.Proofs.YtenjldfflkinkaaDoor.Sav
set_option linter.unusedVariables false
set_option linter.unusedSimpArgs false
open Go.RowKit Go.Proofs.YtenjldfflkinkaaDoor.F Go.Proofs.YtenjldfflkinkaaDoorW.PrintWords Go.Proofs.YtenjldfflkinkaaDoorW.PrintLast Go.Proofs.YtenjldfflkinkaaDoorW.PrintMore
open Go.Proofs.YtenjldfflkinkaaDoor.Rop (Sl Ch ChV CV Rc SV SP StOk)
set_option linter.unusedSectionVars false
variable [Coe Unit Nat]
set_option maxRecDepth 100000 in
set_option maxHeartbeats 4000000 in
theorem RSameSt_calls {w : World} {A B C A' B' C' : Option Addr} {n n1 n2 c c1 c2 d d1 d2 : Nat} {v1 v2 v1' v2' : Nat → CV} {s : SP} (h : StOk w ⟨A, n, c, B, n1, c1, C, n2, c2, v1, v2⟩ s) (h2 : StOk w ⟨A', n, d, B', n1, d1, C', n2, d2, v1', v2'⟩ s) : Calls Tryd.prog 14 #[.agg #[.slice A n c, .slice B n1 c1, .slice C n2 c2], .agg #[.slice A' n d, .slice B' n1 d1, .slice C' n2 d2]] w fun e w' => e = .returned (.bool true) ∧ Below w.heap.size w w' := by
  have C1 := Aside0.mk (fun W (hb : Below w.heap.size w W) => (show Calls Tryd.prog 46 #[.slice A n c, .slice A' n d] W (fun e w' => e = .returned (.bool true) ∧ Below W.heap.size W w') from RSame_calls (h.below hb).t (h2.below hb).t (by have := h.bn; dsimp only at this; omega)))
  have C2 := Aside0.mk (fun W (hb : Below w.heap.size w W) => (show Calls Tryd.prog 47 #[.slice B n1 c1, .slice B' n1 d1] W (fun e w' => e = .returned (.bool true) ∧ Below W.heap.size W w') from RSameRows_calls (h.below hb).u (h2.below hb).u h.b1 h.s1))
  have C3 := Aside0.mk (fun W (hb : Below w.heap.size w W) => (show Calls Tryd.prog 47 #[.slice C n2 c2, .slice C' n2 d2] W (fun e w' => e = .returned (.bool true) ∧ Below W.heap.size W w') from RSameRows_calls (h.below hb).r (h2.below hb).r h.b2 h.s2))
  clear h h2
  go_enter Tryd.func14, Tryd.ntmps14
  go_upto_region 1 with (fail)
  obtain ⟨D1, hD1⟩ : ∃ D1, w.alloc (Obj.cells #[Value.slice A n c, Value.slice B n1 c1, Value.slice C n2 c2] 34) = D1 := ⟨_, rfl⟩
  have m0 : D1.heap[w.heap.size]? = some (.cells #[Value.slice A n c, Value.slice B n1 c1, Value.slice C n2 c2] 34 (0, 0)) := by rw [← hD1]; exact World.alloc_heap_new w _
  have hz1 : D1.heap.size = w.heap.size + 1 := by rw [← hD1]; simp
  have hb1 : Below w.heap.size w D1 := by rw [← hD1]; exact (Below.refl _ _).alloc (Nat.le_refl _) _
  rw [hD1]
  obtain ⟨D2, hD2⟩ : ∃ D2, D1.alloc (Obj.cells #[Value.slice A' n d, Value.slice B' n1 d1, Value.slice C' n2 d2] 34) = D2 := ⟨_, rfl⟩
  have hb2 : Below D1.heap.size D1 D2 := by rw [← hD2]; exact (Below.refl _ _).alloc (Nat.le_refl _) _
  have z0 : D2.heap[w.heap.size + 1]? = some (.cells #[Value.slice A' n d, Value.slice B' n1 d1, Value.slice C' n2 d2] 34 (0, 0)) := by rw [← hD2, ← hz1]; exact World.alloc_heap_new D1 _
  rw [hD2]
  replace m0 := blk_below m0 hb2
  have HBD := Aside0.mk (below_step hb1 hb2)
  clear hD1 hD2 hz1 hb1 hb2
  have a0 : _ = some (Value.slice A n c) := blk_cell m0 0
  have a1 : _ = some (Value.slice B n1 c1) := blk_cell m0 1
  have a2 : _ = some (Value.slice C n2 c2) := blk_cell m0 2
  have b0 : _ = some (Value.slice A' n d) := blk_cell z0 0
  have b1 : _ = some (Value.slice B' n1 d1) := blk_cell z0 1
  have b2 : _ = some (Value.slice C' n2 d2) := blk_cell z0 2
  obtain ⟨h, hh⟩ : ∃ h, w.heap.size + 1 = h := ⟨_, rfl⟩
  rw [hh] at b0 b1 b2 ⊢
  have HM0 := Aside0.mk m0
  have HZ0 := Aside0.mk z0
  clear m0 z0
  go_wp2_with (first
    | (go_at_call 46; (with_reducible refine (C1.out _ HBD.out).mono ?_); rintro e w3 ⟨rfl, hb⟩; have HB3 := Aside0.mk (below_step HBD.out hb); have e1 := (hb.cell (World.block_lt_of_cell? _ _ a1)).trans a1; have f1 := (hb.cell (World.block_lt_of_cell? _ _ b1)).trans b1; have e2 := (hb.cell (World.block_lt_of_cell? _ _ a2)).trans a2; have f2 := (hb.cell (World.block_lt_of_cell? _ _ b2)).trans b2; clear hb a0 a1 a2 b0 b1 b2)
    | (go_at_call 47; (with_reducible refine (C2.out _ HB3.out).mono ?_); rintro e w4 ⟨rfl, hb⟩; have HB4 := Aside0.mk (below_step HB3.out hb); have g2 := (hb.cell (World.block_lt_of_cell? _ _ e2)).trans e2; have k2 := (hb.cell (World.block_lt_of_cell? _ _ f2)).trans f2; clear hb e1 f1 e2 f2)
    | (go_at_call 47; (with_reducible refine (C3.out _ HB4.out).mono ?_); rintro e w5 ⟨rfl, hb⟩; have HB5 := Aside0.mk (below_step HB4.out hb); clear hb))
  go_ret
  exact ⟨rfl, HB5.out⟩
end Go.Proofs.YtenjldfflkinkaaDoor.Sav

namespace Go.Proofs.YtenjldfflkinkaaDoor.Sav
set_option linter.unusedVariables false
set_option linter.unusedSimpArgs false
open Go.RowKit Go.Proofs.YtenjldfflkinkaaDoor.F Go.Proofs.YtenjldfflkinkaaDoorW.PrintWords Go.Proofs.YtenjldfflkinkaaDoorW.PrintLast Go.Proofs.YtenjldfflkinkaaDoorW.PrintMore
theorem and192 {b : Int} (h0 : 128 ≤ b) (h1 : b < 192) : Go.bits .and .u8 b 192 = 128 := by
  have h : ∀ t : Fin 64, Go.bits .and .u8 (128 + (t.1 : Int)) 192 = 128 := by decide
  have h2 := h ⟨(b - 128).toNat, by omega⟩
  have h3 : (128 + (((b - 128).toNat : Nat) : Int)) = b := by omega
  have h4 : Go.bits .and .u8 (128 + (((b - 128).toNat : Nat) : Int)) 192 = 128 := h2
  rw [h3] at h4
  exact h4
theorem and63 {b : Int} (h0 : 128 ≤ b) (h1 : b < 192) : Go.bits .and .u8 b 63 = b - 128 := by rw [u8_and63 b (by omega) (by omega)]; omega
theorem add_add {ad : Addr} {i j : Nat} : (ad.add i).add j = ad.add (i + j) := by
  unfold Addr.add
  by_cases hi : i = 0
  · subst hi; simp
  · by_cases hj : j = 0
    · subst hj; simp [hi]
    · rw [if_neg hi, if_neg hj, if_neg (by omega)]; simp [Nat.add_assoc]

set_option maxRecDepth 100000 in
set_option maxHeartbeats 8000000 in
theorem next_1 {w : World} {A : Option Addr} {n c : Nat} {l : List Int} {r b0 : Int} (h : Sb w A n c l) (hn : 1 ≤ n) (hn6 : n ≤ 1000000) (h0 : l.getD 0 0 = b0) (q0 : 0 ≤ b0 ∧ b0 < 128) (hr : b0 = r) (hs : scal r) (hz : sizR r = 1) : Calls Tryd.prog 85 #[.slice A n c] w fun e w' => e = .returned (.tuple #[.int .i32 r, .int .i64 1]) ∧ Drawn0 w w' := by
  have CSz := Aside0.mk (fun W => Size_calls (w := W) hs)
  skip
  obtain ⟨ad, rfl, x0⟩ := byte_read h.hC h.hn 0 (by omega)
  rw [h0] at x0
  have hc := h.hc
  have hm := h.hm
  clear h hs hz h0
  have t128 : (b0 < 128) = True := eq_true (by omega)
  have t0 : ((n : Int) == 0) = false := by simp; omega
  subst hr
  have q0a := q0.1
  have q0b := q0.2
  have x0' : w.cell? ad = some (.int .u8 b0) := x0
  go_enter Tryd.func85, Tryd.ntmps85
  go_wp2
  go_step3
  go_wp2
  simp only [Exit.noGoto]
  go_ret2
  exact ⟨rfl, Drawn0.refl _⟩
set_option maxRecDepth 100000 in
set_option maxHeartbeats 8000000 in
theorem next_2 {w : World} {A : Option Addr} {n c : Nat} {l : List Int} {r b0 b1 : Int} (h : Sb w A n c l) (hn : 2 ≤ n) (hn6 : n ≤ 1000000) (h0 : l.getD 0 0 = b0) (h1 : l.getD 1 0 = b1) (q0 : 192 ≤ b0 ∧ b0 < 224) (q1 : 128 ≤ b1 ∧ b1 < 192) (hr : ((b0 - 192) * 64 + (b1 - 128)) = r) (hs : scal r) (hz : sizR r = 2) : Calls Tryd.prog 85 #[.slice A n c] w fun e w' => e = .returned (.tuple #[.int .i32 r, .int .i64 2]) ∧ Drawn0 w w' := by
  have CSz := Aside0.mk (fun W => Size_calls (w := W) hs)
  rw [hz] at CSz
  have hrm := fun W => run_mid (A := A) (c := c) (n := n) (x := 1) (y := 2) (by omega) (by omega) h.hc W
  obtain ⟨ad, rfl, x0⟩ := byte_read h.hC h.hn 0 (by omega)
  obtain ⟨ad1, ed1, x1⟩ := byte_read h.hC h.hn 1 (by omega)
  obtain rfl : ad = ad1 := by injection ed1
  rw [h0] at x0
  rw [h1] at x1
  have hc := h.hc
  have hm := h.hm
  clear h hs hz h0 h1
  have t128 : (b0 < 128) = False := eq_false (by omega)
  have t192 : (b0 < 192) = False := eq_false (by omega)
  have t224 : (b0 < 224) = True := eq_true (by omega)
  have t0 : ((n : Int) == 0) = false := by simp; omega
  have tn : ((n : Int) < 2) = False := eq_false (by omega)
  have m0 : Go.bits .and .u8 b0 31 = b0 - 192 := by rw [u8_and31 b0 (by omega) (by omega)]; omega
  obtain ⟨v0, hv0⟩ : ∃ v, b0 - 192 = v := ⟨_, rfl⟩
  rw [hv0] at m0 hr
  have k0 : 0 ≤ v0 ∧ v0 < 32 := by omega
  have a1 := and192 q1.1 q1.2
  have s1 := and63 q1.1 q1.2
  obtain ⟨u1, hu1⟩ : ∃ u, b1 - 128 = u := ⟨_, rfl⟩
  rw [hu1] at s1 hr
  have g1 : 0 ≤ u1 ∧ u1 < 64 := by omega
  have o1 : Go.bits .or .i32 (v0 * 64) u1 = v0 * 64 + u1 := i32_or6 _ _ (by omega) (by omega) (by omega) g1.1 g1.2
  obtain ⟨v1, hv1⟩ : ∃ v, v0 * 64 + u1 = v := ⟨_, rfl⟩
  rw [hv1] at o1 hr
  have k1 : 0 ≤ v1 ∧ v1 < 2048 := by omega
  have k1a := k1.1
  have k1b := k1.2
  have g1a := g1.1
  have g1b := g1.2
  have k0a := k0.1
  have k0b := k0.2
  subst hr
  clear hv0 hv1 hu1 g1 k0 k1
  have hcn : (c = 1) = False := eq_false (by omega)
  have hra : restA (some ad) c 1 = some (ad.add 1) := by unfold restA; rw [if_neg (by omega)]; rfl
  rw [hra] at hrm
  have y1 : w.cell? ((ad.add 1).add 0) = some (.int .u8 b1) := by rw [add_add]; exact x1
  have x0' : w.cell? ad = some (.int .u8 b0) := x0
  clear hra hcn hc x1
  obtain ⟨ax, hax⟩ : ∃ ax, ad.add 1 = ax := ⟨_, rfl⟩
  rw [hax] at hrm y1
  clear hax
  have y1' : w.cell? ax = some (.int .u8 b1) := y1
  have hrn : ∀ W, (Instr.slice 40 (.slice (some ad) n c) (some (.int .i64 1)) (some (.int .i64 2)) none).run Tryd.prog W = .ok (.slice (some ax) 1 (c - 1)) W := hrm
  clear hrm
  go_enter Tryd.func85, Tryd.ntmps85
  go_wp2
  go_step3
  go_wp2
  refine wp_loop_rounds 2 ?_
  rw [rounds_succ]
  go_wp2
  rw [rounds_succ]
  go_wp2_with (go_at_call 77; (with_reducible refine (CSz.out _).mono ?_); rintro e wz ⟨rfl, hdz⟩; have HD := Aside0.mk hdz; clear hdz)
  simp only [Exit.noGoto]
  go_ret2
  exact ⟨rfl, HD.out⟩
set_option maxRecDepth 100000 in
set_option maxHeartbeats 8000000 in
theorem next_3 {w : World} {A : Option Addr} {n c : Nat} {l : List Int} {r b0 b1 b2 : Int} (h : Sb w A n c l) (hn : 3 ≤ n) (hn6 : n ≤ 1000000) (h0 : l.getD 0 0 = b0) (h1 : l.getD 1 0 = b1) (h2 : l.getD 2 0 = b2) (q0 : 224 ≤ b0 ∧ b0 < 240) (q1 : 128 ≤ b1 ∧ b1 < 192) (q2 : 128 ≤ b2 ∧ b2 < 192) (hr : (((b0 - 224) * 64 + (b1 - 128)) * 64 + (b2 - 128)) = r) (hs : scal r) (hz : sizR r = 3) : Calls Tryd.prog 85 #[.slice A n c] w fun e w' => e = .returned (.tuple #[.int .i32 r, .int .i64 3]) ∧ Drawn0 w w' := by
  have CSz := Aside0.mk (fun W => Size_calls (w := W) hs)
  rw [hz] at CSz
  have hrm := fun W => run_mid (A := A) (c := c) (n := n) (x := 1) (y := 3) (by omega) (by omega) h.hc W
  obtain ⟨ad, rfl, x0⟩ := byte_read h.hC h.hn 0 (by omega)
  obtain ⟨ad1, ed1, x1⟩ := byte_read h.hC h.hn 1 (by omega)
  obtain rfl : ad = ad1 := by injection ed1
  obtain ⟨ad2, ed2, x2⟩ := byte_read h.hC h.hn 2 (by omega)
  obtain rfl : ad = ad2 := by injection ed2
  rw [h0] at x0
  rw [h1] at x1
  rw [h2] at x2
  have hc := h.hc
  have hm := h.hm
  clear h hs hz h0 h1 h2
  have t128 : (b0 < 128) = False := eq_false (by omega)
  have t192 : (b0 < 192) = False := eq_false (by omega)
  have t224 : (b0 < 224) = False := eq_false (by omega)
  have t240 : (b0 < 240) = True := eq_true (by omega)
  have t0 : ((n : Int) == 0) = false := by simp; omega
  have tn : ((n : Int) < 3) = False := eq_false (by omega)
  have m0 : Go.bits .and .u8 b0 15 = b0 - 224 := by rw [u8_and15 b0 (by omega) (by omega)]; omega
  obtain ⟨v0, hv0⟩ : ∃ v, b0 - 224 = v := ⟨_, rfl⟩
  rw [hv0] at m0 hr
  have k0 : 0 ≤ v0 ∧ v0 < 16 := by omega
  have a1 := and192 q1.1 q1.2
  have s1 := and63 q1.1 q1.2
  obtain ⟨u1, hu1⟩ : ∃ u, b1 - 128 = u := ⟨_, rfl⟩
  rw [hu1] at s1 hr
  have g1 : 0 ≤ u1 ∧ u1 < 64 := by omega
  have o1 : Go.bits .or .i32 (v0 * 64) u1 = v0 * 64 + u1 := i32_or6 _ _ (by omega) (by omega) (by omega) g1.1 g1.2
  obtain ⟨v1, hv1⟩ : ∃ v, v0 * 64 + u1 = v := ⟨_, rfl⟩
  rw [hv1] at o1 hr
  have k1 : 0 ≤ v1 ∧ v1 < 1024 := by omega
  have k1a := k1.1
  have k1b := k1.2
  have g1a := g1.1
  have g1b := g1.2
  have a2 := and192 q2.1 q2.2
  have s2 := and63 q2.1 q2.2
  obtain ⟨u2, hu2⟩ : ∃ u, b2 - 128 = u := ⟨_, rfl⟩
  rw [hu2] at s2 hr
  have g2 : 0 ≤ u2 ∧ u2 < 64 := by omega
  have o2 : Go.bits .or .i32 (v1 * 64) u2 = v1 * 64 + u2 := i32_or6 _ _ (by omega) (by omega) (by omega) g2.1 g2.2
  obtain ⟨v2, hv2⟩ : ∃ v, v1 * 64 + u2 = v := ⟨_, rfl⟩
  rw [hv2] at o2 hr
  have k2 : 0 ≤ v2 ∧ v2 < 65536 := by omega
  have k2a := k2.1
  have k2b := k2.2
  have g2a := g2.1
  have g2b := g2.2
  have k0a := k0.1
  have k0b := k0.2
  subst hr
  clear hv0 hv1 hv2 hu1 hu2 g1 g2 k0 k1 k2
  have hcn : (c = 1) = False := eq_false (by omega)
  have hra : restA (some ad) c 1 = some (ad.add 1) := by unfold restA; rw [if_neg (by omega)]; rfl
  rw [hra] at hrm
  have y1 : w.cell? ((ad.add 1).add 0) = some (.int .u8 b1) := by rw [add_add]; exact x1
  have y2 : w.cell? ((ad.add 1).add 1) = some (.int .u8 b2) := by rw [add_add]; exact x2
  have x0' : w.cell? ad = some (.int .u8 b0) := x0
  clear hra hcn hc x1 x2
  obtain ⟨ax, hax⟩ : ∃ ax, ad.add 1 = ax := ⟨_, rfl⟩
  rw [hax] at hrm y1 y2
  clear hax
  have y1' : w.cell? ax = some (.int .u8 b1) := y1
  have hrn : ∀ W, (Instr.slice 40 (.slice (some ad) n c) (some (.int .i64 1)) (some (.int .i64 3)) none).run Tryd.prog W = .ok (.slice (some ax) 2 (c - 1)) W := hrm
  clear hrm
  have y2' : w.cell? ⟨ax.block, ax.off + 1, none⟩ = some (.int .u8 b2) := y2
  go_enter Tryd.func85, Tryd.ntmps85
  go_wp2
  go_step3
  go_wp2
  refine wp_loop_rounds 3 ?_
  rw [rounds_succ]
  go_wp2
  rw [rounds_succ]
  go_wp2
  rw [rounds_succ]
  go_wp2_with (go_at_call 77; (with_reducible refine (CSz.out _).mono ?_); rintro e wz ⟨rfl, hdz⟩; have HD := Aside0.mk hdz; clear hdz)
  simp only [Exit.noGoto]
  go_ret2
  exact ⟨rfl, HD.out⟩
set_option maxRecDepth 100000 in
set_option maxHeartbeats 8000000 in
theorem next_4 {w : World} {A : Option Addr} {n c : Nat} {l : List Int} {r b0 b1 b2 b3 : Int} (h : Sb w A n c l) (hn : 4 ≤ n) (hn6 : n ≤ 1000000) (h0 : l.getD 0 0 = b0) (h1 : l.getD 1 0 = b1) (h2 : l.getD 2 0 = b2) (h3 : l.getD 3 0 = b3) (q0 : 240 ≤ b0 ∧ b0 < 248) (q1 : 128 ≤ b1 ∧ b1 < 192) (q2 : 128 ≤ b2 ∧ b2 < 192) (q3 : 128 ≤ b3 ∧ b3 < 192) (hr : ((((b0 - 240) * 64 + (b1 - 128)) * 64 + (b2 - 128)) * 64 + (b3 - 128)) = r) (hs : scal r) (hz : sizR r = 4) : Calls Tryd.prog 85 #[.slice A n c] w fun e w' => e = .returned (.tuple #[.int .i32 r, .int .i64 4]) ∧ Drawn0 w w' := by
  have CSz := Aside0.mk (fun W => Size_calls (w := W) hs)
  rw [hz] at CSz
  have hrm := fun W => run_mid (A := A) (c := c) (n := n) (x := 1) (y := 4) (by omega) (by omega) h.hc W
  obtain ⟨ad, rfl, x0⟩ := byte_read h.hC h.hn 0 (by omega)
  obtain ⟨ad1, ed1, x1⟩ := byte_read h.hC h.hn 1 (by omega)
  obtain rfl : ad = ad1 := by injection ed1
  obtain ⟨ad2, ed2, x2⟩ := byte_read h.hC h.hn 2 (by omega)
  obtain rfl : ad = ad2 := by injection ed2
  obtain ⟨ad3, ed3, x3⟩ := byte_read h.hC h.hn 3 (by omega)
  obtain rfl : ad = ad3 := by injection ed3
  rw [h0] at x0
  rw [h1] at x1
  rw [h2] at x2
  rw [h3] at x3
  have hc := h.hc
  have hm := h.hm
  clear h hs hz h0 h1 h2 h3
  have t128 : (b0 < 128) = False := eq_false (by omega)
  have t192 : (b0 < 192) = False := eq_false (by omega)
  have t224 : (b0 < 224) = False := eq_false (by omega)
  have t240 : (b0 < 240) = False := eq_false (by omega)
  have t248 : (b0 < 248) = True := eq_true (by omega)
  have t0 : ((n : Int) == 0) = false := by simp; omega
  have tn : ((n : Int) < 4) = False := eq_false (by omega)
  have m0 : Go.bits .and .u8 b0 7 = b0 - 240 := by rw [u8_and7 b0 (by omega) (by omega)]; omega
  obtain ⟨v0, hv0⟩ : ∃ v, b0 - 240 = v := ⟨_, rfl⟩
  rw [hv0] at m0 hr
  have k0 : 0 ≤ v0 ∧ v0 < 8 := by omega
  have a1 := and192 q1.1 q1.2
  have s1 := and63 q1.1 q1.2
  obtain ⟨u1, hu1⟩ : ∃ u, b1 - 128 = u := ⟨_, rfl⟩
  rw [hu1] at s1 hr
  have g1 : 0 ≤ u1 ∧ u1 < 64 := by omega
  have o1 : Go.bits .or .i32 (v0 * 64) u1 = v0 * 64 + u1 := i32_or6 _ _ (by omega) (by omega) (by omega) g1.1 g1.2
  obtain ⟨v1, hv1⟩ : ∃ v, v0 * 64 + u1 = v := ⟨_, rfl⟩
  rw [hv1] at o1 hr
  have k1 : 0 ≤ v1 ∧ v1 < 512 := by omega
  have k1a := k1.1
  have k1b := k1.2
  have g1a := g1.1
  have g1b := g1.2
  have a2 := and192 q2.1 q2.2
  have s2 := and63 q2.1 q2.2
  obtain ⟨u2, hu2⟩ : ∃ u, b2 - 128 = u := ⟨_, rfl⟩
  rw [hu2] at s2 hr
  have g2 : 0 ≤ u2 ∧ u2 < 64 := by omega
  have o2 : Go.bits .or .i32 (v1 * 64) u2 = v1 * 64 + u2 := i32_or6 _ _ (by omega) (by omega) (by omega) g2.1 g2.2
  obtain ⟨v2, hv2⟩ : ∃ v, v1 * 64 + u2 = v := ⟨_, rfl⟩
  rw [hv2] at o2 hr
  have k2 : 0 ≤ v2 ∧ v2 < 32768 := by omega
  have k2a := k2.1
  have k2b := k2.2
  have g2a := g2.1
  have g2b := g2.2
  have a3 := and192 q3.1 q3.2
  have s3 := and63 q3.1 q3.2
  obtain ⟨u3, hu3⟩ : ∃ u, b3 - 128 = u := ⟨_, rfl⟩
  rw [hu3] at s3 hr
  have g3 : 0 ≤ u3 ∧ u3 < 64 := by omega
  have o3 : Go.bits .or .i32 (v2 * 64) u3 = v2 * 64 + u3 := i32_or6 _ _ (by omega) (by omega) (by omega) g3.1 g3.2
  obtain ⟨v3, hv3⟩ : ∃ v, v2 * 64 + u3 = v := ⟨_, rfl⟩
  rw [hv3] at o3 hr
  have k3 : 0 ≤ v3 ∧ v3 < 2097152 := by omega
  have k3a := k3.1
  have k3b := k3.2
  have g3a := g3.1
  have g3b := g3.2
  have k0a := k0.1
  have k0b := k0.2
  subst hr
  clear hv0 hv1 hv2 hv3 hu1 hu2 hu3 g1 g2 g3 k0 k1 k2 k3
  have hcn : (c = 1) = False := eq_false (by omega)
  have hra : restA (some ad) c 1 = some (ad.add 1) := by unfold restA; rw [if_neg (by omega)]; rfl
  rw [hra] at hrm
  have y1 : w.cell? ((ad.add 1).add 0) = some (.int .u8 b1) := by rw [add_add]; exact x1
  have y2 : w.cell? ((ad.add 1).add 1) = some (.int .u8 b2) := by rw [add_add]; exact x2
  have y3 : w.cell? ((ad.add 1).add 2) = some (.int .u8 b3) := by rw [add_add]; exact x3
  have x0' : w.cell? ad = some (.int .u8 b0) := x0
  clear hra hcn hc x1 x2 x3
  obtain ⟨ax, hax⟩ : ∃ ax, ad.add 1 = ax := ⟨_, rfl⟩
  rw [hax] at hrm y1 y2 y3
  clear hax
  have y1' : w.cell? ax = some (.int .u8 b1) := y1
  have hrn : ∀ W, (Instr.slice 40 (.slice (some ad) n c) (some (.int .i64 1)) (some (.int .i64 4)) none).run Tryd.prog W = .ok (.slice (some ax) 3 (c - 1)) W := hrm
  clear hrm
  have y2' : w.cell? ⟨ax.block, ax.off + 1, none⟩ = some (.int .u8 b2) := y2
  have y3' : w.cell? ⟨ax.block, ax.off + 2, none⟩ = some (.int .u8 b3) := y3
  go_enter Tryd.func85, Tryd.ntmps85
  go_wp2
  go_step3
  go_wp2
  refine wp_loop_rounds 4 ?_
  rw [rounds_succ]
  go_wp2
  rw [rounds_succ]
  go_wp2
  rw [rounds_succ]
  go_wp2
  rw [rounds_succ]
  go_wp2_with (go_at_call 77; (with_reducible refine (CSz.out _).mono ?_); rintro e wz ⟨rfl, hdz⟩; have HD := Aside0.mk hdz; clear hdz)
  simp only [Exit.noGoto]
  go_ret2
  exact ⟨rfl, HD.out⟩
end Go.Proofs.YtenjldfflkinkaaDoor.Sav

namespace Go.Proofs.YtenjldfflkinkaaDoor.Sav
set_option linter.unusedVariables false
set_option linter.unusedSimpArgs false
open Go.RowKit Go.Proofs.YtenjldfflkinkaaDoor.F Go.Proofs.YtenjldfflkinkaaDoorW.PrintWords Go.Proofs.YtenjldfflkinkaaDoorW.PrintLast Go.Proofs.YtenjldfflkinkaaDoorW.PrintMore
theorem encR_siz (r : Int) : ((encR r).length : Int) = sizR r := by
  unfold encR sizR
  split
  · rfl
  · split
    · rfl
    · split <;> rfl
theorem next_calls {w : World} {A : Option Addr} {n c : Nat} {r : Int} {rest : List Int} (h : Sb w A n c (encR r ++ rest)) (hn6 : n ≤ 1000000) (hs : scal r) : Calls Tryd.prog 85 #[.slice A n c] w fun e w' => e = .returned (.tuple #[.int .i32 r, .int .i64 (sizR r)]) ∧ Drawn0 w w' := by
  have hl := h.hn
  rw [List.length_append] at hl
  have h0 := hs.1
  have h1 := hs.2.1
  unfold encR at h hl
  by_cases h3 : r < 128
  · have hz : sizR r = 1 := by unfold sizR; rw [if_pos h3]
    rw [if_pos h3] at h hl
    rw [hz]
    exact next_1 (l := [r] ++ rest) (b0 := r) h (by simp at hl; omega) hn6 rfl ⟨h0, h3⟩ rfl hs hz
  · rw [if_neg h3] at h hl
    by_cases h4 : r < 2048
    · have hz : sizR r = 2 := by unfold sizR; rw [if_neg h3, if_pos h4]
      rw [if_pos h4] at h hl
      rw [hz]
      exact next_2 (b0 := 192 + r / 64) (b1 := 128 + r % 64) h (by simp at hl; omega) hn6 rfl rfl (by omega) (by omega) (by omega) hs hz
    · rw [if_neg h4] at h hl
      by_cases h5 : r < 65536
      · have hz : sizR r = 3 := by unfold sizR; rw [if_neg h3, if_neg h4, if_pos h5]
        rw [if_pos h5] at h hl
        rw [hz]
        exact next_3 (b0 := 224 + r / 4096) (b1 := 128 + r / 64 % 64) (b2 := 128 + r % 64) h (by simp at hl; omega) hn6 rfl rfl rfl (by omega) (by omega) (by omega) (by omega) hs hz
      · have hz : sizR r = 4 := by unfold sizR; rw [if_neg h3, if_neg h4, if_neg h5]
        rw [if_neg h5] at h hl
        rw [hz]
        exact next_4 (b0 := 240 + r / 262144) (b1 := 128 + r / 4096 % 64) (b2 := 128 + r / 64 % 64) (b3 := 128 + r % 64) h (by simp at hl; omega) hn6 rfl rfl rfl rfl (by omega) (by omega) (by omega) (by omega) (by omega) hs hz
theorem utfE_split {l : List Int} {i : Nat} (h : i < l.length) : (utfE l).drop (utfE (l.take i)).length = encR (l.getD i 0) ++ utfE (l.drop (i + 1)) := by
  have h1 : utfE l = utfE (l.take i) ++ utfE (l.drop i) := by
    unfold utfE
    rw [← List.flatMap_append, List.take_append_drop]
  rw [h1, List.drop_append_of_le_length (Nat.le_refl _), List.drop_of_length_le (Nat.le_refl _), List.nil_append]
  have h2 : l.drop i = l.getD i 0 :: l.drop (i + 1) := by
    rw [List.getD_eq_getElem?_getD, List.getElem?_eq_getElem h, List.drop_eq_getElem_cons h]
    rfl
  rw [h2]
  unfold utfE
  rw [List.flatMap_cons]
theorem utfE_pre (l : List Int) (i : Nat) : (utfE l).length = (utfE (l.take i)).length + (utfE (l.drop i)).length := by
  have h1 : utfE l = utfE (l.take i) ++ utfE (l.drop i) := by
    unfold utfE
    rw [← List.flatMap_append, List.take_append_drop]
  conv => lhs; rw [h1]
  rw [List.length_append]
def GivesDec (l : List Int) (w : World) (e : Ending) (w' : World) : Prop := ∃ v : Value, e = .returned (.tuple #[v, .int .i64 0, .int .i64 0]) ∧ Kd.R (Kd.int .i32) 21 w' w.heap.size (fun _ => True) v l ∧ Below w.heap.size w w'
theorem Sb.drop {w : World} {A : Option Addr} {n c : Nat} {l : List Int} (h : Sb w A n c l) {y : Nat} (hy : y ≤ n) : Sb w (restA A c y) (n - y) (c - y) (l.drop y) := by
  have hn := h.hn
  subst hn
  exact ⟨C_drop h.hC h.hc hy, by simp, by have := h.hc; omega, by have := h.hm; omega⟩
theorem Sb.take {w : World} {A : Option Addr} {n c : Nat} {l : List Int} (h : Sb w A n c l) {y : Nat} (hy : y ≤ n) : Sb w A y c (l.take y) := by
  have hn := h.hn
  subst hn
  exact ⟨C_take h.hC hy, by simp; omega, by have := h.hc; omega, h.hm⟩
set_option maxRecDepth 100000 in
set_option maxHeartbeats 8000000 in
theorem Decode_calls {w : World} {A : Option Addr} {n c : Nat} {l : List Int} (h : Sb w A n c (utfE l)) (hn : n ≤ 100000) (hs : ∀ r ∈ l, scal r) : Calls Tryd.prog 72 #[.slice A n c] w (GivesDec l w) := by
  have HS := Aside0.mk h
  have HSC := Aside0.mk hs
  have hun : (utfE l).length = n := h.hn
  have HUN := Aside0.mk hun
  clear hs h hun
  go_enter Tryd.func72, Tryd.ntmps72
  go_wp2
  go_loopw [5, 6] (fun v5 v6 wr => ∃ i : Nat, v6 = .int .i64 ((utfE (l.take i)).length : Int) ∧ i ≤ l.length ∧ Aside0 (Kd.R (Kd.int .i32) 21 wr w.heap.size (fun _ => True) v5 (l.take i)) ∧ Aside0 (Below w.heap.size w wr)) (fun _ v6 _ => n - (intOf v6).toNat)
  case atStart => exact ⟨0, rfl, Nat.zero_le _, ⟨Kd.R_nil _ _ _ _ _⟩, ⟨Below.refl _ _⟩⟩
  case round =>
    obtain ⟨i, rfl, hi, HR, HB⟩ := hrel
    by_cases hlt : i < l.length
    · have hsx : scal (l.getD i 0) := by
        rw [List.getD_eq_getElem?_getD, List.getElem?_eq_getElem hlt]
        exact HSC.out _ (List.getElem_mem _)
      have hsp := utfE_split hlt
      have htk := utfE_take hlt
      have hpre := utfE_pre l (i + 1)
      rw [HUN.out] at hpre
      have hll : (utfE (l.take (i + 1))).length = (utfE (l.take i)).length + (encR (l.getD i 0)).length := by rw [htk, List.length_append]
      have hez := encR_siz (l.getD i 0)
      have hel := encR_len (l.getD i 0)
      obtain ⟨x, hx⟩ : ∃ x, l.getD i 0 = x := ⟨_, rfl⟩
      have HTK := Aside0.mk (show l.take (i + 1) = l.take i ++ [x] by rw [List.take_add_one, List.getElem?_eq_getElem hlt, ← hx, List.getD_eq_getElem?_getD, List.getElem?_eq_getElem hlt]; rfl)
      rw [hx] at hsx hsp hll hez hel
      obtain ⟨a, ha⟩ : ∃ a, (utfE (l.take i)).length = a := ⟨_, rfl⟩
      rw [ha] at hsp hll
      have hlen : (l.take i).length = i := by rw [List.length_take]; omega
      have han : a < n := by omega
      have hS2 := HS.out.drop (y := a) (by omega)
      rw [hsp] at hS2
      have CN := Aside0.mk (fun W (hb : Below w.heap.size w W) => next_calls (hS2.below hb) (by omega) hsx)
      have hrf := fun W => run_from (A := A) (c := c) (n := n) (y := a) (by omega) W
      obtain ⟨ls, hls⟩ : ∃ ls, l.take i = ls := ⟨_, rfl⟩
      rw [hls] at HR HTK hlen
      have HNX := Aside0.mk hll
      have HEZ := Aside0.mk hez
      have hz1 : 1 ≤ sizR x ∧ sizR x ≤ 4 := by omega
      obtain ⟨z, hz⟩ : ∃ z, sizR x = z := ⟨_, rfl⟩
      rw [hz] at CN HEZ hz1
      have hz2 := hz1.1
      have hz3 := hz1.2
      have hz4 : (z == 0) = false := by simp; omega
      have hln : l.length ≤ 200000 := by
        have h1 : ∀ m : List Int, m.length ≤ (utfE m).length := fun m => by
          induction m with
          | nil => simp [utfE]
          | cons y m ih =>
            have e1 : utfE (y :: m) = encR y ++ utfE m := by simp [utfE]
            rw [e1, List.length_append, List.length_cons]
            have := (encR_len y).1
            omega
        have := h1 l
        rw [HUN.out] at this
        omega
      have hi2 : ls.length ≤ 200000 := by omega
      clear hlen
      obtain ⟨v5, c5, rfl⟩ := Kd.R_slice HR.out
      rw [ha]
      have hlt' : (a : Int) < (n : Int) := by omega
      clear hsp htk hpre hll hez hel hS2 hz1 hz hls hsx hx ha
      go_wp2_with (first
        | (go_at_call 85; (with_reducible refine (CN.out _ HB.out).mono ?_); rintro e wz ⟨rfl, hdz⟩; have HBz := Aside0.mk (below_step HB.out hdz.below); have HRz := Aside0.mk (Kd.R_below HR.out hdz.below); clear hdz)
        | ((with_reducible refine gate_builtin (b := .append) (xs := #[.tmp 23, .tmp 25]) rfl ?_); at_builtin; refine Kd.R_append (Kd.int .i32) (w0 := w) w.heap.size rfl (.tmp 23) (.tmp 25) 31 21 (.int .i32 0) 4 rfl Tryd.underlying31 info21 rfl (by decide) (by omega) _ ls _ [.int .i32 _] (fun _ => True) (fun _ => False) rfl rfl rfl (fun _ hk => hk.elim) (fun _ _ => trivial) HRz.out HBz.out (HBz.out).size (by first | omega | (simp; omega) | (simp [maxLen]; omega)) ?_; intro v100 w100 ho hb hg hat; have HO100 := Aside0.mk ho; have HB100 := Aside0.mk hb; clear ho hb hg hat))
      go_roundw
      case measure => simp [intOf]; omega
      case rel =>
        refine ⟨i + 1, ?_, by omega, ⟨?_⟩, HB100⟩
        · rw [HNX.out]
          have := HEZ.out
          have e1 : ((a + (encR x).length : Nat) : Int) = (a : Int) + z := by omega
          rw [e1]
        · rw [HTK.out]
          exact HO100.out
    · obtain rfl : i = l.length := by omega
      rw [List.take_length, HUN.out]
      have HR2 := HR
      rw [List.take_length] at HR2
      go_wp2
      go_ret3
      exact ⟨_, rfl, HR2.out, HB.out⟩
end Go.Proofs.YtenjldfflkinkaaDoor.Sav

namespace Go.Proofs.YtenjldfflkinkaaDoor.Rop
open Go.RowKit Go.Proofs.YtenjldfflkinkaaDoor.F Go.Proofs.YtenjldfflkinkaaDoorW.PrintWords Go.Proofs.YtenjldfflkinkaaDoorW.PrintLast Go.Proofs.YtenjldfflkinkaaDoorW.PrintMore
theorem Put1.trans {a b c : World} {g : Nat} (h : Put1 a b g) (k : Put1 b c g) : Put1 a c g := ⟨Nat.le_trans h.1 k.1, fun i hi hn => (k.2 i (Nat.lt_of_lt_of_le hi h.1) hn).trans (h.2 i hi hn)⟩
theorem Put1.of_below {a b : World} {g : Nat} (h : Below a.heap.size a b) : Put1 a b g := ⟨h.size, fun i hi _ => h.block i hi⟩
theorem Put1.blk {a b : World} {g k : Nat} {o : Obj} (h : Put1 a b g) (hk : a.heap[k]? = some o) (hn : k ≠ g) : b.heap[k]? = some o := (h.2 k (Array.getElem?_eq_some_iff.1 hk).1 hn).trans hk
end Go.Proofs.YtenjldfflkinkaaDoor.Rop
namespace Go.Proofs.YtenjldfflkinkaaDoor.Sav
set_option linter.unusedVariables false
set_option linter.unusedSimpArgs false
open Go.RowKit Go.Proofs.YtenjldfflkinkaaDoor.F Go.Proofs.YtenjldfflkinkaaDoorW.PrintWords Go.Proofs.YtenjldfflkinkaaDoorW.PrintLast Go.Proofs.YtenjldfflkinkaaDoorW.PrintMore
open Go.Proofs.YtenjldfflkinkaaDoor.Rop (Sl Ch ChV CV ChAt Rc SV SP StOk rightE scl NoI noI_sl blk_noI Put1 own_sl)
set_option linter.unusedSectionVars false
variable [Coe Unit Nat]
/-- a reader lies at g: what is left to read; the bytes lie in a world of before -/
structure Rd (w0 W : World) (g : Nat) (A : Option Addr) (n c : Nat) (l : List Int) : Prop where
  blk : W.heap[g]? = some (.cells #[.slice A n c] 100 (0, 0))
  sb : Sb w0 A n c l
  hg : w0.heap.size ≤ g
  hb : Below w0.heap.size w0 W
theorem Rd.noI {w0 W : World} {g n c : Nat} {A : Option Addr} {l : List Int} (h : Rd w0 W g A n c l) : ∀ (a : Addr) (v : Value), a.block = g → W.cell? a = some v → NoI v := by
  intro a v ha hc
  refine blk_noI h.blk (fun i v h => ?_) a v ha hc
  match i with
  | 0 => simp at h; subst h; exact noI_sl _ _ _
  | i + 1 => simp at h
theorem Rd.below {w0 W W' : World} {g n c : Nat} {A : Option Addr} {l : List Int} (h : Rd w0 W g A n c l) (hb : Below W.heap.size W W') : Rd w0 W' g A n c l := ⟨blk_below h.blk hb, h.sb, h.hg, below_step h.hb hb⟩
set_option maxRecDepth 100000 in
set_option maxHeartbeats 4000000 in
theorem take_calls {w0 w : World} {g n c k : Nat} {A : Option Addr} {l : List Int} (h : Rd w0 w g A n c l) (hk : k ≤ n) (hn : n ≤ 1000000) : Calls Tryd.prog 71 #[.pointer (some ⟨g, 0, none⟩), .int .i64 (k : Int)] w fun e w' => e = .returned (.slice A k c) ∧ w' = w.setCell ⟨g, 0, none⟩ (.slice (restA A c k) (n - k) (c - k)) := by
  have hrt := fun W => run_to (A := A) (c := c) (n := n) (x := k) hk h.sb.hc W
  have hrf := fun W => run_from (A := A) (c := c) (n := n) (y := k) hk W
  have c0 : _ = some (Value.slice A n c) := blk_cell h.blk 0
  have f0 := blk_frozen h.blk 0
  have hx : ((n : Int) < (k : Int)) = False := eq_false (by omega)
  obtain ⟨A7, hA7⟩ : ∃ x, restA A c k = x := ⟨_, rfl⟩
  rw [hA7]
  simp only [hA7] at hrf
  clear h hA7
  go_enter Tryd.func71, Tryd.ntmps71
  go_wp2
  go_ret
  exact ⟨rfl, rfl⟩
theorem Rd.taken {w0 w : World} {g n c k : Nat} {A : Option Addr} {l : List Int} (h : Rd w0 w g A n c l) (hk : k ≤ n) : Rd w0 (w.setCell ⟨g, 0, none⟩ (.slice (restA A c k) (n - k) (c - k))) g (restA A c k) (n - k) (c - k) (l.drop k) :=
  ⟨set_blk h.blk, h.sb.drop hk, h.hg, h.hb.setCell h.hg _⟩
/-- bytes are read off the reader -/
theorem taking {w0 w : World} {g n c k : Nat} {A : Option Addr} {l : List Int} (h : Rd w0 w g A n c l) {kk : Int} (hkk : kk = (k : Int)) (hk : k ≤ n) (hn : n ≤ 1000000) : Calls Tryd.prog 71 #[.pointer (some ⟨g, 0, none⟩), .int .i64 kk] w fun e w' => e = .returned (.slice A k c) ∧ Sb w' A k c (l.take k) ∧ (∃ A' c', Rd w0 w' g A' (n - k) c' (l.drop k)) ∧ Put1 w w' g := by
  subst hkk
  refine (take_calls h hk hn).mono ?_
  rintro e w' ⟨rfl, rfl⟩
  have h2 := h.taken hk
  exact ⟨rfl, (h.sb.take hk).below h2.hb, ⟨_, _, h2⟩, Put1.one w g 0 _⟩
set_option maxRecDepth 100000 in
set_option maxHeartbeats 4000000 in
theorem number_rd {w0 w : World} {g n c : Nat} {A : Option Addr} {x : Int} {l rest : List Int} (h : Rd w0 w g A n c l) (hl : l = big4 x ++ rest) (hx : 0 ≤ x ∧ x ≤ 2147483647) (hn : n ≤ 1000000) : Calls Tryd.prog 42 #[.pointer (some ⟨g, 0, none⟩)] w fun e w' => e = .returned (.int .i64 x) ∧ (∃ A' c', Rd w0 w' g A' (n - 4) c' rest) ∧ Put1 w w' g := by
  have hln : 4 ≤ n := by
    have := h.sb.hn
    rw [hl, List.length_append] at this
    have e4 : (big4 x).length = 4 := rfl
    omega
  have CT := Aside0.mk (taking (k := 4) h (kk := 4) rfl hln hn)
  have hdr : l.drop 4 = rest := by rw [hl]; rfl
  have htk : l.take 4 = [x / 16777216 % 256, x / 65536 % 256, x / 256 % 256, x % 256] := by rw [hl]; rfl
  rw [hdr, htk] at CT
  have hx0 := hx.1
  have hx1 := hx.2
  obtain ⟨b0, hb0⟩ : ∃ b, x / 16777216 % 256 = b := ⟨_, rfl⟩
  obtain ⟨b1, hb1⟩ : ∃ b, x / 65536 % 256 = b := ⟨_, rfl⟩
  obtain ⟨b2, hb2⟩ : ∃ b, x / 256 % 256 = b := ⟨_, rfl⟩
  obtain ⟨b3, hb3⟩ : ∃ b, x % 256 = b := ⟨_, rfl⟩
  rw [hb0, hb1, hb2, hb3] at CT
  have f1 : Go.bits .or .i64 (b0 * 16777216) (b1 * 65536) = b0 * 16777216 + b1 * 65536 := or_add 24 (by omega) (by omega) (by omega) (by omega) (by omega) (by omega)
  have f2 : Go.bits .or .i64 (b0 * 16777216 + b1 * 65536) (b2 * 256) = b0 * 16777216 + b1 * 65536 + b2 * 256 := or_add 16 (by omega) (by omega) (by omega) (by omega) (by omega) (by omega)
  have f3 : Go.bits .or .i64 (b0 * 16777216 + b1 * 65536 + b2 * 256) b3 = x := by
    rw [or_add 8 (by omega) (by omega) (by omega) (by omega) (by omega) (by omega)]
    omega
  have g0 : 0 ≤ b0 := by omega
  have g1 : 0 ≤ b1 := by omega
  have g2 : 0 ≤ b2 := by omega
  have g3 : 0 ≤ b3 := by omega
  have k0 : b0 < 256 := by omega
  have k1 : b1 < 256 := by omega
  have k2 : b2 < 256 := by omega
  have k3 : b3 < 256 := by omega
  have hxm : (2147483647 < x) = False := eq_false (by omega)
  obtain ⟨y1, hy1⟩ : ∃ y, b0 * 16777216 + b1 * 65536 = y := ⟨_, rfl⟩
  rw [hy1] at f1 f2 f3
  obtain ⟨y2, hy2⟩ : ∃ y, y1 + b2 * 256 = y := ⟨_, rfl⟩
  rw [hy2] at f2 f3
  clear h hl hdr htk hb0 hb1 hb2 hb3 hx hy1 hy2
  go_enter Tryd.func42, Tryd.ntmps42
  go_upto_region 2 with (go_at_call 71; (with_reducible refine CT.out.mono ?_); rintro e w1 ⟨rfl, hS1, hR1, hP1⟩; have HS1 := Aside0.mk hS1; have HR1 := Aside0.mk hR1; have HP1 := Aside0.mk hP1; clear hS1 hR1 hP1)
  obtain ⟨ad, rfl, x0⟩ := byte_read HS1.out.hC HS1.out.hn 0 (by omega)
  obtain ⟨ad1, e1, x1⟩ := byte_read HS1.out.hC HS1.out.hn 1 (by omega)
  obtain rfl : ad = ad1 := by injection e1
  obtain ⟨ad2, e2, x2⟩ := byte_read HS1.out.hC HS1.out.hn 2 (by omega)
  obtain rfl : ad = ad2 := by injection e2
  obtain ⟨ad3, e3, x3⟩ := byte_read HS1.out.hC HS1.out.hn 3 (by omega)
  obtain rfl : ad = ad3 := by injection e3
  have z0 : w1.cell? ad = some (.int .u8 b0) := x0
  have z1 : w1.cell? ⟨ad.block, ad.off + 1, none⟩ = some (.int .u8 b1) := x1
  have z2 : w1.cell? ⟨ad.block, ad.off + 2, none⟩ = some (.int .u8 b2) := x2
  have z3 : w1.cell? ⟨ad.block, ad.off + 3, none⟩ = some (.int .u8 b3) := x3
  clear x0 x1 x2 x3 e1 e2 e3
  repeat (go_quiet (fail); try go_wp2)
  go_ret
  obtain ⟨A', c', hR⟩ := HR1.out
  exact ⟨rfl, ⟨A', c', hR.below (pw_below_drewN (Below.refl _ _) _)⟩, HP1.out.trans (Put1.of_below (pw_below_drewN (Below.refl _ _) _))⟩
set_option maxRecDepth 100000 in
set_option maxHeartbeats 4000000 in
theorem text_rd {w0 w : World} {g n c : Nat} {A : Option Addr} {l t rest : List Int} (h : Rd w0 w g A n c l) (hl : l = utfE t ++ rest) (hs : ∀ r ∈ t, scal r) (hn : n ≤ 1000000) (ht : t.length ≤ 20000) {kk : Int} (hkk : kk = ((utfE t).length : Int)) : Calls Tryd.prog 43 #[.pointer (some ⟨g, 0, none⟩), .int .i64 kk] w fun e w' => ∃ v : Value, e = .returned v ∧ (∃ b, w.heap.size ≤ b ∧ Kd.R (Kd.int .i32) 21 w' b (fun _ => True) v t) ∧ (∃ A' c', Rd w0 w' g A' (n - (utfE t).length) c' rest) ∧ Put1 w w' g := by
  have hul := utfE_len t
  have hln : (utfE t).length ≤ n := by
    have := h.sb.hn
    rw [hl, List.length_append] at this
    omega
  have CT := Aside0.mk (taking h hkk hln hn)
  have hdr : l.drop (utfE t).length = rest := by rw [hl, List.drop_append_of_le_length (Nat.le_refl _), List.drop_of_length_le (Nat.le_refl _), List.nil_append]
  have htk : l.take (utfE t).length = utfE t := by rw [hl, List.take_append_of_le_length (Nat.le_refl _), List.take_of_length_le (Nat.le_refl _)]
  rw [hdr, htk] at CT
  obtain ⟨k, hk⟩ : ∃ k, (utfE t).length = k := ⟨_, rfl⟩
  rw [hk] at CT hul ⊢
  have HSC := Aside0.mk hs
  have CD := Aside0.mk (fun W (hS : Sb W A k c (utfE t)) => Decode_calls hS (by omega) HSC.out)
  clear h hl hdr htk hkk hk hs hln
  go_enter Tryd.func43, Tryd.ntmps43
  go_wp2_with (first
    | (go_at_call 71; (with_reducible refine CT.out.mono ?_); rintro e w1 ⟨rfl, hS1, hR1, hP1⟩; have CD1 := Aside0.mk (CD.out _ hS1); have HR1 := Aside0.mk hR1; have HP1 := Aside0.mk hP1; clear hS1 hR1 hP1)
    | (go_at_call 72; (with_reducible refine CD1.out.mono ?_); rintro e w2 ⟨v2, rfl, hK2, hB2⟩; have HK2 := Aside0.mk hK2; have HB2 := Aside0.mk hB2; clear hK2 hB2))
  go_ret
  obtain ⟨A', c', hR⟩ := HR1.out
  exact ⟨v2, rfl, ⟨_, HP1.out.1, HK2.out⟩, ⟨A', c', hR.below HB2.out⟩, HP1.out.trans (Put1.of_below HB2.out)⟩
set_option maxRecDepth 100000 in
set_option maxHeartbeats 4000000 in
theorem end_rd {w0 w : World} {g c : Nat} {A : Option Addr} {l : List Int} (h : Rd w0 w g A 0 c l) : Calls Tryd.prog 45 #[.pointer (some ⟨g, 0, none⟩)] w fun e w' => e = .returned (.tuple #[]) ∧ w' = w := by
  have c0 : _ = some (Value.slice A 0 c) := blk_cell h.blk 0
  clear h
  go_enter Tryd.func45, Tryd.ntmps45
  go_wp2
  go_end0
  exact ⟨rfl, rfl⟩
end Go.Proofs.YtenjldfflkinkaaDoor.Sav

namespace Go.Proofs.YtenjldfflkinkaaDoor.Sav
set_option linter.unusedVariables false
set_option linter.unusedSimpArgs false
open Go.RowKit Go.Proofs.YtenjldfflkinkaaDoor.F Go.Proofs.YtenjldfflkinkaaDoorW.PrintWords Go.Proofs.YtenjldfflkinkaaDoorW.PrintLast Go.Proofs.YtenjldfflkinkaaDoorW.PrintMore
open Go.Proofs.YtenjldfflkinkaaDoor.Rop (Sl Ch ChV CV ChAt Rc Ro SV SP StOk rightE scl NoI noI_sl noI_64 blk_noI Put1 own_sl rg_append upd upd_same upd_ne But)
set_option linter.unusedSectionVars false
variable [Coe Unit Nat]
/-- a reader with this left -/
def RdE (w0 W : World) (g : Nat) (l : List Int) : Prop := ∃ A n c, n ≤ 1000000 ∧ Rd w0 W g A n c l
theorem RdE.below {w0 W W' : World} {g : Nat} {l : List Int} (h : RdE w0 W g l) (hb : Below W.heap.size W W') : RdE w0 W' g l := by
  obtain ⟨A, n, c, hn, h⟩ := h
  exact ⟨A, n, c, hn, h.below hb⟩
theorem RdE.noI {w0 W : World} {g : Nat} {l : List Int} (h : RdE w0 W g l) : ∀ (a : Addr) (v : Value), a.block = g → W.cell? a = some v → NoI v := by
  obtain ⟨A, n, c, hn, h⟩ := h
  exact h.noI
theorem RdE.lt {w0 W : World} {g : Nat} {l : List Int} (h : RdE w0 W g l) : g < W.heap.size := by
  obtain ⟨A, n, c, hn, h⟩ := h
  exact blk_lt h.blk
/-- the reader stays where another new block turns -/
theorem RdE.far {w0 W : World} {g o i : Nat} {l : List Int} (h : RdE w0 W g l) (hne : g ≠ o) (ho : w0.heap.size ≤ o) (u : Value) : RdE w0 (W.setCell ⟨o, i, none⟩ u) g l := by
  obtain ⟨A, n, c, hn, h⟩ := h
  exact ⟨A, n, c, hn, (Below.heap_setCell W ⟨o, i, none⟩ u g hne).trans h.blk, h.sb, h.hg, h.hb.setCell ho _⟩
theorem number_e {w0 w : World} {g : Nat} {x : Int} {rest : List Int} (h : RdE w0 w g (big4 x ++ rest)) (hx : 0 ≤ x ∧ x ≤ 2147483647) : Calls Tryd.prog 42 #[.pointer (some ⟨g, 0, none⟩)] w fun e w' => e = .returned (.int .i64 x) ∧ RdE w0 w' g rest ∧ Put1 w w' g := by
  obtain ⟨A, n, c, hn, h⟩ := h
  refine (number_rd h rfl hx hn).mono ?_
  rintro e w' ⟨he, ⟨A', c', h1⟩, h2⟩
  exact ⟨he, ⟨A', _, c', by omega, h1⟩, h2⟩
theorem text_e {w0 w : World} {g : Nat} {t rest : List Int} (h : RdE w0 w g (utfE t ++ rest)) (hs : ∀ r ∈ t, scal r) (ht : t.length ≤ 20000) {kk : Int} (hkk : kk = ((utfE t).length : Int)) : Calls Tryd.prog 43 #[.pointer (some ⟨g, 0, none⟩), .int .i64 kk] w fun e w' => ∃ B m d, e = .returned (.slice B m d) ∧ Sl w' B m d t ∧ RdE w0 w' g rest ∧ Put1 w w' g := by
  obtain ⟨A, n, c, hn, h⟩ := h
  refine (text_rd h rfl hs hn ht hkk).mono ?_
  rintro e w' ⟨v, rfl, ⟨b, hb, h3⟩, ⟨A', c', h1⟩, h2⟩
  obtain ⟨B, m, d, rfl, h4⟩ := own_sl (l := t) h3
  exact ⟨B, m, d, rfl, h4, ⟨A', _, c', by omega, h1⟩, h2⟩
theorem end_e {w0 w : World} {g : Nat} (h : RdE w0 w g []) : Calls Tryd.prog 45 #[.pointer (some ⟨g, 0, none⟩)] w fun e w' => e = .returned (.tuple #[]) ∧ w' = w := by
  obtain ⟨A, n, c, hn, h⟩ := h
  obtain rfl : n = 0 := h.sb.hn.symm
  exact end_rd h
theorem RdE.blk {w0 W : World} {g : Nat} {l : List Int} (h : RdE w0 W g l) : ∃ A n c, W.heap[g]? = some (.cells #[.slice A n c] 100 (0, 0)) := by
  obtain ⟨A, n, c, hn, h⟩ := h
  exact ⟨A, n, c, h.blk⟩
/-- a row of changes does not lie in the reader's block -/
theorem RdE.rows {w0 W : World} {g n cap : Nat} {l : List Int} {A : Option Addr} {vs : List Value} (h : RdE w0 W g l) (hR : Go.Proofs.YtenjldfflkinkaaDoor.Rop.Rg W A 68 3 vs n cap) : ∀ ad, A = some ad → ad.block ≠ g := by
  intro ad hA e
  obtain ⟨A', n', c', h⟩ := h.blk
  rcases hR with ⟨h1, _⟩ | ⟨g2, cu, h1, h2, _⟩
  · rw [h1] at hA; cases hA
  · rw [h1] at hA
    injection hA with hA
    subst hA
    dsimp only at e
    subst e
    rw [h2] at h
    injection h with h
    injection h with _ h5
    exact absurd h5 (by decide)
theorem put_far {w W : World} {g o i : Nat} (h : Put1 w W g) (ho : w.heap.size ≤ o) (u : Value) : Put1 w (W.setCell ⟨o, i, none⟩ u) g := ⟨by have := h.1; simpa [World.setCell] using this, fun k hk hn => (Below.heap_setCell W ⟨o, i, none⟩ u k (Nat.ne_of_lt (Nat.lt_of_lt_of_le hk ho))).trans (h.2 k hk hn)⟩
theorem put_but {w W W1 : World} {g : Nat} {A : Option Addr} (h : Put1 w W g) (hb : But W W1 A) (hA : ∀ ad, A = some ad → w.heap.size ≤ ad.block) : Put1 w W1 g :=
  ⟨Nat.le_trans h.1 hb.1, fun k hk hn => (hb.2.1 k (Nat.lt_of_lt_of_le hk h.1) (fun e => by
    obtain ⟨ad, h1, h2⟩ := Option.map_eq_some_iff.1 e.symm
    have := hA ad h1
    omega)).trans (h.2 k hk hn)⟩
theorem RdE.but {w0 W W1 : World} {g : Nat} {l : List Int} {A : Option Addr} (h : RdE w0 W g l) (hb : But W W1 A) (hA : ∀ ad, A = some ad → w0.heap.size ≤ ad.block) (hg : ∀ ad, A = some ad → ad.block ≠ g) : RdE w0 W1 g l := by
  obtain ⟨A1, n, c, hn, h⟩ := h
  refine ⟨A1, n, c, hn, (hb.2.1 g (blk_lt h.blk) (fun e => ?_)).trans h.blk, h.sb, h.hg, hb.2.2 _ w0 hA h.hb.size h.hb⟩
  obtain ⟨ad, h1, h2⟩ := Option.map_eq_some_iff.1 e.symm
  exact hg ad h1 h2
theorem noI_ch3 {p : Int} {A B : Option Addr} {n c m d : Nat} : ∀ (i : Nat) (v : Value), (#[.int .i64 p, .slice A n c, .slice B m d] : Array Value)[i]? = some v → NoI v := fun i v h => by
  match i with
  | 0 => simp at h; subst h; exact noI_64 _
  | 1 => simp at h; subst h; exact noI_sl _ _ _
  | 2 => simp at h; subst h; exact noI_sl _ _ _
  | i + 3 => simp at h
/-- the bytes of so many changes, from one on -/
def tlB (xs : Nat → Ch) : Nat → Nat → List Int
  | _, 0 => []
  | i, d + 1 => chB (xs i) ++ tlB xs (i + 1) d
theorem chsL_tl (xs : Nat → Ch) : ∀ d i, chsL xs (i + d) = chsL xs i ++ tlB xs i d
  | 0, i => by simp [tlB]
  | d + 1, i => by
    have h1 := chsL_tl xs d (i + 1)
    rw [show i + (d + 1) = i + 1 + d by omega, h1]
    show (chsL xs i ++ chB (xs i)) ++ tlB xs (i + 1) d = chsL xs i ++ (chB (xs i) ++ tlB xs (i + 1) d)
    rw [List.append_assoc]
theorem chsB_tl (xs : Nat → Ch) (k : Nat) : chsB k xs = (k : Int) :: tlB xs 0 k := by
  have h := chsL_tl xs k 0
  rw [Nat.zero_add] at h
  unfold chsB
  rw [h]
  rfl
/-- what a change must be to be read -/
structure ChR (x : Ch) : Prop where
  p : 0 ≤ x.at_ ∧ x.at_ ≤ 2147483647
  g : ∀ r ∈ x.gone, scal r
  k : ∀ r ∈ x.came, scal r
  gn : x.gone.length ≤ 5000
  kn : x.came.length ≤ 5000
theorem utf_fit {t : List Int} (h : t.length ≤ 5000) : 0 ≤ ((utfE t).length : Int) ∧ ((utfE t).length : Int) ≤ 2147483647 := by
  have := utfE_len t
  omega
set_option maxRecDepth 100000 in
set_option maxHeartbeats 8000000 in
theorem changes_rd {w0 w : World} {g k : Nat} {xs : Nat → Ch} {rest : List Int} (h : RdE w0 w g (chsB k xs ++ rest)) (hk : k ≤ 100) (hx : ∀ i, i < k → ChR (xs i)) (hw : w0.heap.size ≤ w.heap.size) : Calls Tryd.prog 44 #[.pointer (some ⟨g, 0, none⟩)] w fun e w' => ∃ A1 c1 vs, e = .returned (.slice A1 k c1) ∧ Ro w' w.heap.size A1 k c1 vs xs ∧ RdE w0 w' g rest ∧ Put1 w w' g := by
  have hgw := h.lt
  obtain ⟨A, n, c, hn, h⟩ := h
  rw [chsB_tl] at h
  have hn1 : 1 ≤ n := by
    have := h.sb.hn
    simp at this
    omega
  have CT := Aside0.mk (taking (k := 1) h (kk := 1) rfl hn1 hn)
  have HX := Aside0.mk hx
  have HN := Aside0.mk hn
  clear h hx hn hn1
  go_enter Tryd.func44, Tryd.ntmps44
  go_wp2_with (go_at_call 71; (with_reducible refine CT.out.mono ?_); rintro e w1 ⟨rfl, hS1, ⟨A1, c1, hR1⟩, hP1⟩; obtain ⟨ad, rfl, x0⟩ := byte_read hS1.hC hS1.hn 0 (by decide); have z0 : w1.cell? ad = some (.int .u8 (k : Int)) := x0; have HR1 : Aside0 (RdE w0 w1 g (tlB xs 0 k ++ rest)) := ⟨⟨_, _, _, Nat.le_trans (Nat.sub_le _ _) HN.out, hR1⟩⟩; have HP1 := Aside0.mk hP1; clear hS1 hR1 hP1 x0)
  go_loopw [3, 9] (fun v3 v9 wr => ∃ (i : Nat) (A' : Option Addr) (c' : Nat) (vs' : Nat → CV), v3 = .slice A' i c' ∧ v9 = .int .u8 (i : Int) ∧ i ≤ k ∧ Aside0 (Ro wr w.heap.size A' i c' vs' xs) ∧ Aside0 (RdE w0 wr g (tlB xs i (k - i) ++ rest)) ∧ Aside0 (Put1 w wr g)) (fun _ v9 _ => k - (intOf v9).toNat)
  case atStart => exact ⟨0, none, 0, fun _ => ⟨0, none, 0, 0, none, 0, 0⟩, rfl, rfl, Nat.zero_le _, ⟨Ro.empty _ _ _ _⟩, HR1, HP1⟩
  case round =>
    obtain ⟨i, A', c', vs', rfl, rfl, hi, HO, HR, HP⟩ := hrel
    by_cases hlt : i < k
    · have hlt' : (i : Int) < (k : Int) := by omega
      have HXI := Aside0.mk (HX.out i hlt)
      obtain ⟨d, hd⟩ : ∃ d, k - i = d + 1 := ⟨k - i - 1, by omega⟩
      have hd2 : k - (i + 1) = d := by omega
      have HRT : Aside0 (RdE w0 wr g (big4 (xs i).at_ ++ (big4 ((utfE (xs i).gone).length : Int) ++ (utfE (xs i).gone ++ (big4 ((utfE (xs i).came).length : Int) ++ (utfE (xs i).came ++ (tlB xs (i + 1) d ++ rest))))))) := ⟨by
        have := HR.out
        rw [hd] at this
        unfold tlB chB pieceB at this
        simpa only [List.append_assoc] using this⟩
      obtain ⟨x, hxx⟩ : ∃ x, xs i = x := ⟨_, rfl⟩
      rw [hxx] at HXI HRT
      have HXX := Aside0.mk hxx
      have CN1 := Aside0.mk (number_e HRT.out HXI.out.p)
      have hi3 : (i : Int) < 256 := by omega
      have hik : (k : Int) < 256 := by omega
      clear hd hxx
      go_upto_region 5 with (go_at_call 42; (with_reducible refine CN1.out.mono ?_); rintro e w2 ⟨rfl, hR2, hP2⟩; have HR2 := Aside0.mk hR2; have HP2 := Aside0.mk hP2; clear hR2 hP2)
      have HO2 := Aside0.mk (HO.out.put HP2.out HRT.out.noI (HRT.out.rows HO.out.row))
      have HPP2 := Aside0.mk (HP.out.trans HP2.out)
      have hb3 : Below w2.heap.size w2 (w2.alloc (.cells #[.int .i64 x.at_, .slice none 0 0, .slice none 0 0] 68)) := below_alloc (Below.refl _ _) _
      have K3 : Aside0 ((w2.alloc (.cells #[.int .i64 x.at_, .slice none 0 0, .slice none 0 0] 68)).heap[w2.heap.size]? = some (.cells #[.int .i64 x.at_, .slice none 0 0, .slice none 0 0] 68 (0, 0))) := ⟨World.alloc_heap_new _ _⟩
      have HO3 := Aside0.mk (HO2.out.below hb3)
      have HR3 := Aside0.mk (HR2.out.below hb3)
      have HP3 := Aside0.mk (HPP2.out.trans (Put1.of_below hb3))
      have HNE := Aside0.mk (fun ad (e : A' = some ad) => Nat.ne_of_lt (HO2.out.row.lt e))
      have HG := Aside0.mk (Nat.ne_of_lt HR2.out.lt)
      have HWH := Aside0.mk HPP2.out.1
      generalize w2.alloc (.cells #[.int .i64 x.at_, .slice none 0 0, .slice none 0 0] 68) = W3 at K3 HO3 HR3 HP3 ⊢
      clear hb3
      obtain ⟨h, hh⟩ : ∃ h, w2.heap.size = h := ⟨_, rfl⟩
      rw [hh] at K3 HNE HG HWH ⊢
      clear hh
      go_upto_region 6 with (first
        | (go_at_call 42; (with_reducible refine (number_e HR3.out (utf_fit HXI.out.gn)).mono ?_); rintro e w4 ⟨rfl, hR4, hP4⟩; have HR4 := Aside0.mk hR4; have HP4 := Aside0.mk hP4; clear hR4 hP4)
        | (go_at_call 43; (with_reducible refine (text_e HR4.out HXI.out.g (by have := HXI.out.gn; omega) rfl).mono ?_); rintro e w5 ⟨B5, m5, d5, rfl, hS5, hR5, hP5⟩; have HR5 := Aside0.mk hR5; have HS5 := Aside0.mk hS5; have HP5 := Aside0.mk hP5; have K5 := Aside0.mk (HP5.out.blk (HP4.out.blk K3.out (Ne.symm HG.out)) (Ne.symm HG.out)); have q5 : w5.cell? ⟨h, 1, none⟩ = some (.slice none 0 0) := blk_cell K5.out 1; have f5 : w5.frozen? ⟨h, 1, none⟩ = false := blk_frozen K5.out 1; clear hR5 hS5 hP5))
      have HO4 := Aside0.mk (HO3.out.put HP4.out HR3.out.noI (HR3.out.rows HO3.out.row))
      have HO5 := Aside0.mk (HO4.out.put HP5.out HR4.out.noI (HR4.out.rows HO4.out.row))
      have HPP5 := Aside0.mk ((HP3.out.trans HP4.out).trans HP5.out)
      have K6 := Aside0.mk (set_blk (i := 1) (u := .slice B5 m5 d5) K5.out)
      have HO6 := Aside0.mk (HO5.out.put (Put1.one w5 h 1 (.slice B5 m5 d5)) (blk_noI K5.out noI_ch3) HNE.out)
      have HS6 := Aside0.mk (HS5.out.only (blk_noI K5.out noI_ch3) (Put1.one w5 h 1 (.slice B5 m5 d5)).2)
      have HR6 := Aside0.mk (HR5.out.far (o := h) (i := 1) HG.out (Nat.le_trans hw HWH.out) (.slice B5 m5 d5))
      have HP6 := Aside0.mk (put_far (o := h) (i := 1) HPP5.out HWH.out (.slice B5 m5 d5))
      have K6' : Aside0 ((w5.setCell ⟨h, 1, none⟩ (.slice B5 m5 d5)).heap[h]? = some (.cells #[.int .i64 x.at_, .slice B5 m5 d5, .slice none 0 0] 68 (0, 0))) := ⟨K6.out⟩
      generalize w5.setCell ⟨h, 1, none⟩ (.slice B5 m5 d5) = W6 at K6' HO6 HS6 HR6 HP6 ⊢
      clear q5 f5 K6
      go_upto_region 7 with (first
        | (go_at_call 42; (with_reducible refine (number_e HR6.out (utf_fit HXI.out.kn)).mono ?_); rintro e w7 ⟨rfl, hR7, hP7⟩; have HR7 := Aside0.mk hR7; have HP7 := Aside0.mk hP7; clear hR7 hP7)
        | (go_at_call 43; (with_reducible refine (text_e HR7.out HXI.out.k (by have := HXI.out.kn; omega) rfl).mono ?_); rintro e w8 ⟨B8, m8, d8, rfl, hS8, hR8, hP8⟩; have HR8 := Aside0.mk hR8; have HS8 := Aside0.mk hS8; have HP8 := Aside0.mk hP8; have K8 := Aside0.mk (HP8.out.blk (HP7.out.blk K6'.out (Ne.symm HG.out)) (Ne.symm HG.out)); have q8 : w8.cell? ⟨h, 2, none⟩ = some (.slice none 0 0) := blk_cell K8.out 2; have f8 : w8.frozen? ⟨h, 2, none⟩ = false := blk_frozen K8.out 2; clear hR8 hS8 hP8))
      have HO7 := Aside0.mk (HO6.out.put HP7.out HR6.out.noI (HR6.out.rows HO6.out.row))
      have HO8 := Aside0.mk (HO7.out.put HP8.out HR7.out.noI (HR7.out.rows HO7.out.row))
      have HG7 := Aside0.mk (HS6.out.only HR6.out.noI HP7.out.2)
      have HG8 := Aside0.mk (HG7.out.only HR7.out.noI HP8.out.2)
      have HPP8 := Aside0.mk ((HP6.out.trans HP7.out).trans HP8.out)
      have HO9 := Aside0.mk (HO8.out.put (Put1.one w8 h 2 (.slice B8 m8 d8)) (blk_noI K8.out noI_ch3) HNE.out)
      have HG9 := Aside0.mk (HG8.out.only (blk_noI K8.out noI_ch3) (Put1.one w8 h 2 (.slice B8 m8 d8)).2)
      have HS9 := Aside0.mk (HS8.out.only (blk_noI K8.out noI_ch3) (Put1.one w8 h 2 (.slice B8 m8 d8)).2)
      have HR9 := Aside0.mk (HR8.out.far (o := h) (i := 2) HG.out (Nat.le_trans hw HWH.out) (.slice B8 m8 d8))
      have HP9 := Aside0.mk (put_far (o := h) (i := 2) HPP8.out HWH.out (.slice B8 m8 d8))
      have K9 : Aside0 ((w8.setCell ⟨h, 2, none⟩ (.slice B8 m8 d8)).heap[h]? = some (.cells #[.int .i64 x.at_, .slice B5 m5 d5, .slice B8 m8 d8] 68 (0, 0))) := ⟨set_blk (i := 2) (u := .slice B8 m8 d8) K8.out⟩
      generalize w8.setCell ⟨h, 2, none⟩ (.slice B8 m8 d8) = W9 at K9 HO9 HG9 HS9 HR9 HP9 ⊢
      clear q8 f8
      have c0 : W9.cell? ⟨h, 0, none⟩ = some (.int .i64 x.at_) := blk_cell K9.out 0
      have c1 : W9.cell? ⟨h, 1, none⟩ = some (.slice B5 m5 d5) := blk_cell K9.out 1
      have c2 : W9.cell? ⟨h, 2, none⟩ = some (.slice B8 m8 d8) := blk_cell K9.out 2
      have hi1000 : i ≤ 1000 := by omega
      go_wp2_with ((with_reducible refine gate_dst (N := 27) rfl ?_); at_builtin; refine rg_append (W := W9) rfl (.tmp 24) (.tmp 26) rfl rfl rfl HO9.out.row hi1000 ⟨x.at_, B5, m5, d5, B8, m8, d8⟩ ?_; intro A10 c10 w10 hR hA hBt; have O10 := Aside0.mk (HO9.out.more ⟨x.at_, B5, m5, d5, B8, m8, d8⟩ ⟨rfl, HG9.out, HS9.out⟩ (by have h1 := HG9.out.hn; have h2 := HS9.out.hn; have h3 := HXI.out.gn; have h4 := HXI.out.kn; dsimp only; omega) HP9.out.1 hR hA hBt); have HR10 := Aside0.mk (HR9.out.but hBt (fun ad e => Nat.le_trans hw (HO9.out.hb ad e)) (HR9.out.rows HO9.out.row)); have HP10 := Aside0.mk (put_but HP9.out hBt (fun ad e => HO9.out.hb ad e)); clear hR hA hBt)
      go_roundw
      case measure => simp [intOf]; omega
      case rel =>
        refine ⟨i + 1, A10, c10, _, rfl, by go_num, by omega, ⟨O10.out.congr (fun j hj => ?_)⟩, ⟨by rw [hd2]; exact HR10.out⟩, HP10⟩
        by_cases e : j = i
        · subst e; rw [upd_same]; exact HXX.out.symm
        · rw [upd_ne e]
    · obtain rfl : i = k := by omega
      have HRT : Aside0 (RdE w0 wr g rest) := ⟨by
        have := HR.out
        rw [Nat.sub_self] at this
        exact this⟩
      go_wp2
      go_ret
      exact ⟨A', c', vs', rfl, HO.out, HRT.out, HP.out⟩
end Go.Proofs.YtenjldfflkinkaaDoor.Sav

namespace Go.Proofs.YtenjldfflkinkaaDoor.Sav
set_option linter.unusedVariables false
set_option linter.unusedSimpArgs false
open Go.RowKit Go.Proofs.YtenjldfflkinkaaDoor.F Go.Proofs.YtenjldfflkinkaaDoorW.PrintWords Go.Proofs.YtenjldfflkinkaaDoorW.PrintLast Go.Proofs.YtenjldfflkinkaaDoorW.PrintMore
/-- a slot's chunks on a disk -/
def chunksOf (L : List (List Int)) (k n : Nat) : List (List Int) := (List.range n).map fun i => L.getD (61 * k + 1 + i) []
def headE (L : List (List Int)) (k : Nat) : Int := num4 (L.getD (61 * k) [])
def headS (L : List (List Int)) (k : Nat) : Int := num4 ((L.getD (61 * k) []).drop 9)
/-- a slot stands -/
def Stands (L : List (List Int)) (k : Nat) : Prop :=
  1 ≤ headE L k ∧ headE L k ≤ 2147483647 ∧ headS L k ≤ 3240 ∧ L.getD (61 * k) [] = headB (k : Int) (headE L k) (headS L k) ∧ JoinOk (chunksOf L k (((headS L k).toNat + 53) / 54)) (headE L k) (headS L k).toNat
theorem kB_61 : ∀ q, q ∈ 5 :: (Kd.int .u8).E → q ≠ 61 := by
  intro q hq
  have : (Kd.int .u8).E = [] := rfl
  rw [this] at hq
  simp at hq
  omega
theorem chunks_len (L : List (List Int)) (k n : Nat) : (chunksOf L k n).length = n := by simp [chunksOf]
theorem chunks_succ (L : List (List Int)) (k n : Nat) : chunksOf L k (n + 1) = chunksOf L k n ++ [L.getD (61 * k + 1 + n) []] := by
  unfold chunksOf
  rw [List.range_succ, List.map_append]
  rfl
open Classical in
/-- what is read of a slot -/
noncomputable def readP (L : List (List Int)) (k : Nat) : Slt :=
  if Stands L k then ⟨true, headE L k, joinL (chunksOf L k (((headS L k).toNat + 53) / 54)) (headS L k).toNat (((headS L k).toNat + 53) / 54)⟩ else ⟨false, 0, []⟩
def GivesSlt (x : Slt) (w : World) (en : Ending) (w' : World) : Prop := ∃ v : Value, en = .returned (.tuple #[.agg #[.bool x.s, .int .i64 x.e, v], .int .i64 0]) ∧ Kd.R (Kd.int .u8) 5 w' w.heap.size (fun _ => True) v x.b ∧ Below w.heap.size w w'
def GivesNo (w : World) (en : Ending) (w' : World) : Prop := en = .returned (.tuple #[.agg #[.bool false, .int .i64 0, .slice none 0 0], .int .i64 0]) ∧ Below w.heap.size w w'
theorem GivesNo.to {L : List (List Int)} {k : Nat} {w : World} (hn : ¬ Stands L k) : ∀ e w', GivesNo w e w' → GivesSlt (readP L k) w e w' := by
  rintro e w' ⟨rfl, hb⟩
  unfold readP
  rw [if_neg hn]
  exact ⟨_, rfl, Kd.R_nil _ _ _ _ _, hb⟩
theorem u61 : ∃ fs, Tryd.prog.underlying 61 = some (.struct fs) := by
  have h : (Tryd.prog.underlying 61).map (fun d => match d with | .struct _ => true | _ => false) = some true := by kernel_rfl
  obtain ⟨d, h1, h2⟩ := Option.map_eq_some_iff.1 h
  cases d with
  | struct fs => exact ⟨fs, h1⟩
  | _ => simp at h2
theorem str_beq {a b : List Int} (ha : By a) (hb : By b) : ((strOfNums a).toList == (strOfNums b).toList) = decide (a = b) := by
  by_cases h : a = b
  · subst h; simp
  · rw [decide_eq_false h, beq_eq_false_iff_ne]
    intro e
    rw [ByteArray.toList_eq, ByteArray.toList_eq] at e
    refine h (str_inj ha hb ?_)
    have h2 : (strOfNums a).data = (strOfNums b).data := Array.toList_inj.1 e
    unfold strOfNums at h2 ⊢
    exact congrArg ByteArray.mk h2
theorem exec_convert {P : Program} {o : Oper} {ρ : Operand → Value} {s d : TypeId} {x : Operand} {v u : Value} {w : World} (ho : o.op = .convert s d x) (hx : ρ x = v) (h : (convert s d v).run P w = .ok u w) : (execOp ρ o).run P w = .ok (.value u) w := by
  unfold execOp
  simp only [ho, hx, Sem.run_bind, Sem.run_pure, h, Result.andThen_ok]
section
variable {B : Nat} {w : World} {q p : Nat} {L : List (List Int)} {st : Bool} {lf : Int}
set_option maxRecDepth 100000 in
set_option maxHeartbeats 8000000 in
theorem read_calls (H : Hv w) (c0 : w.cell? ⟨q, 0, none⟩ = some (.pointer (some ⟨p, 0, none⟩))) (c1 : w.cell? ⟨q, 1, none⟩ = some (.int .i64 0)) (c2 : w.cell? ⟨q, 2, none⟩ = some (.int .i64 60)) (h : Dk B w p L [] st lf) (hd : (st && decide (lf = 0)) = false) (hL : L.length = 122) (hLb : ∀ x ∈ L, By x) {k : Nat} (hk : k ≤ 1) :
    Calls Tryd.prog 16 #[.pointer (some ⟨q, 0, none⟩), .int .i64 (k : Int)] w (GivesSlt (readP L k) w) := by
  have HC1 := Aside0.mk (fun W (hb : Below w.heap.size w W) => (hb.cell (p := ⟨q, 1, none⟩) (World.block_lt_of_cell? w _ c1)).trans c1)
  have HC2 := Aside0.mk (fun W (hb : Below w.heap.size w W) => (hb.cell (p := ⟨q, 2, none⟩) (World.block_lt_of_cell? w _ c2)).trans c2)
  have HC0 := Aside0.mk (fun W (hb : Below w.heap.size w W) => (hb.cell (p := ⟨q, 0, none⟩) (World.block_lt_of_cell? w _ c0)).trans c0)
  have HRD := Aside0.mk (fun W (hb : Below w.heap.size w W) (m : Nat) (hm : m < L.length) => Read_calls (h.below hb) hd (by omega) hm)
  have HH := Aside0.mk H
  have HLB := Aside0.mk hLb
  have HLL := Aside0.mk hL
  have hsec : ∀ m, m < 122 → (L.getD m []).length = 64 ∧ By (L.getD m []) := fun m hm => by
    obtain ⟨h0, vl, vw, stp, h1, h2, h3⟩ := h
    obtain ⟨al, cl, rfl⟩ := Kd.R_slice1 h2 (by omega)
    obtain ⟨gl, rfl⟩ := Kd.R_head h2
    refine ⟨(sector_at h2 (by omega)).2, ?_⟩
    rw [List.getD_eq_getElem?_getD, List.getElem?_eq_getElem (show m < L.length by omega)]
    exact hLb _ (List.getElem_mem _)
  have HSEC := Aside0.mk hsec
  clear H c0 c1 c2 h hd hL hLb hsec
  go_enter Tryd.func16, Tryd.ntmps16
  go_upto_region 1 with (fail)
  have k4 := World.alloc_heap_new w (.cells #[.bool false, .int .i64 0, .slice none 0 0] 61)
  have hb1 := below_alloc (Below.refl _ w) (.cells #[.bool false, .int .i64 0, .slice none 0 0] 61)
  have K4 := Aside0.mk k4
  have HB1 := Aside0.mk hb1
  have HW := Aside0.mk (show w.heap.size < (w.alloc (.cells #[.bool false, .int .i64 0, .slice none 0 0] 61)).heap.size by simp)
  clear k4 hb1
  generalize w.alloc (.cells #[.bool false, .int .i64 0, .slice none 0 0] 61) = W1 at K4 HB1 HW ⊢
  obtain ⟨g4, hg4⟩ : ∃ g, w.heap.size = g := ⟨_, rfl⟩
  rw [show Value.pointer (some ⟨w.heap.size, 0, none⟩) = Value.pointer (some ⟨g4, 0, none⟩) from by rw [hg4]]
  rw [hg4] at K4
  have HG4 := Aside0.mk hg4
  clear hg4
  refine start_ (n := 13) (S := fun w' => w'.cell? ⟨q, 0, none⟩ = some (.pointer (some ⟨p, 0, none⟩))) (ds := [7]) #[false, false, false, false, false, false, false, false, false, false, false, false, false] (by kernel_rfl) rfl rfl (by rw [World.cell?_drew]; exact HC0.out _ HB1.out) (fun hHeld => ?_)
  have HBd := Aside0.mk (below_drew HB1.out)
  have K4d : Aside0 (W1.drew.heap[g4]? = some (.cells #[.bool false, .int .i64 0, .slice none 0 0] 61 (0, 0))) := K4
  generalize W1.drew = D at HBd K4d hHeld ⊢
  refine pure_ (i := 0) (N := some 16) (v := ?_) (a' := ?_) #[true, false, false, false, false, false, false, false, false, false, false, false, false] rfl rfl (by kernel_rfl) (fun _ _ _ h => h) (Or.inl ⟨by rfl, ?_⟩) ?_ ?_
  rotate_left
  · intro w'
    go_simp
    with_reducible rfl
  rotate_left
  · simp only [Act.put, List.setIfInBounds_toArray, List.set_cons_zero, List.set_cons_succ, i64_w, i32_w]
    rfl
  refine pure_ (i := 1) (N := some 17) (v := ?_) (a' := ?_) #[true, true, false, false, false, false, false, false, false, false, false, false, false] rfl rfl (by kernel_rfl) (fun _ _ _ h => h) (Or.inl ⟨by rfl, ?_⟩) ?_ ?_
  rotate_left
  · intro w'
    go_simp
    with_reducible rfl
  rotate_left
  · simp only [Act.put, List.setIfInBounds_toArray, List.set_cons_zero, List.set_cons_succ, i64_w, i32_w]
    rfl
  refine pure_ (i := 2) (N := some 18) (v := ?_) (a' := ?_) #[true, true, true, false, false, false, false, false, false, false, false, false, false] rfl rfl (by kernel_rfl) (fun _ _ _ h => h) (Or.inl ⟨by rfl, ?_⟩) ?_ ?_
  rotate_left
  · intro w'
    go_simp
    with_reducible rfl
  rotate_left
  · simp only [Act.put, List.setIfInBounds_toArray, List.set_cons_zero, List.set_cons_succ, i64_w, i32_w]
    rfl
  refine take_ (i := 3) (N := some 19) (v := ?_) (a' := ?_) #[true, true, true, true, false, false, false, false, false, false, false, false, false] rfl rfl (by kernel_rfl) (fun _ _ _ h => h) (Or.inl ⟨by rfl, ?_⟩) hHeld ?_ ?_
  rotate_left
  · rintro w' c1
    go_simp
    with_reducible rfl
  rotate_left
  · simp only [Act.put, List.setIfInBounds_toArray, List.set_cons_zero, List.set_cons_succ, i64_w, i32_w]
    rfl
  refine pure_ (i := 4) (N := some 20) (v := ?_) (a' := ?_) #[true, true, true, true, true, false, false, false, false, false, false, false, false] rfl rfl (by kernel_rfl) (fun _ _ _ h => h) (Or.inl ⟨by rfl, ?_⟩) ?_ ?_
  rotate_left
  · intro w'
    go_simp
    with_reducible rfl
  rotate_left
  · simp only [Act.put, List.setIfInBounds_toArray, List.set_cons_zero, List.set_cons_succ, i64_w, i32_w]
    rfl
  refine pure_ (i := 5) (N := some 21) (v := ?_) (a' := ?_) #[true, true, true, true, true, true, false, false, false, false, false, false, false] rfl rfl (by kernel_rfl) (fun _ _ _ h => h) (Or.inl ⟨by rfl, ?_⟩) ?_ ?_
  rotate_left
  · intro w'
    go_simp
    with_reducible rfl
  rotate_left
  · simp only [Act.put, List.setIfInBounds_toArray, List.set_cons_zero, List.set_cons_succ, i64_w, i32_w]
    rfl
  refine one_ (i := 6) (N := some 22) #[true, true, true, true, true, true, true, false, false, false, false, false, false] rfl rfl (by kernel_rfl) (by decide) (fun K hK => ?_)
  refine goes_ Tryd.func33 (by kernel_rfl) rfl #[.pointer (some ⟨q, 0, none⟩), .int .i64 (k : Int)] (by rfl) rfl rfl (by (try simp only [List.map_toArray, List.map_cons, List.map_nil]); first | done | rfl) ?_
  (with_reducible refine (begin_calls (HC1.out _ HBd.out) (HC2.out _ HBd.out) hk).mono ?_)
  rintro e w2 ⟨rfl, ⟨⟨n2, rfl⟩⟩⟩
  refine ⟨_, rfl, ?_⟩
  refine hK.out _ _ (by rw [World.cell?_drewN]; exact hHeld) (fun hHeld => ?_)
  clear hK K
  refine norm_ (a' := ?_) ?_ ?_
  rotate_left
  · show Act.put _ (some 22) _ = _
    simp only [Act.put, List.setIfInBounds_toArray, List.set_cons_zero, List.set_cons_succ, i64_w, i32_w]
    rfl
  have HB2 := Aside0.mk (pw_below_drewN HBd.out n2)
  have K42 : Aside0 ((D.drewN n2).heap[g4]? = some (.cells #[.bool false, .int .i64 0, .slice none 0 0] 61 (0, 0))) := K4d
  generalize D.drewN n2 = D2 at HB2 K42 hHeld ⊢
  refine last_ (i := 7) (N := some 23) #[true, true, true, true, true, true, true, true, false, false, false, false, false] rfl rfl (by kernel_rfl) (by decide) (fun K hK => ?_)
  refine goes_ Tryd.func48 (by kernel_rfl) rfl #[.pointer (some ⟨p, 0, none⟩), .int .i64 ((61 * k : Nat) : Int)] (by rfl) rfl rfl (by (try simp only [List.map_toArray, List.map_cons, List.map_nil]); first | done | rfl) ?_
  (with_reducible refine (HRD.out _ HB2.out (61 * k) (by rw [HLL.out]; omega)).mono ?_)
  rintro e w3 ⟨v3, rfl, ho3, hb3⟩
  obtain ⟨A3, c3, rfl, hs3⟩ := own_sbN ho3 (HSEC.out (61 * k) (by omega)).1
  refine ⟨_, rfl, ?_⟩
  have HS3 := Aside0.mk hs3
  have HB3 := Aside0.mk (below_step HB2.out hb3)
  have K43 := Aside0.mk (blk_below K42.out hb3)
  clear ho3 hb3 hs3
  refine hK.out _ _ ?_
  clear hK K
  refine norm_ (a' := ?_) ?_ ?_
  rotate_left
  · show Act.put _ (some 23) _ = _
    simp only [Act.put, List.setIfInBounds_toArray, List.set_cons_zero, List.set_cons_succ, i64_w, i32_w]
    rfl
  refine pure_ (i := 8) (N := some 15) (v := ?_) (a' := ?_) #[true, true, true, true, true, true, true, true, true, false, false, false, false] rfl rfl (by kernel_rfl) (fun _ _ _ h => h) (Or.inl ⟨by rfl, ?_⟩) ?_ ?_
  rotate_left
  · intro w'
    go_simp
    with_reducible rfl
  rotate_left
  · simp only [Act.put, List.setIfInBounds_toArray, List.set_cons_zero, List.set_cons_succ, i64_w, i32_w]
    rfl
  refine pure_ (i := 9) (N := some 24) (v := ?_) (a' := ?_) #[true, true, true, true, true, true, true, true, true, true, false, false, false] rfl rfl (by kernel_rfl) (fun _ _ _ h => h) (Or.inl ⟨by rfl, ?_⟩) ?_ ?_
  rotate_left
  · intro w'
    go_simp
    with_reducible rfl
  rotate_left
  · simp only [Act.put, List.setIfInBounds_toArray, List.set_cons_zero, List.set_cons_succ, i64_w, i32_w]
    rfl
  refine pure_ (i := 10) (N := some 25) (v := ?_) (a' := ?_) #[true, true, true, true, true, true, true, true, true, true, true, false, false] rfl rfl (by kernel_rfl) (fun _ _ _ h => h) (Or.inl ⟨by rfl, ?_⟩) ?_ ?_
  rotate_left
  · intro w'
    go_simp
    with_reducible rfl
  rotate_left
  · simp only [Act.put, List.setIfInBounds_toArray, List.set_cons_zero, List.set_cons_succ, i64_w, i32_w]
    rfl
  refine pure_ (i := 11) (N := some 6) (v := ?_) (a' := ?_) #[true, true, true, true, true, true, true, true, true, true, true, true, false] rfl rfl (by kernel_rfl) (fun _ _ _ h => h) (Or.inl ⟨by rfl, ?_⟩) ?_ ?_
  rotate_left
  · intro w'
    go_simp
    with_reducible rfl
  rotate_left
  · simp only [Act.put, List.setIfInBounds_toArray, List.set_cons_zero, List.set_cons_succ, i64_w, i32_w]
    rfl
  refine pure_ (i := 12) (N := some 7) (v := ?_) (a' := ?_) #[true, true, true, true, true, true, true, true, true, true, true, true, true] rfl rfl (by kernel_rfl) (fun _ _ _ h => h) (Or.inl ⟨by rfl, ?_⟩) ?_ ?_
  rotate_left
  · intro w'
    go_simp
    with_reducible rfl
  rotate_left
  · simp only [Act.put, List.setIfInBounds_toArray, List.set_cons_zero, List.set_cons_succ, i64_w, i32_w]
    rfl
  refine done_ (by kernel_rfl) ?_
  have hb64 := (HSEC.out (61 * k) (by omega)).1
  have hbB := (HSEC.out (61 * k) (by omega)).2
  obtain ⟨b, hb⟩ : ∃ b, L.getD (61 * k) [] = b := ⟨_, rfl⟩
  rw [hb] at HS3 hb64 hbB
  have hc364 := HS3.out.hc
  have hrf9 := fun W => run_from (A := A3) (c := c3) (y := 9) (n := 64) (by omega) W
  have hs9 : Sb w3 (restA A3 c3 9) 55 (c3 - 9) (b.drop 9) := ⟨by
    have h9 := C_drop (c := c3) (y := 9) (l := b) (by have := HS3.out.hC; rw [hb64]; exact this) (by omega) (by omega)
    rw [hb64] at h9
    exact h9, by rw [List.length_drop, hb64], by omega, by have := HS3.out.hm; omega⟩
  obtain ⟨R9, hR9⟩ : ∃ R9, restA A3 c3 9 = R9 := ⟨_, rfl⟩
  rw [hR9] at hs9
  have HR9 := Aside0.mk hR9
  clear hR9 hrf9
  have HNB := Aside0.mk hb
  have HNE := Aside0.mk (fun W (hw : ∃ n, W = w3.drewN n) => (number_calls (w := W) (A := A3) (n := 64) (c := c3) (l := b) (by obtain ⟨n, rfl⟩ := hw; exact ⟨Kd.C_drewN HS3.out.hC n, HS3.out.hn, HS3.out.hc, HS3.out.hm⟩) hbB (by omega)))
  have HNS := Aside0.mk (fun W (hw : ∃ n, W = w3.drewN n) => (number_calls (w := W) (A := R9) (n := 55) (c := c3 - 9) (l := b.drop 9) (by obtain ⟨n, rfl⟩ := hw; exact ⟨Kd.C_drewN hs9.hC n, hs9.hn, hs9.hc, hs9.hm⟩) (hbB.drop 9) (by omega)))
  obtain ⟨ep, hep⟩ : ∃ ep, num4 b = ep := ⟨_, rfl⟩
  obtain ⟨sz, hsz⟩ : ∃ sz, num4 (b.drop 9) = sz := ⟨_, rfl⟩
  have hsz0 : 0 ≤ sz := by rw [← hsz]; exact (num4_bd (hbB.drop 9)).1
  have hez0 : 0 ≤ ep := by rw [← hep]; exact (num4_bd hbB).1
  rw [hep] at HNE
  rw [hsz] at HNS
  have hE : headE L k = ep := by unfold headE; rw [hb, hep]
  have hS : headS L k = sz := by unfold headS; rw [hb, hsz]
  have HE := Aside0.mk hE
  have HS := Aside0.mk hS
  have HBB := Aside0.mk hbB
  clear hb hs9 hep hsz hE hS hbB hHeld
  go_upto_region 4 with (fail)
  refine start_ (n := 7) (S := fun w' => True) (ds := []) #[false, false, false, false, false, false, false] (by kernel_rfl) rfl rfl trivial (fun hHeld => ?_)
  have HDR : Aside0 (∃ n, w3.drew = w3.drewN n) := ⟨⟨1, rfl⟩⟩
  generalize w3.drew = D4 at HDR hHeld ⊢
  refine pure_ (i := 0) (N := some 30) (v := ?_) (a' := ?_) #[true, false, false, false, false, false, false] rfl rfl (by kernel_rfl) (fun _ _ _ h => h) (Or.inl ⟨by rfl, ?_⟩) ?_ ?_
  rotate_left
  · intro w'
    go_simp
    with_reducible rfl
  rotate_left
  · simp only [Act.put, List.setIfInBounds_toArray, List.set_cons_zero, List.set_cons_succ, i64_w, i32_w]
    rfl
  refine pure_ (i := 2) (N := some 32) (v := ?_) (a' := ?_) #[true, false, true, false, false, false, false] rfl rfl (by kernel_rfl) (fun _ _ _ h => h) (Or.inl ⟨by rfl, ?_⟩) ?_ ?_
  rotate_left
  · intro w'
    go_simp
    with_reducible rfl
  rotate_left
  · simp only [Act.put, List.setIfInBounds_toArray, List.set_cons_zero, List.set_cons_succ, i64_w, i32_w]
    rfl
  refine pure_ (i := 3) (N := some 33) (v := .slice R9 55 (c3 - 9)) (a' := ?_) #[true, false, true, true, false, false, false] rfl rfl (by kernel_rfl) (fun _ _ _ h => h) (Or.inl ⟨by rfl, ?_⟩) ?_ ?_
  · intro w'
    rw [← HR9.out]
    go_simp
    rfl
  rotate_left
  · simp only [Act.put, List.setIfInBounds_toArray, List.set_cons_zero, List.set_cons_succ, i64_w, i32_w]
    rfl
  refine one_ (i := 1) (N := some 31) #[true, true, true, true, false, false, false] rfl rfl (by kernel_rfl) (by decide) (fun K hK => ?_)
  refine goes_ Tryd.func49 (by kernel_rfl) rfl #[.slice A3 64 c3] (by rfl) rfl rfl (by (try simp only [List.map_toArray, List.map_cons, List.map_nil]); first | done | rfl) ?_
  (with_reducible refine (HNE.out _ HDR.out).mono ?_)
  rintro e w4 ⟨rfl, ⟨⟨n4, rfl⟩⟩⟩
  refine ⟨_, rfl, ?_⟩
  refine hK.out _ _ trivial (fun hHeld => ?_)
  clear hK K
  refine norm_ (a' := ?_) ?_ ?_
  rotate_left
  · show Act.put _ (some 31) _ = _
    simp only [Act.put, List.setIfInBounds_toArray, List.set_cons_zero, List.set_cons_succ, i64_w, i32_w]
    rfl
  have HDR2 : Aside0 (∃ n, D4.drewN n4 = w3.drewN n) := ⟨by obtain ⟨n, hn⟩ := HDR.out; exact ⟨n + n4, by rw [hn]; first | exact World.drewN_drewN _ _ _ | (simp [World.drewN, Nat.add_assoc])⟩⟩
  generalize D4.drewN n4 = D5 at HDR2 hHeld ⊢
  refine one_ (i := 4) (N := some 34) #[true, true, true, true, true, false, false] rfl rfl (by kernel_rfl) (by decide) (fun K hK => ?_)
  refine goes_ Tryd.func49 (by kernel_rfl) rfl #[.slice R9 55 (c3 - 9)] (by rfl) rfl rfl (by (try simp only [List.map_toArray, List.map_cons, List.map_nil]); first | done | rfl) ?_
  (with_reducible refine (HNS.out _ HDR2.out).mono ?_)
  rintro e w4 ⟨rfl, ⟨⟨n4, rfl⟩⟩⟩
  refine ⟨_, rfl, ?_⟩
  refine hK.out _ _ trivial (fun hHeld => ?_)
  clear hK K
  refine norm_ (a' := ?_) ?_ ?_
  rotate_left
  · show Act.put _ (some 34) _ = _
    simp only [Act.put, List.setIfInBounds_toArray, List.set_cons_zero, List.set_cons_succ, i64_w, i32_w]
    rfl
  refine pure_ (i := 5) (N := some 8) (v := ?_) (a' := ?_) #[true, true, true, true, true, true, false] rfl rfl (by kernel_rfl) (fun _ _ _ h => h) (Or.inl ⟨by rfl, ?_⟩) ?_ ?_
  rotate_left
  · intro w'
    go_simp
    with_reducible rfl
  rotate_left
  · simp only [Act.put, List.setIfInBounds_toArray, List.set_cons_zero, List.set_cons_succ, i64_w, i32_w]
    rfl
  refine pure_ (i := 6) (N := some 9) (v := ?_) (a' := ?_) #[true, true, true, true, true, true, true] rfl rfl (by kernel_rfl) (fun _ _ _ h => h) (Or.inl ⟨by rfl, ?_⟩) ?_ ?_
  rotate_left
  · intro w'
    go_simp
    with_reducible rfl
  rotate_left
  · simp only [Act.put, List.setIfInBounds_toArray, List.set_cons_zero, List.set_cons_succ, i64_w, i32_w]
    rfl
  refine done_ (by kernel_rfl) ?_
  have HDR3 : Aside0 (∃ n, D5.drewN n4 = w3.drewN n) := ⟨by obtain ⟨n, hn⟩ := HDR2.out; exact ⟨n + n4, by rw [hn]; first | exact World.drewN_drewN _ _ _ | (simp [World.drewN, Nat.add_assoc])⟩⟩
  have HB6 : Aside0 (Below w.heap.size w (D5.drewN n4)) := ⟨by obtain ⟨n, hn⟩ := HDR3.out; rw [hn]; exact pw_below_drewN HB3.out n⟩
  have K46 : Aside0 ((D5.drewN n4).heap[g4]? = some (.cells #[.bool false, .int .i64 0, .slice none 0 0] 61 (0, 0))) := ⟨by obtain ⟨n, hn⟩ := HDR3.out; rw [hn]; exact K43.out⟩
  have HS6 : Aside0 (Sb (D5.drewN n4) A3 64 c3 b) := ⟨by obtain ⟨n, hn⟩ := HDR3.out; rw [hn]; exact ⟨Kd.C_drewN HS3.out.hC n, HS3.out.hn, HS3.out.hc, HS3.out.hm⟩⟩
  clear HDR HDR2 HDR3 HNE HNS K43 HB3 HS3
  generalize D5.drewN n4 = D6 at HB6 K46 HS6 ⊢
  have c26 := HC2.out _ HB6.out
  have q0 := blk_cell K46.out 0
  have q1 := blk_cell K46.out 1
  have q2 := blk_cell K46.out 2
  have z0 := blk_frozen K46.out 0
  have z1 := blk_frozen K46.out 1
  have z2 := blk_frozen K46.out 2
  have HNO : Aside0 (∀ m, GivesNo w (.returned (.tuple #[.agg #[.bool false, .int .i64 0, .slice none 0 0], .int .i64 0])) (((((D6.drewN m).setCell ⟨g4, 0, none⟩ (.bool false)).setCell ⟨g4, 1, none⟩ (.int .i64 0)).setCell ⟨g4, 2, none⟩ (.slice none 0 0))) ∧ ((((D6.drewN m).setCell ⟨g4, 0, none⟩ (.bool false)).setCell ⟨g4, 1, none⟩ (.int .i64 0)).setCell ⟨g4, 2, none⟩ (.slice none 0 0)).heap[g4]? = some (.cells #[.bool false, .int .i64 0, .slice none 0 0] 61 (0, 0))) := ⟨fun m => by
    have hle : w.heap.size ≤ g4 := by have := HG4.out; omega
    have h1 := blk_put (cs := #[.bool false, .int .i64 0, .slice none 0 0]) (show (D6.drewN m).heap[g4]? = _ from K46.out) 0 (.bool false) rfl
    have h2 := blk_put (cs := #[.bool false, .int .i64 0, .slice none 0 0]) h1 1 (.int .i64 0) rfl
    have h3 := blk_put (cs := #[.bool false, .int .i64 0, .slice none 0 0]) h2 2 (.slice none 0 0) rfl
    exact ⟨⟨rfl, (((pw_below_drewN HB6.out m).setCell (p := ⟨g4, 0, none⟩) hle _).setCell (p := ⟨g4, 1, none⟩) hle _).setCell (p := ⟨g4, 2, none⟩) hle _⟩, h3⟩⟩
  obtain ⟨d61, hu61⟩ := u61
  have HU61 := Aside0.mk hu61
  clear hu61

  by_cases hA : ep < 1
  · have HNN : Aside0 (¬ Stands L k) := ⟨fun hs => by have := hs.1; rw [HE.out] at this; omega⟩
    have hd := decide_eq_true hA
    go_upto_region 5 with (fail)
    go_quiet (fail)
    go_wp2
    refine bodyPost_ret (results_ct rfl _ _ g4 61 #[.bool false, .int .i64 0, .slice none 0 0] (0, 0) (.struct d61) rfl (HNO.out _).2 HU61.out rfl (by kernel_rfl)) rfl ?_
    exact GivesNo.to HNN.out _ _ (HNO.out _).1
  have hd1 := decide_eq_false hA
  by_cases hB : 2147483647 < ep
  · have HNN : Aside0 (¬ Stands L k) := ⟨fun hs => by have := hs.2.1; rw [HE.out] at this; omega⟩
    have hd := decide_eq_true hB
    go_upto_region 5 with (fail)
    go_quiet (fail)
    go_wp2
    refine bodyPost_ret (results_ct rfl _ _ g4 61 #[.bool false, .int .i64 0, .slice none 0 0] (0, 0) (.struct d61) rfl (HNO.out _).2 HU61.out rfl (by kernel_rfl)) rfl ?_
    exact GivesNo.to HNN.out _ _ (HNO.out _).1
  have hd2 := decide_eq_false hB
  by_cases hC : 3240 < sz
  · have HNN : Aside0 (¬ Stands L k) := ⟨fun hs => by have := hs.2.2.1; rw [HS.out] at this; omega⟩
    have hd := decide_eq_true hC
    go_upto_region 5 with (fail)
    go_quiet (fail)
    go_wp2
    refine bodyPost_ret (results_ct rfl _ _ g4 61 #[.bool false, .int .i64 0, .slice none 0 0] (0, 0) (.struct d61) rfl (HNO.out _).2 HU61.out rfl (by kernel_rfl)) rfl ?_
    exact GivesNo.to HNN.out _ _ (HNO.out _).1
  have hd3 := decide_eq_false hC
  obtain ⟨bq, hbq⟩ : ∃ bq, (!decide (b = headB (k : Int) ep sz)) = bq := ⟨_, rfl⟩
  have HBQ := Aside0.mk hbq
  clear hbq
  go_upto_region 5 with (fail)
  refine start_ (n := 25) (S := fun w' => w'.cell? ⟨q, 2, none⟩ = some (.int .i64 60) ∧ Kd.C (Kd.int .u8) w' A3 64 b) (ds := []) #[false, false, false, false, false, false, false, false, false, false, false, false, false, false, false, false, false, false, false, false, false, false, false, false, false] (by kernel_rfl) rfl rfl ⟨by rw [World.cell?_drew]; exact c26, Kd.C_drew HS6.out.hC⟩ (fun hHeld => ?_)
  have HB7 : Aside0 (Below w.heap.size w D6.drew) := ⟨below_drew HB6.out⟩
  have K47 : Aside0 (D6.drew.heap[g4]? = some (.cells #[.bool false, .int .i64 0, .slice none 0 0] 61 (0, 0))) := K46
  clear q0 q1 q2 z0 z1 z2 HNO
  generalize D6.drew = D7 at HB7 K47 hHeld ⊢
  refine pure_ (i := 0) (N := some 35) (v := ?_) (a' := ?_) #[true, false, false, false, false, false, false, false, false, false, false, false, false, false, false, false, false, false, false, false, false, false, false, false, false] rfl rfl (by kernel_rfl) (fun _ _ _ h => h) (Or.inl ⟨by rfl, ?_⟩) ?_ ?_
  rotate_left
  · intro w'
    go_simp
    with_reducible rfl
  rotate_left
  · simp only [Act.put, List.setIfInBounds_toArray, List.set_cons_zero, List.set_cons_succ, i64_w, i32_w]
    rfl
  refine pure_ (i := 1) (N := some 36) (v := ?_) (a' := ?_) #[true, true, false, false, false, false, false, false, false, false, false, false, false, false, false, false, false, false, false, false, false, false, false, false, false] rfl rfl (by kernel_rfl) (fun _ _ _ h => h) (Or.inl ⟨by rfl, ?_⟩) ?_ ?_
  rotate_left
  · intro w'
    go_simp
    with_reducible rfl
  rotate_left
  · simp only [Act.put, List.setIfInBounds_toArray, List.set_cons_zero, List.set_cons_succ, i64_w, i32_w]
    rfl
  refine pure_ (i := 2) (N := some 37) (v := ?_) (a' := ?_) #[true, true, true, false, false, false, false, false, false, false, false, false, false, false, false, false, false, false, false, false, false, false, false, false, false] rfl rfl (by kernel_rfl) (fun _ _ _ h => h) (Or.inl ⟨by rfl, ?_⟩) ?_ ?_
  rotate_left
  · intro w'
    go_simp
    with_reducible rfl
  rotate_left
  · simp only [Act.put, List.setIfInBounds_toArray, List.set_cons_zero, List.set_cons_succ, i64_w, i32_w]
    rfl
  refine pure_ (i := 3) (N := some 38) (v := ?_) (a' := ?_) #[true, true, true, true, false, false, false, false, false, false, false, false, false, false, false, false, false, false, false, false, false, false, false, false, false] rfl rfl (by kernel_rfl) (fun _ _ _ h => h) (Or.inl ⟨by rfl, ?_⟩) ?_ ?_
  rotate_left
  · intro w'
    go_simp
    with_reducible rfl
  rotate_left
  · simp only [Act.put, List.setIfInBounds_toArray, List.set_cons_zero, List.set_cons_succ, i64_w, i32_w]
    rfl
  refine pure_ (i := 4) (N := some 39) (v := ?_) (a' := ?_) #[true, true, true, true, true, false, false, false, false, false, false, false, false, false, false, false, false, false, false, false, false, false, false, false, false] rfl rfl (by kernel_rfl) (fun _ _ _ h => h) (Or.inl ⟨by rfl, ?_⟩) ?_ ?_
  rotate_left
  · intro w'
    go_simp
    with_reducible rfl
  rotate_left
  · simp only [Act.put, List.setIfInBounds_toArray, List.set_cons_zero, List.set_cons_succ, i64_w, i32_w]
    rfl
  refine pure_ (i := 5) (N := some 40) (v := ?_) (a' := ?_) #[true, true, true, true, true, true, false, false, false, false, false, false, false, false, false, false, false, false, false, false, false, false, false, false, false] rfl rfl (by kernel_rfl) (fun _ _ _ h => h) (Or.inl ⟨by rfl, ?_⟩) ?_ ?_
  rotate_left
  · intro w'
    go_simp
    with_reducible rfl
  rotate_left
  · simp only [Act.put, List.setIfInBounds_toArray, List.set_cons_zero, List.set_cons_succ, i64_w, i32_w]
    rfl
  refine pure_ (i := 6) (N := some 41) (v := ?_) (a' := ?_) #[true, true, true, true, true, true, true, false, false, false, false, false, false, false, false, false, false, false, false, false, false, false, false, false, false] rfl rfl (by kernel_rfl) (fun _ _ _ h => h) (Or.inl ⟨by rfl, ?_⟩) ?_ ?_
  rotate_left
  · intro w'
    go_simp
    with_reducible rfl
  rotate_left
  · simp only [Act.put, List.setIfInBounds_toArray, List.set_cons_zero, List.set_cons_succ, i64_w, i32_w]
    rfl
  refine pure_ (i := 7) (N := some 42) (v := ?_) (a' := ?_) #[true, true, true, true, true, true, true, true, false, false, false, false, false, false, false, false, false, false, false, false, false, false, false, false, false] rfl rfl (by kernel_rfl) (fun _ _ _ h => h) (Or.inl ⟨by rfl, ?_⟩) ?_ ?_
  rotate_left
  · intro w'
    go_simp
    with_reducible rfl
  rotate_left
  · simp only [Act.put, List.setIfInBounds_toArray, List.set_cons_zero, List.set_cons_succ, i64_w, i32_w]
    rfl
  refine pure_ (i := 8) (N := some 43) (v := ?_) (a' := ?_) #[true, true, true, true, true, true, true, true, true, false, false, false, false, false, false, false, false, false, false, false, false, false, false, false, false] rfl rfl (by kernel_rfl) (fun _ _ _ h => h) (Or.inl ⟨by rfl, ?_⟩) ?_ ?_
  rotate_left
  · intro w'
    go_simp
    with_reducible rfl
  rotate_left
  · simp only [Act.put, List.setIfInBounds_toArray, List.set_cons_zero, List.set_cons_succ, i64_w, i32_w]
    rfl
  refine pure_ (i := 9) (N := some 44) (v := ?_) (a' := ?_) #[true, true, true, true, true, true, true, true, true, true, false, false, false, false, false, false, false, false, false, false, false, false, false, false, false] rfl rfl (by kernel_rfl) (fun _ _ _ h => h) (Or.inl ⟨by rfl, ?_⟩) ?_ ?_
  rotate_left
  · intro w'
    go_simp
    with_reducible rfl
  rotate_left
  · simp only [Act.put, List.setIfInBounds_toArray, List.set_cons_zero, List.set_cons_succ, i64_w, i32_w]
    rfl
  refine pure_ (i := 10) (N := some 45) (v := ?_) (a' := ?_) #[true, true, true, true, true, true, true, true, true, true, true, false, false, false, false, false, false, false, false, false, false, false, false, false, false] rfl rfl (by kernel_rfl) (fun _ _ _ h => h) (Or.inl ⟨by rfl, ?_⟩) ?_ ?_
  rotate_left
  · intro w'
    go_simp
    with_reducible rfl
  rotate_left
  · simp only [Act.put, List.setIfInBounds_toArray, List.set_cons_zero, List.set_cons_succ, i64_w, i32_w]
    rfl
  refine take_ (i := 11) (N := some 46) (v := ?_) (a' := ?_) #[true, true, true, true, true, true, true, true, true, true, true, true, false, false, false, false, false, false, false, false, false, false, false, false, false] rfl rfl (by kernel_rfl) (fun _ _ _ h => h) (Or.inl ⟨by rfl, ?_⟩) hHeld ?_ ?_
  rotate_left
  · rintro w' ⟨c1, _⟩
    go_simp
    with_reducible rfl
  rotate_left
  · simp only [Act.put, List.setIfInBounds_toArray, List.set_cons_zero, List.set_cons_succ, i64_w, i32_w]
    rfl
  refine pure_ (i := 12) (N := some 47) (v := .int .i64 3240) (a' := ?_) #[true, true, true, true, true, true, true, true, true, true, true, true, true, false, false, false, false, false, false, false, false, false, false, false, false] rfl rfl (by kernel_rfl) (fun _ _ _ h => h) (Or.inl ⟨by rfl, ?_⟩) ?_ ?_
  · intro w'
    go_simp
    try rfl
  rotate_left
  · simp only [Act.put, List.setIfInBounds_toArray, List.set_cons_zero, List.set_cons_succ, i64_w, i32_w]
    rfl
  refine pure_ (i := 13) (N := some 48) (v := (.bool false)) (a' := ?_) #[true, true, true, true, true, true, true, true, true, true, true, true, true, true, false, false, false, false, false, false, false, false, false, false, false] rfl rfl (by kernel_rfl) (fun _ _ _ h => h) (Or.inl ⟨by rfl, ?_⟩) ?_ ?_
  · intro w'
    go_simp
    try with_reducible rfl
  rotate_left
  · simp only [Act.put, List.setIfInBounds_toArray, List.set_cons_zero, List.set_cons_succ, i64_w, i32_w]
    rfl
  refine pure_ (i := 14) (N := some 49) (v := (.bool false)) (a' := ?_) #[true, true, true, true, true, true, true, true, true, true, true, true, true, true, true, false, false, false, false, false, false, false, false, false, false] rfl rfl (by kernel_rfl) (fun _ _ _ h => h) (Or.inl ⟨by rfl, ?_⟩) ?_ ?_
  · intro w'
    go_simp
    try with_reducible rfl
  rotate_left
  · simp only [Act.put, List.setIfInBounds_toArray, List.set_cons_zero, List.set_cons_succ, i64_w, i32_w]
    rfl
  refine pure_ (i := 15) (N := some 50) (v := (.bool false)) (a' := ?_) #[true, true, true, true, true, true, true, true, true, true, true, true, true, true, true, true, false, false, false, false, false, false, false, false, false] rfl rfl (by kernel_rfl) (fun _ _ _ h => h) (Or.inl ⟨by rfl, ?_⟩) ?_ ?_
  · intro w'
    go_simp
    try with_reducible rfl
  rotate_left
  · simp only [Act.put, List.setIfInBounds_toArray, List.set_cons_zero, List.set_cons_succ, i64_w, i32_w]
    rfl
  refine pure_ (i := 16) (N := some 51) (v := ?_) (a' := ?_) #[true, true, true, true, true, true, true, true, true, true, true, true, true, true, true, true, true, false, false, false, false, false, false, false, false] rfl rfl (by kernel_rfl) (fun _ _ _ h => h) (Or.inl ⟨by rfl, ?_⟩) ?_ ?_
  rotate_left
  · intro w'
    go_simp
    with_reducible rfl
  rotate_left
  · simp only [Act.put, List.setIfInBounds_toArray, List.set_cons_zero, List.set_cons_succ, i64_w, i32_w]
    rfl
  refine take_ (i := 17) (N := some 52) (a' := ?_) #[true, true, true, true, true, true, true, true, true, true, true, true, true, true, true, true, true, true, false, false, false, false, false, false, false] rfl rfl (by kernel_rfl) (fun _ _ _ h => h) (Or.inl ⟨by rfl, fun w' hS => exec_convert rfl rfl (Kd.C_string Tryd.underlying40 Tryd.underlying5 underS hS.2)⟩) hHeld ?_ ?_
  rotate_left
  · simp only [Act.put, List.setIfInBounds_toArray, List.set_cons_zero, List.set_cons_succ, i64_w, i32_w]
    rfl
  refine pure_ (i := 18) (N := some 53) (v := ?_) (a' := ?_) #[true, true, true, true, true, true, true, true, true, true, true, true, true, true, true, true, true, true, true, false, false, false, false, false, false] rfl rfl (by kernel_rfl) (fun _ _ _ h => h) (Or.inl ⟨by rfl, ?_⟩) ?_ ?_
  rotate_left
  · intro w'
    go_simp
    with_reducible rfl
  rotate_left
  · simp only [Act.put, List.setIfInBounds_toArray, List.set_cons_zero, List.set_cons_succ, i64_w, i32_w]
    rfl
  refine pure_ (i := 19) (N := some 54) (v := ?_) (a' := ?_) #[true, true, true, true, true, true, true, true, true, true, true, true, true, true, true, true, true, true, true, true, false, false, false, false, false] rfl rfl (by kernel_rfl) (fun _ _ _ h => h) (Or.inl ⟨by rfl, ?_⟩) ?_ ?_
  rotate_left
  · intro w'
    go_simp
    with_reducible rfl
  rotate_left
  · simp only [Act.put, List.setIfInBounds_toArray, List.set_cons_zero, List.set_cons_succ, i64_w, i32_w]
    rfl
  refine pure_ (i := 20) (N := some 55) (v := ?_) (a' := ?_) #[true, true, true, true, true, true, true, true, true, true, true, true, true, true, true, true, true, true, true, true, true, false, false, false, false] rfl rfl (by kernel_rfl) (fun _ _ _ h => h) (Or.inl ⟨by rfl, ?_⟩) ?_ ?_
  rotate_left
  · intro w'
    go_simp
    with_reducible rfl
  rotate_left
  · simp only [Act.put, List.setIfInBounds_toArray, List.set_cons_zero, List.set_cons_succ, i64_w, i32_w]
    rfl
  refine one_ (i := 21) (N := some 56) #[true, true, true, true, true, true, true, true, true, true, true, true, true, true, true, true, true, true, true, true, true, true, false, false, false] rfl rfl (by kernel_rfl) (by decide) (fun K hK => ?_)
  refine goes_ Tryd.func38 (by kernel_rfl) rfl #[.int .i64 (k : Int), .int .i64 ep, .int .i64 sz] (by rfl) rfl rfl (by (try simp only [List.map_toArray, List.map_cons, List.map_nil]); first | done | rfl) ?_
  (with_reducible refine (headed_calls (HH.out.below HB7.out)).mono ?_)
  rintro e w8 ⟨v8, rfl, ho8, hb8⟩
  obtain ⟨A8, c8, rfl, hs8⟩ := own_sbN ho8 (headB_len _ _ _)
  refine ⟨_, rfl, ?_⟩
  have HS8 := Aside0.mk hs8
  have HB8 := Aside0.mk (below_step HB7.out hb8)
  have K48 := Aside0.mk (blk_below K47.out hb8)
  have HLD := Aside0.mk (show w8.cell? ⟨q, 2, none⟩ = some (.int .i64 60) ∧ Kd.C (Kd.int .u8) w8 A3 64 b from ⟨(hb8.cell (p := ⟨q, 2, none⟩) (World.block_lt_of_cell? _ _ hHeld.1)).trans hHeld.1, Kd.C_below hHeld.2 hb8⟩)
  clear ho8 hb8 hs8
  refine hK.out _ _ HLD.out (fun hHeld => ?_)
  clear hK K
  refine norm_ (a' := ?_) ?_ ?_
  rotate_left
  · show Act.put _ (some 56) _ = _
    simp only [Act.put, List.setIfInBounds_toArray, List.set_cons_zero, List.set_cons_succ, i64_w, i32_w]
    rfl
  refine one_ (i := 22) (N := some 57) #[true, true, true, true, true, true, true, true, true, true, true, true, true, true, true, true, true, true, true, true, true, true, true, false, false] rfl rfl (by kernel_rfl) (by decide) (fun K hK => ?_)
  refine step_run rfl rfl (exec_convert rfl rfl (Kd.C_string Tryd.underlying40 Tryd.underlying5 underS HS8.out.hC)) ?_
  refine hK.out _ _ hHeld (fun hHeld => ?_)
  clear hK K
  refine norm_ (a' := ?_) ?_ ?_
  rotate_left
  · show Act.put _ (some 57) _ = _
    simp only [Act.put, List.setIfInBounds_toArray, List.set_cons_zero, List.set_cons_succ, i64_w, i32_w]
    rfl
  refine pure_ (i := 23) (N := some 58) (v := .bool bq) (a' := ?_) #[true, true, true, true, true, true, true, true, true, true, true, true, true, true, true, true, true, true, true, true, true, true, true, true, false] rfl rfl (by kernel_rfl) (fun _ _ _ h => h) (Or.inl ⟨by rfl, ?_⟩) ?_ ?_
  · intro w'
    go_simp
    rw [str_beq HBB.out (By.headB _ _ _), ← HBQ.out, Bool.not_not]
  rotate_left
  · simp only [Act.put, List.setIfInBounds_toArray, List.set_cons_zero, List.set_cons_succ, i64_w, i32_w]
    rfl
  refine pure_ (i := 24) (N := some 59) (v := ?_) (a' := ?_) #[true, true, true, true, true, true, true, true, true, true, true, true, true, true, true, true, true, true, true, true, true, true, true, true, true] rfl rfl (by kernel_rfl) (fun _ _ _ h => h) (Or.inl ⟨by rfl, ?_⟩) ?_ ?_
  rotate_left
  · intro w'
    go_simp
    with_reducible rfl
  rotate_left
  · simp only [Act.put, List.setIfInBounds_toArray, List.set_cons_zero, List.set_cons_succ, i64_w, i32_w]
    rfl
  refine done_ (by kernel_rfl) ?_
  clear hHeld HLD HS8 K46 HB6 HS6 c26
  by_cases hbe : b = headB (k : Int) ep sz
  case neg =>
    have hbq : bq = true := by rw [← HBQ.out]; simp [hbe]
    subst hbq
    have HNN : Aside0 (¬ Stands L k) := ⟨fun hs => by have h1 := hs.2.2.2.1; rw [HE.out, HS.out, HNB.out] at h1; exact hbe h1⟩
    have q0 := blk_cell K48.out 0
    have q1 := blk_cell K48.out 1
    have q2 := blk_cell K48.out 2
    have z0 := blk_frozen K48.out 0
    have z1 := blk_frozen K48.out 1
    have z2 := blk_frozen K48.out 2
    have HNO9 : Aside0 (GivesNo w (.returned (.tuple #[.agg #[.bool false, .int .i64 0, .slice none 0 0], .int .i64 0])) ((((w8.setCell ⟨g4, 0, none⟩ (.bool false)).setCell ⟨g4, 1, none⟩ (.int .i64 0)).setCell ⟨g4, 2, none⟩ (.slice none 0 0))) ∧ (((w8.setCell ⟨g4, 0, none⟩ (.bool false)).setCell ⟨g4, 1, none⟩ (.int .i64 0)).setCell ⟨g4, 2, none⟩ (.slice none 0 0)).heap[g4]? = some (.cells #[.bool false, .int .i64 0, .slice none 0 0] 61 (0, 0))) := ⟨by
      have hle : w.heap.size ≤ g4 := by have := HG4.out; omega
      have h1 := blk_put (cs := #[.bool false, .int .i64 0, .slice none 0 0]) K48.out 0 (.bool false) rfl
      have h2 := blk_put (cs := #[.bool false, .int .i64 0, .slice none 0 0]) h1 1 (.int .i64 0) rfl
      have h3 := blk_put (cs := #[.bool false, .int .i64 0, .slice none 0 0]) h2 2 (.slice none 0 0) rfl
      exact ⟨⟨rfl, ((HB8.out.setCell (p := ⟨g4, 0, none⟩) hle _).setCell (p := ⟨g4, 1, none⟩) hle _).setCell (p := ⟨g4, 2, none⟩) hle _⟩, h3⟩⟩
    go_wp2
    refine bodyPost_ret (results_ct rfl _ _ g4 61 #[.bool false, .int .i64 0, .slice none 0 0] (0, 0) (.struct d61) rfl (HNO9.out).2 HU61.out rfl (by kernel_rfl)) rfl ?_
    exact GivesNo.to HNN.out _ _ (HNO9.out).1
  have hbq : bq = false := by rw [← HBQ.out]; simp [hbe]
  subst hbq
  obtain ⟨sn, rfl⟩ : ∃ sn : Nat, sz = (sn : Int) := ⟨sz.toNat, by omega⟩
  obtain ⟨n, hn⟩ : ∃ n, (sn + 53) / 54 = n := ⟨_, rfl⟩
  have hn60 : n ≤ 60 := by omega
  have HCO := Aside0.mk (fun W => chunk_Count.calls (sn : Int) (n : Int) W (by rw [← hn]; exact count_f sn (by omega)))
  have HN := Aside0.mk hn
  have HBE := Aside0.mk hbe
  have hsn : sn ≤ 3240 := by omega
  have HEP := Aside0.mk (show 1 ≤ ep ∧ ep ≤ 2147483647 from ⟨by omega, by omega⟩)
  clear hn hbe hB hC hd1 hd2 hd3 hez0 HBQ
  go_wp2_with (go_at_call 50; (with_reducible refine (HCO.out _).mono ?_); rintro e w9 ⟨rfl, hd9⟩; have HB9 := Aside0.mk (below_step HB8.out hd9.below); have K49 := Aside0.mk (blk_below K48.out hd9.below); clear hd9)
  go_loopw [10, 63] (fun v10 v63 wr => ∃ i : Nat, v63 = .int .i64 (i : Int) ∧ i ≤ n ∧ Aside0 (Kd.R kB 40 wr w.heap.size (fun _ => True) v10 (chunksOf L k i)) ∧ Aside0 (Below w.heap.size w wr) ∧ Aside0 (wr.heap[g4]? = some (.cells #[.bool false, .int .i64 0, .slice none 0 0] 61 (0, 0)))) (fun _ v63 _ => n - (intOf v63).toNat)
  case atStart => exact ⟨0, rfl, Nat.zero_le _, ⟨Kd.R_nil _ _ _ _ _⟩, HB9, K49⟩
  case round =>
    obtain ⟨i, rfl, hi, HR, HB, HK⟩ := hrel
    by_cases hlt : i < n
    · have hlt' : (i : Int) < (n : Int) := by omega
      have hw1 : IntKind.i64.wrap (((61 * k : Nat) : Int) + 1) = ((61 * k + 1 : Nat) : Int) := by rw [IntKind.wrap_i64]; omega
      have hw2 : IntKind.i64.wrap (((61 * k + 1 : Nat) : Int) + (i : Int)) = ((61 * k + 1 + i : Nat) : Int) := by rw [IntKind.wrap_i64]; omega
      go_upto_region 11 with (fail)

      refine start_ (n := 16) (S := fun w' => w'.cell? ⟨q, 0, none⟩ = some (.pointer (some ⟨p, 0, none⟩))) (ds := [10]) #[false, false, false, false, false, false, false, false, false, false, false, false, false, false, false, false] (by kernel_rfl) rfl rfl (by rw [World.cell?_drew]; exact HC0.out _ HB.out) (fun hHeld => ?_)
      have HBd := Aside0.mk (below_drew HB.out)
      have HKd : Aside0 (wr.drew.heap[g4]? = some (.cells #[.bool false, .int .i64 0, .slice none 0 0] 61 (0, 0))) := HK
      have HRd := Aside0.mk (Kd.R_drew HR.out)
      generalize wr.drew = D at HBd HKd HRd hHeld ⊢
      refine pure_ (i := 0) (N := some 67) (v := ?_) (a' := ?_) #[true, false, false, false, false, false, false, false, false, false, false, false, false, false, false, false] rfl rfl (by kernel_rfl) (fun _ _ _ h => h) (Or.inl ⟨by rfl, ?_⟩) ?_ ?_
      rotate_left
      · intro w'
        go_simp
        with_reducible rfl
      rotate_left
      · simp only [Act.put, List.setIfInBounds_toArray, List.set_cons_zero, List.set_cons_succ, i64_w, i32_w]
        rfl
      refine pure_ (i := 1) (N := some 68) (v := ?_) (a' := ?_) #[true, true, false, false, false, false, false, false, false, false, false, false, false, false, false, false] rfl rfl (by kernel_rfl) (fun _ _ _ h => h) (Or.inl ⟨by rfl, ?_⟩) ?_ ?_
      rotate_left
      · intro w'
        go_simp
        with_reducible rfl
      rotate_left
      · simp only [Act.put, List.setIfInBounds_toArray, List.set_cons_zero, List.set_cons_succ, i64_w, i32_w]
        rfl
      refine pure_ (i := 2) (N := some 69) (v := ?_) (a' := ?_) #[true, true, true, false, false, false, false, false, false, false, false, false, false, false, false, false] rfl rfl (by kernel_rfl) (fun _ _ _ h => h) (Or.inl ⟨by rfl, ?_⟩) ?_ ?_
      rotate_left
      · intro w'
        go_simp
        with_reducible rfl
      rotate_left
      · simp only [Act.put, List.setIfInBounds_toArray, List.set_cons_zero, List.set_cons_succ, i64_w, i32_w]
        rfl
      refine take_ (i := 3) (N := some 70) (v := ?_) (a' := ?_) #[true, true, true, true, false, false, false, false, false, false, false, false, false, false, false, false] rfl rfl (by kernel_rfl) (fun _ _ _ h => h) (Or.inl ⟨by rfl, ?_⟩) hHeld ?_ ?_
      rotate_left
      · rintro w' c1
        go_simp
        with_reducible rfl
      rotate_left
      · simp only [Act.put, List.setIfInBounds_toArray, List.set_cons_zero, List.set_cons_succ, i64_w, i32_w]
        rfl
      refine pure_ (i := 4) (N := some 71) (v := ?_) (a' := ?_) #[true, true, true, true, true, false, false, false, false, false, false, false, false, false, false, false] rfl rfl (by kernel_rfl) (fun _ _ _ h => h) (Or.inl ⟨by rfl, ?_⟩) ?_ ?_
      rotate_left
      · intro w'
        go_simp
        with_reducible rfl
      rotate_left
      · simp only [Act.put, List.setIfInBounds_toArray, List.set_cons_zero, List.set_cons_succ, i64_w, i32_w]
        rfl
      refine pure_ (i := 5) (N := some 72) (v := ?_) (a' := ?_) #[true, true, true, true, true, true, false, false, false, false, false, false, false, false, false, false] rfl rfl (by kernel_rfl) (fun _ _ _ h => h) (Or.inl ⟨by rfl, ?_⟩) ?_ ?_
      rotate_left
      · intro w'
        go_simp
        with_reducible rfl
      rotate_left
      · simp only [Act.put, List.setIfInBounds_toArray, List.set_cons_zero, List.set_cons_succ, i64_w, i32_w]
        rfl
      refine pure_ (i := 8) (N := some 75) (v := ?_) (a' := ?_) #[true, true, true, true, true, true, false, false, true, false, false, false, false, false, false, false] rfl rfl (by kernel_rfl) (fun _ _ _ h => h) (Or.inl ⟨by rfl, ?_⟩) ?_ ?_
      rotate_left
      · intro w'
        go_simp
        with_reducible rfl
      rotate_left
      · simp only [Act.put, List.setIfInBounds_toArray, List.set_cons_zero, List.set_cons_succ, i64_w, i32_w]
        rfl
      refine one_ (i := 6) (N := some 73) #[true, true, true, true, true, true, true, false, true, false, false, false, false, false, false, false] rfl rfl (by kernel_rfl) (by decide) (fun K hK => ?_)
      refine goes_ Tryd.func33 (by kernel_rfl) rfl #[.pointer (some ⟨q, 0, none⟩), .int .i64 (k : Int)] (by rfl) rfl rfl (by (try simp only [List.map_toArray, List.map_cons, List.map_nil]); first | done | rfl) ?_
      (with_reducible refine (begin_calls (HC1.out _ HBd.out) (HC2.out _ HBd.out) hk).mono ?_)
      rintro e w2 ⟨rfl, ⟨⟨n2, rfl⟩⟩⟩
      refine ⟨_, rfl, ?_⟩
      refine hK.out _ _ (by rw [World.cell?_drewN]; exact hHeld) (fun hHeld => ?_)
      clear hK K
      refine norm_ (a' := ?_) ?_ ?_
      rotate_left
      · show Act.put _ (some 73) _ = _
        simp only [Act.put, List.setIfInBounds_toArray, List.set_cons_zero, List.set_cons_succ, i64_w, i32_w]
        rfl
      have HB2 := Aside0.mk (pw_below_drewN HBd.out n2)
      have HK2 : Aside0 ((D.drewN n2).heap[g4]? = some (.cells #[.bool false, .int .i64 0, .slice none 0 0] 61 (0, 0))) := HKd
      have HR2 := Aside0.mk (Kd.R_drewN HRd.out n2)
      generalize D.drewN n2 = D2 at HB2 HK2 HR2 hHeld ⊢
      refine pure_ (i := 7) (N := some 74) (v := .int .i64 ((61 * k + 1 : Nat) : Int)) (a' := ?_) #[true, true, true, true, true, true, true, true, true, false, false, false, false, false, false, false] rfl rfl (by kernel_rfl) (fun _ _ _ h => h) (Or.inl ⟨by rfl, ?_⟩) ?_ ?_
      · intro w'
        go_simp
        first | done | (rw [IntKind.wrap_i64]; omega)
      rotate_left
      · simp only [Act.put, List.setIfInBounds_toArray, List.set_cons_zero, List.set_cons_succ, i64_w, i32_w]
        rfl
      refine pure_ (i := 9) (N := some 76) (v := .int .i64 ((61 * k + 1 + i : Nat) : Int)) (a' := ?_) #[true, true, true, true, true, true, true, true, true, true, false, false, false, false, false, false] rfl rfl (by kernel_rfl) (fun _ _ _ h => h) (Or.inl ⟨by rfl, ?_⟩) ?_ ?_
      · intro w'
        go_simp
        first | done | (rw [IntKind.wrap_i64]; omega)
      rotate_left
      · simp only [Act.put, List.setIfInBounds_toArray, List.set_cons_zero, List.set_cons_succ, i64_w, i32_w]
        rfl
      refine last_ (i := 10) (N := some 77) #[true, true, true, true, true, true, true, true, true, true, true, false, false, false, false, false] rfl rfl (by kernel_rfl) (by decide) (fun K hK => ?_)
      refine goes_ Tryd.func48 (by kernel_rfl) rfl #[.pointer (some ⟨p, 0, none⟩), .int .i64 ((61 * k + 1 + i : Nat) : Int)] (by rfl) rfl rfl (by (try simp only [List.map_toArray, List.map_cons, List.map_nil]); first | done | rfl) ?_
      (with_reducible refine (HRD.out _ HB2.out (61 * k + 1 + i) (by rw [HLL.out]; omega)).mono ?_)
      rintro e w3 ⟨v3, rfl, ho3, hb3⟩
      obtain ⟨A5, c5, rfl⟩ := R_sliceN ho3 (HSEC.out (61 * k + 1 + i) (by omega)).1
      refine ⟨_, rfl, ?_⟩
      have HO3 := Aside0.mk ho3
      have HB3 := Aside0.mk (below_step HB2.out hb3)
      have HB3o := Aside0.mk hb3
      have HK3 := Aside0.mk (blk_below HK2.out hb3)
      have HR3 := Aside0.mk (Kd.R_below HR2.out hb3)
      clear ho3 hb3
      refine hK.out _ _ ?_
      clear hK K
      refine norm_ (a' := ?_) ?_ ?_
      rotate_left
      · show Act.put _ (some 77) _ = _
        simp only [Act.put, List.setIfInBounds_toArray, List.set_cons_zero, List.set_cons_succ, i64_w, i32_w]
        rfl
      refine pure_ (i := 11) (N := some 66) (v := ?_) (a' := ?_) #[true, true, true, true, true, true, true, true, true, true, true, true, false, false, false, false] rfl rfl (by kernel_rfl) (fun _ _ _ h => h) (Or.inl ⟨by rfl, ?_⟩) ?_ ?_
      rotate_left
      · intro w'
        go_simp
        with_reducible rfl
      rotate_left
      · simp only [Act.put, List.setIfInBounds_toArray, List.set_cons_zero, List.set_cons_succ, i64_w, i32_w]
        rfl
      refine pure_ (i := 12) (N := some 78) (v := ?_) (a' := ?_) #[true, true, true, true, true, true, true, true, true, true, true, true, true, false, false, false] rfl rfl (by kernel_rfl) (fun _ _ _ h => h) (Or.inl ⟨by rfl, ?_⟩) ?_ ?_
      rotate_left
      · intro w'
        go_simp
        with_reducible rfl
      rotate_left
      · simp only [Act.put, List.setIfInBounds_toArray, List.set_cons_zero, List.set_cons_succ, i64_w, i32_w]
        rfl
      refine pure_ (i := 13) (N := some 79) (v := ?_) (a' := ?_) #[true, true, true, true, true, true, true, true, true, true, true, true, true, true, false, false] rfl rfl (by kernel_rfl) (fun _ _ _ h => h) (Or.inl ⟨by rfl, ?_⟩) ?_ ?_
      rotate_left
      · intro w'
        go_simp
        with_reducible rfl
      rotate_left
      · simp only [Act.put, List.setIfInBounds_toArray, List.set_cons_zero, List.set_cons_succ, i64_w, i32_w]
        rfl
      refine pure_ (i := 14) (N := some 12) (v := ?_) (a' := ?_) #[true, true, true, true, true, true, true, true, true, true, true, true, true, true, true, false] rfl rfl (by kernel_rfl) (fun _ _ _ h => h) (Or.inl ⟨by rfl, ?_⟩) ?_ ?_
      rotate_left
      · intro w'
        go_simp
        with_reducible rfl
      rotate_left
      · simp only [Act.put, List.setIfInBounds_toArray, List.set_cons_zero, List.set_cons_succ, i64_w, i32_w]
        rfl
      refine pure_ (i := 15) (N := some 13) (v := ?_) (a' := ?_) #[true, true, true, true, true, true, true, true, true, true, true, true, true, true, true, true] rfl rfl (by kernel_rfl) (fun _ _ _ h => h) (Or.inl ⟨by rfl, ?_⟩) ?_ ?_
      rotate_left
      · intro w'
        go_simp
        with_reducible rfl
      rotate_left
      · simp only [Act.put, List.setIfInBounds_toArray, List.set_cons_zero, List.set_cons_succ, i64_w, i32_w]
        rfl
      refine done_ (by kernel_rfl) ?_
      clear hHeld hw1 hw2
      go_wp2_with ((with_reducible refine gate_dst (N := 87) rfl ?_); at_builtin; refine Kd.R_append kB (w0 := w) w.heap.size rfl (.tmp 84) (.tmp 86) 83 40 (.slice none 0 0) 24 rfl Sav.u83 info40 rfl (by decide) (by decide) u10 (chunksOf L k i) (L.getD (61 * k + 1 + i) []) [_] (fun _ => True) (fun j => some j ≠ u10.ownBlock) rfl rfl (Kd.M_row (Kd.R_lower (R_newer HO3.out HR2.out) HB2.out.size)) (fun _ hj => ⟨trivial, hj⟩) (fun _ _ => trivial) HR3.out HB3.out HB3.out.size (by rw [chunks_len]; omega) ?_; intro v9 w9' ho9 hb9 hg9 hat9; have HO9 := Aside0.mk ho9; have HB9' := Aside0.mk hb9; have HK9' := Aside0.mk (blk_grown HK3.out hg9 (Kd.R_ne HR3.out HK3.out (by decide))); clear ho9 hb9 hg9 hat9)
      go_roundw
      case measure => simp [intOf]; omega
      case rel => exact ⟨i + 1, by go_num, by omega, ⟨by rw [chunks_succ]; exact HO9.out⟩, HB9', HK9'⟩
    · obtain rfl : i = n := by omega
      have hln : (chunksOf L k i).length = i := by simp [chunksOf]
      obtain ⟨Aw, cw, hvw⟩ := Kd.R_slice HR.out
      subst hvw
      rw [hln] at HR
      have hjc : Calls Tryd.prog 51 #[.slice Aw i cw, .int .i64 ep, .int .i64 (sn : Int)] wr (GivesJoin (chunksOf L k i) ep sn wr) := Join_calls (HH.out.below HB.out) HR.out hln (fun x hx => by
        obtain ⟨j, hj, rfl⟩ := List.mem_map.1 hx
        rw [List.mem_range] at hj
        exact (HSEC.out (61 * k + 1 + j) (by omega)).1) HEP.out (by omega) HN.out.symm
      have HJC := Aside0.mk hjc
      rw [hln]
      have HLN := Aside0.mk hln
      clear hjc hln
      go_upto_region 17 with (go_at_call 51; (with_reducible refine HJC.out.mono ?_); rintro e w5 ⟨v5, q5, rfl, hb5, hcase⟩; have HCA := Aside0.mk hcase; have HB5 := Aside0.mk (below_step HB.out hb5); have HB5o := Aside0.mk hb5; have HK5 := Aside0.mk (blk_below HK.out hb5); clear hb5 hcase)
      rcases HCA.out with ⟨g1, rfl, ho5⟩ | ⟨g1, hq5⟩
      · have HG1 := Aside0.mk g1
        obtain ⟨A6, c6, hv6⟩ := Kd.R_slice ho5
        subst hv6
        obtain ⟨J, hJ⟩ : ∃ J, joinL (chunksOf L k i) sn (chunksOf L k i).length = J := ⟨_, rfl⟩
        rw [hJ] at ho5 ⊢
        have HO5 := Aside0.mk ho5
        have HJ := Aside0.mk hJ
        obtain ⟨nJ, hnJ⟩ : ∃ nJ, J.length = nJ := ⟨_, rfl⟩
        rw [hnJ] at HO5 ⊢
        clear g1 ho5 hJ hnJ HCA
        have q0 := blk_cell HK5.out 0
        have q1 := blk_cell HK5.out 1
        have q2 := blk_cell HK5.out 2
        have z0 := blk_frozen HK5.out 0
        have z1 := blk_frozen HK5.out 1
        have z2 := blk_frozen HK5.out 2
        go_wp2
        have hle : w.heap.size ≤ g4 := by have := HG4.out; omega
        have y1 := blk_put (cs := #[.bool false, .int .i64 0, .slice none 0 0]) HK5.out 0 (.bool true) rfl
        have y2 := blk_put (cs := #[.bool true, .int .i64 0, .slice none 0 0]) y1 1 (.int .i64 ep) rfl
        have y3 := blk_put (cs := #[.bool true, .int .i64 ep, .slice none 0 0]) y2 2 (.slice A6 nJ c6) rfl
        have hst : Stands L k := ⟨by rw [HE.out]; exact HEP.out.1, by rw [HE.out]; exact HEP.out.2, by rw [HS.out]; omega, by rw [HE.out, HS.out, HNB.out]; exact HBE.out, by rw [HE.out, HS.out, Int.toNat_natCast, HN.out]; exact HG1.out⟩
        have hrp : readP L k = ⟨true, ep, J⟩ := by
          unfold readP
          rw [if_pos hst, HE.out, HS.out, Int.toNat_natCast, HN.out, ← HJ.out, HLN.out]
        have x0 := Kd.R_set HO5.out HK5.out kB_61 0 (.bool true)
        have x1 := Kd.R_set x0 y1 kB_61 1 (.int .i64 ep)
        have x2 := Kd.R_set x1 y2 kB_61 2 (.slice A6 nJ c6)
        refine bodyPost_ret (results_ct rfl _ _ g4 61 #[.bool true, .int .i64 ep, .slice A6 nJ c6] (0, 0) (.struct d61) rfl y3 HU61.out rfl (by kernel_rfl)) rfl ?_
        rw [hrp]
        exact ⟨_, rfl, Kd.R_lower x2 HB.out.size, ((HB5.out.setCell (p := ⟨g4, 0, none⟩) hle _).setCell (p := ⟨g4, 1, none⟩) hle _).setCell (p := ⟨g4, 2, none⟩) hle _⟩
      · have HNN : Aside0 (¬ Stands L k) := ⟨fun hs => by
          have h1 := hs.2.2.2.2
          rw [HE.out, HS.out, Int.toNat_natCast, HN.out] at h1
          exact g1 h1⟩
        have hq51 := nz_false hq5
        clear g1 hq5 HCA
        have q0 := blk_cell HK5.out 0
        have q1 := blk_cell HK5.out 1
        have q2 := blk_cell HK5.out 2
        have z0 := blk_frozen HK5.out 0
        have z1 := blk_frozen HK5.out 1
        have z2 := blk_frozen HK5.out 2
        have HNO9 : Aside0 (GivesNo w (.returned (.tuple #[.agg #[.bool false, .int .i64 0, .slice none 0 0], .int .i64 0])) ((((w5.setCell ⟨g4, 0, none⟩ (.bool false)).setCell ⟨g4, 1, none⟩ (.int .i64 0)).setCell ⟨g4, 2, none⟩ (.slice none 0 0))) ∧ (((w5.setCell ⟨g4, 0, none⟩ (.bool false)).setCell ⟨g4, 1, none⟩ (.int .i64 0)).setCell ⟨g4, 2, none⟩ (.slice none 0 0)).heap[g4]? = some (.cells #[.bool false, .int .i64 0, .slice none 0 0] 61 (0, 0))) := ⟨by
          have hle : w.heap.size ≤ g4 := by have := HG4.out; omega
          have h1 := blk_put (cs := #[.bool false, .int .i64 0, .slice none 0 0]) HK5.out 0 (.bool false) rfl
          have h2 := blk_put (cs := #[.bool false, .int .i64 0, .slice none 0 0]) h1 1 (.int .i64 0) rfl
          have h3 := blk_put (cs := #[.bool false, .int .i64 0, .slice none 0 0]) h2 2 (.slice none 0 0) rfl
          exact ⟨⟨rfl, ((HB5.out.setCell (p := ⟨g4, 0, none⟩) hle _).setCell (p := ⟨g4, 1, none⟩) hle _).setCell (p := ⟨g4, 2, none⟩) hle _⟩, h3⟩⟩
        go_wp2
        refine bodyPost_ret (results_ct rfl _ _ g4 61 #[.bool false, .int .i64 0, .slice none 0 0] (0, 0) (.struct d61) rfl (HNO9.out).2 HU61.out rfl (by kernel_rfl)) rfl ?_
        exact GivesNo.to HNN.out _ _ (HNO9.out).1
end
end Go.Proofs.YtenjldfflkinkaaDoor.Sav

namespace Go.Proofs.YtenjldfflkinkaaDoor.Sav
set_option linter.unusedVariables false
set_option linter.unusedSimpArgs false
open Go.RowKit Go.Proofs.YtenjldfflkinkaaDoor.F Go.Proofs.YtenjldfflkinkaaDoorW.PrintWords Go.Proofs.YtenjldfflkinkaaDoorW.PrintLast Go.Proofs.YtenjldfflkinkaaDoorW.PrintMore
theorem kB_64 : ∀ q, q ∈ 5 :: (Kd.int .u8).E → q ≠ 64 := by
  intro q hq
  have : (Kd.int .u8).E = [] := rfl
  rw [this] at hq
  simp at hq
  omega
theorem size61 : (Tryd.prog.info? 61).map (·.size) = some 3 := by kernel_rfl
def GivesSl (p : Nat) (x0 x1 : Slt) (w : World) (en : Ending) (w' : World) : Prop := ∃ q, en = .returned (.tuple #[.pointer (some ⟨q, 0, none⟩), .int .i64 0]) ∧ SlAt w.heap.size w' q p x0 x1 ∧ Below w.heap.size w w'
section
variable {B : Nat} {w : World} {p : Nat} {L : List (List Int)} {st : Bool} {lf : Int}
set_option maxRecDepth 100000 in
set_option maxHeartbeats 8000000 in
theorem Open2_calls (H : Hv w) (h : Dk B w p L [] st lf) (hd : (st && decide (lf = 0)) = false) (hL : L.length = 122) (hLb : ∀ x ∈ L, By x) :
    Calls Tryd.prog 5 #[.pointer (some ⟨p, 0, none⟩), .int .i64 0, .int .i64 60] w (GivesSl p (readP L 0) (readP L 1) w) := by
  have CS := Aside0.mk (Sectors_calls h (by omega))
  rw [hL] at CS
  have HRD := Aside0.mk (fun W (hb : Below w.heap.size w W) (q : Nat) c0 c1 c2 (k : Nat) (hk : k ≤ 1) => read_calls (q := q) (H.below hb) c0 c1 c2 (h.below hb) hd hL hLb hk)
  obtain ⟨⟨s0, e0, b0⟩, hx0⟩ : ∃ x, readP L 0 = x := ⟨_, rfl⟩
  obtain ⟨⟨s1, e1, b1⟩, hx1⟩ : ∃ x, readP L 1 = x := ⟨_, rfl⟩
  have HR0 := Aside0.mk (fun W (hb : Below w.heap.size w W) (q : Nat) c0 c1 c2 => (show Calls Tryd.prog 16 #[.pointer (some ⟨q, 0, none⟩), .int .i64 0] W (GivesSlt ⟨s0, e0, b0⟩ W) from by have := HRD.out W hb q c0 c1 c2 0 (by omega); rw [hx0] at this; exact this))
  have HR1 := Aside0.mk (fun W (hb : Below w.heap.size w W) (q : Nat) c0 c1 c2 => (show Calls Tryd.prog 16 #[.pointer (some ⟨q, 0, none⟩), .int .i64 1] W (GivesSlt ⟨s1, e1, b1⟩ W) from by have := HRD.out W hb q c0 c1 c2 1 (by omega); rw [hx1] at this; exact this))
  rw [hx0, hx1]
  clear H h hd hL hLb hx0 hx1 HRD
  go_enter Tryd.func5, Tryd.ntmps5
  go_wp2_with (go_at_call 15; (with_reducible refine CS.out.mono ?_); rintro e w' ⟨rfl, rfl⟩)
  have kq := World.alloc_heap_new w (.cells #[.pointer (some ⟨p, 0, none⟩), .int .i64 0, .int .i64 60, .bool false, .int .i64 0, .slice none 0 0, .bool false, .int .i64 0, .slice none 0 0] 64)
  have hb1 := below_alloc (Below.refl _ w) (.cells #[.pointer (some ⟨p, 0, none⟩), .int .i64 0, .int .i64 60, .bool false, .int .i64 0, .slice none 0 0, .bool false, .int .i64 0, .slice none 0 0] 64)
  have K0 := Aside0.mk kq
  have HB0 := Aside0.mk hb1
  clear kq hb1
  generalize w.alloc (.cells #[.pointer (some ⟨p, 0, none⟩), .int .i64 0, .int .i64 60, .bool false, .int .i64 0, .slice none 0 0, .bool false, .int .i64 0, .slice none 0 0] 64) = W0 at K0 HB0 ⊢
  obtain ⟨q, hq⟩ : ∃ g, w.heap.size = g := ⟨_, rfl⟩
  rw [show Value.pointer (some ⟨w.heap.size, 0, none⟩) = Value.pointer (some ⟨q, 0, none⟩) from by rw [hq]]
  rw [hq] at K0
  have HQ := Aside0.mk (show w.heap.size ≤ q by omega)
  clear hq
  refine wp_loop_rounds 3 ?_
  rw [rounds_succ]
  have CR0 := Aside0.mk (HR0.out _ HB0.out q (blk_cell K0.out 0) (blk_cell K0.out 1) (blk_cell K0.out 2))
  go_upto_region 13 with (go_at_call 16; (with_reducible refine CR0.out.mono ?_); rintro e wr ⟨vr, rfl, hor, hbr⟩; obtain ⟨A0, c0, rfl⟩ := Kd.R_slice hor; have HOR := Aside0.mk (Kd.R_lower hor HB0.out.size); have HBR := Aside0.mk (below_step HB0.out hbr); have HKR := Aside0.mk (blk_below K0.out hbr); clear hor hbr)
  obtain ⟨n0, hn0⟩ : ∃ n, b0.length = n := ⟨_, rfl⟩
  try dsimp only at HOR
  try dsimp only
  rw [hn0] at HOR ⊢
  have hbx := below_alloc (Below.refl _ wr) (.cells #[.bool s0, .int .i64 e0, .slice A0 n0 c0] 61)
  have kx := World.alloc_heap_new wr (.cells #[.bool s0, .int .i64 e0, .slice A0 n0 c0] 61)
  have KX := Aside0.mk kx
  have HOX := Aside0.mk (Kd.R_below HOR.out hbx)
  have HBX := Aside0.mk (below_step HBR.out hbx)
  have HKX := Aside0.mk (blk_below HKR.out hbx)
  clear kx hbx HOR HBR HKR hn0
  generalize wr.alloc (.cells #[.bool s0, .int .i64 e0, .slice A0 n0 c0] 61) = WX at KX HOX HBX HKX ⊢
  generalize wr.heap.size = gx at KX ⊢
  refine start_ (n := 7) (S := fun w' => w'.heap[gx]? = some (.cells #[.bool s0, .int .i64 e0, .slice A0 n0 c0] 61 (0, 0))) (ds := [6]) #[false, false, false, false, false, false, false] (by kernel_rfl) rfl rfl KX.out (fun hHeld => ?_)
  have HOD := Aside0.mk (Kd.R_drew HOX.out)
  have HBD := Aside0.mk (below_drew HBX.out)
  have HKD : Aside0 (WX.drew.heap[q]? = some (.cells #[.pointer (some ⟨p, 0, none⟩), .int .i64 0, .int .i64 60, .bool false, .int .i64 0, .slice none 0 0, .bool false, .int .i64 0, .slice none 0 0] 64 (0, 0))) := HKX
  generalize WX.drew = D at HOD HBD HKD hHeld ⊢
  refine pure_ (i := 0) (N := some 60) (v := ?_) (a' := ?_) #[true, false, false, false, false, false, false] rfl rfl (by kernel_rfl) (fun _ _ _ h => h) (Or.inl ⟨by rfl, ?_⟩) ?_ ?_
  rotate_left
  · intro w'
    go_simp
    with_reducible rfl
  rotate_left
  · simp only [Act.put, List.setIfInBounds_toArray, List.set_cons_zero, List.set_cons_succ, i64_w, i32_w]
    rfl
  refine pure_ (i := 1) (N := some 61) (v := ?_) (a' := ?_) #[true, true, false, false, false, false, false] rfl rfl (by kernel_rfl) (fun _ _ _ h => h) (Or.inl ⟨by rfl, ?_⟩) ?_ ?_
  rotate_left
  · intro w'
    go_simp
    with_reducible rfl
  rotate_left
  · simp only [Act.put, List.setIfInBounds_toArray, List.set_cons_zero, List.set_cons_succ, i64_w, i32_w]
    rfl
  refine take_ (i := 2) (N := some 62) (v := ?_) (a' := ?_) #[true, true, true, false, false, false, false] rfl rfl (by kernel_rfl) (fun _ _ _ h => h) (Or.inl ⟨by rfl, ?_⟩) hHeld ?_ ?_
  rotate_left
  · rintro w' hx
    have c0_ := blk_cell hx 0
    have c1_ := blk_cell hx 1
    have c2_ := blk_cell hx 2
    go_simp
    with_reducible rfl
  rotate_left
  · simp only [Act.put, List.setIfInBounds_toArray, List.set_cons_zero, List.set_cons_succ, i64_w, i32_w]
    rfl
  refine pure_ (i := 3) (N := some 63) (v := ?_) (a' := ?_) #[true, true, true, true, false, false, false] rfl rfl (by kernel_rfl) (fun _ _ _ h => h) (Or.inl ⟨by rfl, ?_⟩) ?_ ?_
  rotate_left
  · intro w'
    go_simp
    with_reducible rfl
  rotate_left
  · simp only [Act.put, List.setIfInBounds_toArray, List.set_cons_zero, List.set_cons_succ, i64_w, i32_w]
    rfl
  refine pure_ (i := 4) (N := some 64) (v := ?_) (a' := ?_) #[true, true, true, true, true, false, false] rfl rfl (by kernel_rfl) (fun _ _ _ h => h) (Or.inl ⟨by rfl, ?_⟩) ?_ ?_
  rotate_left
  · intro w'
    go_simp
    with_reducible rfl
  rotate_left
  · simp only [Act.put, List.setIfInBounds_toArray, List.set_cons_zero, List.set_cons_succ, i64_w, i32_w]
    rfl
  refine pure_ (i := 5) (N := some 65) (v := ?_) (a' := ?_) #[true, true, true, true, true, true, false] rfl rfl (by kernel_rfl) (fun _ _ _ h => h) (Or.inl ⟨by rfl, ?_⟩) ?_ ?_
  rotate_left
  · intro w'
    go_simp
    with_reducible rfl
  rotate_left
  · simp only [Act.put, List.setIfInBounds_toArray, List.set_cons_zero, List.set_cons_succ, i64_w, i32_w]
    rfl
  refine last_ (i := 6) (N := none) #[true, true, true, true, true, true, true] rfl rfl (by kernel_rfl) (by decide) (fun K hK => ?_)
  refine step_store rfl rfl rfl rfl rfl (run_store_run 61 (.agg #[.bool s0, .int .i64 e0, .slice A0 n0 c0]) [.bool s0, .int .i64 e0, .slice A0 n0 c0] HKD.out rfl size61 (by simp) (fun v hv => by
    simp only [List.mem_cons, List.not_mem_nil, or_false] at hv
    rcases hv with rfl | rfl | rfl <;> rfl)) ?_
  refine hK.out _ _ ?_
  clear hK K
  refine done_ (by kernel_rfl) ?_
  have es : D.setCells q 3 [.bool s0, .int .i64 e0, .slice A0 n0 c0] = ((D.setCell ⟨q, 3, none⟩ (.bool s0)).setCell ⟨q, 4, none⟩ (.int .i64 e0)).setCell ⟨q, 5, none⟩ (.slice A0 n0 c0) := rfl
  rw [es]
  have y1 := blk_put (cs := #[.pointer (some ⟨p, 0, none⟩), .int .i64 0, .int .i64 60, .bool false, .int .i64 0, .slice none 0 0, .bool false, .int .i64 0, .slice none 0 0]) HKD.out 3 (.bool s0) rfl
  have y2 := blk_put (cs := #[.pointer (some ⟨p, 0, none⟩), .int .i64 0, .int .i64 60, .bool s0, .int .i64 0, .slice none 0 0, .bool false, .int .i64 0, .slice none 0 0]) y1 4 (.int .i64 e0) rfl
  have y3 := blk_put (cs := #[.pointer (some ⟨p, 0, none⟩), .int .i64 0, .int .i64 60, .bool s0, .int .i64 e0, .slice none 0 0, .bool false, .int .i64 0, .slice none 0 0]) y2 5 (.slice A0 n0 c0) rfl
  have x1 := Kd.R_set (Kd.R_set (Kd.R_set HOD.out HKD.out kB_64 3 (.bool s0)) y1 kB_64 4 (.int .i64 e0)) y2 kB_64 5 (.slice A0 n0 c0)
  have hbk := ((HBD.out.setCell (p := ⟨q, 3, none⟩) HQ.out (.bool s0)).setCell (p := ⟨q, 4, none⟩) HQ.out (.int .i64 e0)).setCell (p := ⟨q, 5, none⟩) HQ.out (.slice A0 n0 c0)
  have K1 := Aside0.mk y3
  have HB1 := Aside0.mk hbk
  have HV := Aside0.mk x1
  clear es y1 y2 y3 x1 hbk hHeld KX HOX HBX HKX HOD HBD HKD 
  generalize ((D.setCell ⟨q, 3, none⟩ (.bool s0)).setCell ⟨q, 4, none⟩ (.int .i64 e0)).setCell ⟨q, 5, none⟩ (.slice A0 n0 c0) = W1 at K1 HB1 HV ⊢
  go_wp2
  rw [rounds_succ]
  have CR1 := Aside0.mk (HR1.out _ HB1.out q (blk_cell K1.out 0) (blk_cell K1.out 1) (blk_cell K1.out 2))
  go_upto_region 13 with (go_at_call 16; (with_reducible refine CR1.out.mono ?_); rintro e wr ⟨vr, rfl, hor, hbr⟩; obtain ⟨A1, c1, rfl⟩ := Kd.R_slice hor; have HOR := Aside0.mk (Kd.R_lower hor HB1.out.size); have HBR := Aside0.mk (below_step HB1.out hbr); have HKR := Aside0.mk (blk_below K1.out hbr); have HV0 := Aside0.mk (Kd.R_below HV.out hbr); clear hor hbr)
  obtain ⟨n1, hn1⟩ : ∃ n, b1.length = n := ⟨_, rfl⟩
  try dsimp only at HOR
  try dsimp only
  rw [hn1] at HOR ⊢
  have hbx := below_alloc (Below.refl _ wr) (.cells #[.bool s1, .int .i64 e1, .slice A1 n1 c1] 61)
  have kx := World.alloc_heap_new wr (.cells #[.bool s1, .int .i64 e1, .slice A1 n1 c1] 61)
  have KX := Aside0.mk kx
  have HOX := Aside0.mk (Kd.R_below HOR.out hbx)
  have HBX := Aside0.mk (below_step HBR.out hbx)
  have HKX := Aside0.mk (blk_below HKR.out hbx)
  have HVX := Aside0.mk (Kd.R_below HV0.out hbx)
  clear kx hbx HOR HBR HKR hn1
  generalize wr.alloc (.cells #[.bool s1, .int .i64 e1, .slice A1 n1 c1] 61) = WX at KX HOX HBX HKX HVX ⊢
  generalize wr.heap.size = gx at KX ⊢
  refine start_ (n := 7) (S := fun w' => w'.heap[gx]? = some (.cells #[.bool s1, .int .i64 e1, .slice A1 n1 c1] 61 (0, 0))) (ds := [6]) #[false, false, false, false, false, false, false] (by kernel_rfl) rfl rfl KX.out (fun hHeld => ?_)
  have HOD := Aside0.mk (Kd.R_drew HOX.out)
  have HBD := Aside0.mk (below_drew HBX.out)
  have HKD : Aside0 (WX.drew.heap[q]? = some (.cells #[.pointer (some ⟨p, 0, none⟩), .int .i64 0, .int .i64 60, .bool s0, .int .i64 e0, .slice A0 n0 c0, .bool false, .int .i64 0, .slice none 0 0] 64 (0, 0))) := HKX
  have HVD := Aside0.mk (Kd.R_drew HVX.out)
  generalize WX.drew = D at HOD HBD HKD HVD hHeld ⊢
  refine pure_ (i := 0) (N := some 60) (v := ?_) (a' := ?_) #[true, false, false, false, false, false, false] rfl rfl (by kernel_rfl) (fun _ _ _ h => h) (Or.inl ⟨by rfl, ?_⟩) ?_ ?_
  rotate_left
  · intro w'
    go_simp
    with_reducible rfl
  rotate_left
  · simp only [Act.put, List.setIfInBounds_toArray, List.set_cons_zero, List.set_cons_succ, i64_w, i32_w]
    rfl
  refine pure_ (i := 1) (N := some 61) (v := ?_) (a' := ?_) #[true, true, false, false, false, false, false] rfl rfl (by kernel_rfl) (fun _ _ _ h => h) (Or.inl ⟨by rfl, ?_⟩) ?_ ?_
  rotate_left
  · intro w'
    go_simp
    with_reducible rfl
  rotate_left
  · simp only [Act.put, List.setIfInBounds_toArray, List.set_cons_zero, List.set_cons_succ, i64_w, i32_w]
    rfl
  refine take_ (i := 2) (N := some 62) (v := ?_) (a' := ?_) #[true, true, true, false, false, false, false] rfl rfl (by kernel_rfl) (fun _ _ _ h => h) (Or.inl ⟨by rfl, ?_⟩) hHeld ?_ ?_
  rotate_left
  · rintro w' hx
    have c0_ := blk_cell hx 0
    have c1_ := blk_cell hx 1
    have c2_ := blk_cell hx 2
    go_simp
    with_reducible rfl
  rotate_left
  · simp only [Act.put, List.setIfInBounds_toArray, List.set_cons_zero, List.set_cons_succ, i64_w, i32_w]
    rfl
  refine pure_ (i := 3) (N := some 63) (v := ?_) (a' := ?_) #[true, true, true, true, false, false, false] rfl rfl (by kernel_rfl) (fun _ _ _ h => h) (Or.inl ⟨by rfl, ?_⟩) ?_ ?_
  rotate_left
  · intro w'
    go_simp
    with_reducible rfl
  rotate_left
  · simp only [Act.put, List.setIfInBounds_toArray, List.set_cons_zero, List.set_cons_succ, i64_w, i32_w]
    rfl
  refine pure_ (i := 4) (N := some 64) (v := ?_) (a' := ?_) #[true, true, true, true, true, false, false] rfl rfl (by kernel_rfl) (fun _ _ _ h => h) (Or.inl ⟨by rfl, ?_⟩) ?_ ?_
  rotate_left
  · intro w'
    go_simp
    with_reducible rfl
  rotate_left
  · simp only [Act.put, List.setIfInBounds_toArray, List.set_cons_zero, List.set_cons_succ, i64_w, i32_w]
    rfl
  refine pure_ (i := 5) (N := some 65) (v := ?_) (a' := ?_) #[true, true, true, true, true, true, false] rfl rfl (by kernel_rfl) (fun _ _ _ h => h) (Or.inl ⟨by rfl, ?_⟩) ?_ ?_
  rotate_left
  · intro w'
    go_simp
    with_reducible rfl
  rotate_left
  · simp only [Act.put, List.setIfInBounds_toArray, List.set_cons_zero, List.set_cons_succ, i64_w, i32_w]
    rfl
  refine last_ (i := 6) (N := none) #[true, true, true, true, true, true, true] rfl rfl (by kernel_rfl) (by decide) (fun K hK => ?_)
  refine step_store rfl rfl rfl rfl rfl (run_store_run 61 (.agg #[.bool s1, .int .i64 e1, .slice A1 n1 c1]) [.bool s1, .int .i64 e1, .slice A1 n1 c1] HKD.out rfl size61 (by simp) (fun v hv => by
    simp only [List.mem_cons, List.not_mem_nil, or_false] at hv
    rcases hv with rfl | rfl | rfl <;> rfl)) ?_
  refine hK.out _ _ ?_
  clear hK K
  refine done_ (by kernel_rfl) ?_
  have es : D.setCells q 6 [.bool s1, .int .i64 e1, .slice A1 n1 c1] = ((D.setCell ⟨q, 6, none⟩ (.bool s1)).setCell ⟨q, 7, none⟩ (.int .i64 e1)).setCell ⟨q, 8, none⟩ (.slice A1 n1 c1) := rfl
  rw [es]
  have y1 := blk_put (cs := #[.pointer (some ⟨p, 0, none⟩), .int .i64 0, .int .i64 60, .bool s0, .int .i64 e0, .slice A0 n0 c0, .bool false, .int .i64 0, .slice none 0 0]) HKD.out 6 (.bool s1) rfl
  have y2 := blk_put (cs := #[.pointer (some ⟨p, 0, none⟩), .int .i64 0, .int .i64 60, .bool s0, .int .i64 e0, .slice A0 n0 c0, .bool s1, .int .i64 0, .slice none 0 0]) y1 7 (.int .i64 e1) rfl
  have y3 := blk_put (cs := #[.pointer (some ⟨p, 0, none⟩), .int .i64 0, .int .i64 60, .bool s0, .int .i64 e0, .slice A0 n0 c0, .bool s1, .int .i64 e1, .slice none 0 0]) y2 8 (.slice A1 n1 c1) rfl
  have x1 := Kd.R_set (Kd.R_set (Kd.R_set HOD.out HKD.out kB_64 6 (.bool s1)) y1 kB_64 7 (.int .i64 e1)) y2 kB_64 8 (.slice A1 n1 c1)
  have x2 := Kd.R_set (Kd.R_set (Kd.R_set HVD.out HKD.out kB_64 6 (.bool s1)) y1 kB_64 7 (.int .i64 e1)) y2 kB_64 8 (.slice A1 n1 c1)
  have hbk := ((HBD.out.setCell (p := ⟨q, 6, none⟩) HQ.out (.bool s1)).setCell (p := ⟨q, 7, none⟩) HQ.out (.int .i64 e1)).setCell (p := ⟨q, 8, none⟩) HQ.out (.slice A1 n1 c1)
  have K2 := Aside0.mk y3
  have HB2 := Aside0.mk hbk
  have HV1 := Aside0.mk x1
  have HVV := Aside0.mk x2
  clear es y1 y2 y3 x1 hbk hHeld KX HOX HBX HKX HOD HBD HKD HVX HVD HV0 x2
  generalize ((D.setCell ⟨q, 6, none⟩ (.bool s1)).setCell ⟨q, 7, none⟩ (.int .i64 e1)).setCell ⟨q, 8, none⟩ (.slice A1 n1 c1) = W2 at K2 HB2 HV1 HVV ⊢
  go_wp2
  rw [rounds_succ]
  go_wp2
  go_ret2
  exact ⟨q, rfl, ⟨HQ.out, _, _, K2.out, HVV.out, HV1.out⟩, HB2.out⟩
end
end Go.Proofs.YtenjldfflkinkaaDoor.Sav

namespace Go.Proofs.YtenjldfflkinkaaDoor.Sav
set_option linter.unusedVariables false
set_option linter.unusedSimpArgs false
open Go.RowKit Go.Proofs.YtenjldfflkinkaaDoor.F Go.Proofs.YtenjldfflkinkaaDoorW.PrintWords Go.Proofs.YtenjldfflkinkaaDoorW.PrintLast Go.Proofs.YtenjldfflkinkaaDoorW.PrintMore
/-- a save under way: the error, the sectors, what waits, what is left -/
structure D4 where
  e : Int
  L : List (List Int)
  ws : List (Int × List Int)
  lf : Int
def wD (st : Bool) (s : D4) (n : Nat) (b : List Int) : D4 := if s.e = 0 then (if (st && decide (s.lf = 0)) = true then ⟨170, s.L, s.ws, s.lf⟩ else ⟨0, s.L, s.ws ++ [((n : Int), b)], if st = true then s.lf - 1 else s.lf⟩) else s
def fD (st : Bool) (s : D4) : D4 := if s.e = 0 then (if (st && decide (s.lf = 0)) = true then ⟨170, s.L, s.ws, s.lf⟩ else ⟨0, flushL s.L s.ws, [], if st = true then s.lf - 1 else s.lf⟩) else s
structure DOk (st : Bool) (s : D4) (m : Nat) : Prop where
  len : s.L.length = 122
  wl : s.ws.length ≤ m
  ws : ∀ x ∈ s.ws, 0 ≤ x.1 ∧ x.1 < 122 ∧ x.2.length = 64
  lf : 0 ≤ s.lf ∧ s.lf ≤ 1000
theorem DOk.wD {st : Bool} {s : D4} {m n : Nat} {b : List Int} (h : DOk st s m) (hn : n < 122) (hb : b.length = 64) : DOk st (wD st s n b) (m + 1) := by
  unfold Sav.wD
  have h2 := h.wl
  have h4 := h.lf
  have hw : ∀ x ∈ s.ws ++ [((n : Int), b)], 0 ≤ x.1 ∧ x.1 < 122 ∧ x.2.length = 64 := fun x hx => by
    rcases List.mem_append.1 hx with hx | hx
    · exact h.ws x hx
    · rw [List.mem_singleton.1 hx]
      refine ⟨?_, ?_, hb⟩ <;> dsimp only <;> omega
  split
  · split
    · exact ⟨h.len, by dsimp only; omega, h.ws, h4⟩
    · rename_i hd
      refine ⟨h.len, by simp; omega, hw, ?_⟩
      cases st with
      | false => exact h4
      | true =>
        have : ¬ s.lf = 0 := fun e => hd (by simp [e])
        simp
        omega
  · exact ⟨h.len, by omega, h.ws, h4⟩
theorem DOk.fD {st : Bool} {s : D4} {m : Nat} (h : DOk st s m) : DOk st (fD st s) m := by
  unfold Sav.fD
  have h2 := h.wl
  have h4 := h.lf
  split
  · split
    · exact ⟨h.len, by dsimp only; omega, h.ws, h4⟩
    · rename_i hd
      refine ⟨by dsimp only; rw [flushL_len]; exact h.len, by simp, by simp, ?_⟩
      cases st with
      | false => exact h4
      | true =>
        have : ¬ s.lf = 0 := fun e => hd (by simp [e])
        simp
        omega
  · exact ⟨h.len, by omega, h.ws, h4⟩
/-- all is kept but blocks of these types from B on, those of X, and what is new -/
structure Mx (B : Nat) (T X : List Nat) (w w' : World) : Prop where
  os : w'.os = w.os
  tape : w'.tape = w.tape
  output : w'.output = w.output
  size : w.heap.size ≤ w'.heap.size
  block : ∀ k, k < w.heap.size → ¬ (B ≤ k ∧ Ty w T k) → k ∉ X → w'.heap[k]? = w.heap[k]?
theorem Mx.of_mv {B : Nat} {T X : List Nat} {w w' : World} (h : Mv B T w w') : Mx B T X w w' := ⟨h.os, h.tape, h.output, h.size, fun k hk hn _ => h.block k hk hn⟩
theorem Mx.refl (B : Nat) (T X : List Nat) (w : World) : Mx B T X w w := .of_mv (.refl ..)
theorem Mx.trans {B : Nat} {T X : List Nat} {a b c : World} (h : Mx B T X a b) (k : Mx B T X b c) : Mx B T X a c :=
  ⟨k.os.trans h.os, k.tape.trans h.tape, k.output.trans h.output, Nat.le_trans h.size k.size, fun i hi hn hx => by
    have h1 := h.block i hi hn hx
    refine (k.block i (Nat.lt_of_lt_of_le hi h.size) (fun hk => hn ⟨hk.1, ?_⟩) hx).trans h1
    obtain ⟨cs, t, ht, hc⟩ := hk.2
    exact ⟨cs, t, ht, h1 ▸ hc⟩⟩
theorem Mx.setCell {B : Nat} {T X : List Nat} {w w' : World} (h : Mx B T X w w') {g i : Nat} (hg : g ∈ X) (u : Value) : Mx B T X w (w'.setCell ⟨g, i, none⟩ u) :=
  h.trans ⟨rfl, rfl, rfl, by simp [World.setCell], fun k hk hn hx => Below.heap_setCell _ _ _ _ (fun e => hx (by rw [e]; exact hg))⟩
/-- what is new in a function's own time may turn -/
theorem Mv.mx {B : Nat} {T X : List Nat} {w W W' : World} (h : Mv B T w W) (k : Mx B T X W W') (hX : ∀ g ∈ X, w.heap.size ≤ g) : Mv B T w W' :=
  ⟨k.os.trans h.os, k.tape.trans h.tape, k.output.trans h.output, Nat.le_trans h.size k.size, fun i hi hn => by
    have h1 := h.block i hi hn
    refine (k.block i (Nat.lt_of_lt_of_le hi h.size) (fun hk => hn ⟨hk.1, ?_⟩) (fun hx => by have := hX i hx; omega)).trans h1
    obtain ⟨cs, t, ht, hc⟩ := hk.2
    exact ⟨cs, t, ht, h1 ▸ hc⟩⟩
/-- with the types of X's blocks: all of other types is kept -/
theorem Mx.mv {B : Nat} {T X T' : List Nat} {w w' : World} (h : Mx B T X w w') (hX : ∀ g ∈ X, B ≤ g ∧ Ty w T' g) : Mv B (T ++ T') w w' :=
  ⟨h.os, h.tape, h.output, h.size, fun k hk hn => h.block k hk (fun hx => hn ⟨hx.1, hx.2.sub (fun t ht => List.mem_append.2 (Or.inl ht))⟩) (fun hx => hn ⟨(hX k hx).1, (hX k hx).2.sub (fun t ht => List.mem_append.2 (Or.inr ht))⟩)⟩
theorem Mx.blk {B : Nat} {T X : List Nat} {w w' : World} (h : Mx B T X w w') {g : Nat} {cs : Array Value} {t : Nat} (hg : w.heap[g]? = some (.cells cs t (0, 0))) (ht : t ∉ T) (hx : g ∉ X) : w'.heap[g]? = some (.cells cs t (0, 0)) := by
  refine (h.block g (blk_lt hg) (fun hx => ?_) hx).trans hg
  obtain ⟨cs', t', ht', hc⟩ := hx.2
  rw [hg] at hc
  injection hc with hc
  injection hc with _ hc _
  exact ht (hc ▸ ht')
theorem size25 : (Tryd.prog.info? 25).map (·.size) = some 1 := by kernel_rfl
theorem Dk.set {B : Nat} {W : World} {p : Nat} {L : List (List Int)} {Ws : List (Int × List Int)} {st : Bool} {lf : Int} (h : Dk B W p L Ws st lf) {g i : Nat} {cs : Array Value} {t : Nat} (hg : W.heap[g]? = some (.cells cs t (0, 0))) (ht : t ∉ DT) (u : Value) : Dk B (W.setCell ⟨g, i, none⟩ u) p L Ws st lf := by
  obtain ⟨h0, vl, vw, stp, h1, h2, h3⟩ := h
  have hpg : p ≠ g := fun e => ht (by
    subst e
    rw [h1] at hg
    injection hg with hg
    injection hg with _ hg _
    exact hg ▸ (by decide))
  refine ⟨h0, vl, vw, stp, (Below.heap_setCell _ _ _ _ hpg).trans h1, Kd.R_set h2 hg ?_ i u, Kd.R_set h3 hg ?_ i u⟩
  · intro q hq e
    have := kS_E1 (T := [t]) (by intro hh; rw [List.mem_singleton] at hh; exact ht (hh ▸ by decide)) q hq
    exact this (by rw [e]; simp)
  · intro q hq e
    subst e
    exact ht (by
      have hE : kW.E = [] := rfl
      rw [hE] at hq
      rw [List.mem_singleton.1 hq]
      decide)
/-- what a closure of Save gives -/
def GivesD (B p ge : Nat) (X : List Nat) (st : Bool) (s' : D4) (W : World) (en : Ending) (W' : World) : Prop := en = .returned (.tuple #[]) ∧ Dk B W' p s'.L s'.ws st s'.lf ∧ W'.heap[ge]? = some (.cells #[.int .i64 s'.e] 25 (0, 0)) ∧ Mx B DT X W W'
section
variable {B : Nat} {w : World} {p q gs ge ga : Nat} {s : D4} {st : Bool}
set_option maxRecDepth 100000 in
set_option maxHeartbeats 8000000 in
theorem Save2_calls {m : Nat} (h : Dk B w p s.L s.ws st s.lf) (hok : DOk st s m) (hm : m ≤ 1000) (c0 : w.cell? ⟨q, 0, none⟩ = some (.pointer (some ⟨p, 0, none⟩))) (kg : w.heap[gs]? = some (.cells #[.pointer (some ⟨q, 0, none⟩)] 28 (0, 0))) (ke : w.heap[ge]? = some (.cells #[.int .i64 s.e] 25 (0, 0))) :
    Calls Tryd.prog 36 #[.pointer (some ⟨ge, 0, none⟩), .pointer (some ⟨gs, 0, none⟩)] w (GivesD B p ge [ge] st (fD st s) w) := by
  obtain ⟨e, L, ws, lf⟩ := s
  have h1 := hok.len
  have h2 := hok.wl
  have h3 := hok.ws
  have h4 := hok.lf
  dsimp only at h h1 h2 h3 h4 ke
  have cs := blk_cell kg 0
  have ce := blk_cell ke 0
  simp only [List.getElem?_toArray, List.getElem?_cons_zero] at cs ce
  unfold fD
  dsimp only
  by_cases he : e = 0
  · subst he
    rw [if_pos rfl]
    cases hd : (st && decide (lf = 0)) with
    | true =>
      rw [if_pos rfl]
      simp only [Bool.and_eq_true, decide_eq_true_eq] at hd
      obtain ⟨rfl, rfl⟩ := hd
      have CF := Aside0.mk (Flush_down h (by omega) (by omega))
      have HD := Aside0.mk h
      have KE := Aside0.mk ke
      clear h h1 h2 h3 h4 hok kg ke
      go_enter Tryd.func36, Tryd.ntmps36
      go_wp2_with (go_at_call 37; (with_reducible refine CF.out.mono ?_); rintro e w1 ⟨rfl, hb⟩; have HD1 := Aside0.mk (HD.out.below hb); have KE1 := Aside0.mk (blk_below KE.out hb); have HM1 := Aside0.mk (Mx.of_mv (B := B) (T := DT) (X := [ge]) (Mv.of_below hb)); have fe1 := blk_frozen KE1.out 0; have ce1 := blk_cell KE1.out 0; simp only [List.getElem?_toArray, List.getElem?_cons_zero] at ce1; clear ce hb)
      go_end0
      exact ⟨rfl, HD1.out.set KE1.out (by decide) _, blk_put KE1.out 0 _ rfl, HM1.out.setCell (by simp) _⟩
    | false =>
      rw [if_neg (by simp)]
      have CF := Aside0.mk (Flush_calls h hd (by omega) (by omega) (by omega) (by omega) (fun x hx => by rw [h1]; exact h3 x hx))
      have KE := Aside0.mk ke
      obtain ⟨lf', hlf'⟩ : ∃ x, (if st = true then lf - 1 else lf) = x := ⟨_, rfl⟩
      rw [hlf'] at CF ⊢
      clear h h1 h2 h3 h4 hok kg ke hlf'
      go_enter Tryd.func36, Tryd.ntmps36
      go_wp2_with (go_at_call 37; (with_reducible refine CF.out.mono ?_); rintro e w1 ⟨rfl, hd1, hb⟩; have HD1 := Aside0.mk hd1; have KE1 := Aside0.mk (hb.blk KE.out (by decide)); have HM1 := Aside0.mk (Mx.of_mv (B := B) (T := DT) (X := [ge]) hb); have fe1 := blk_frozen KE1.out 0; have ce1 := blk_cell KE1.out 0; simp only [List.getElem?_toArray, List.getElem?_cons_zero] at ce1; clear ce hb hd1)
      go_end0
      exact ⟨rfl, HD1.out.set KE1.out (by decide) _, blk_put KE1.out 0 _ rfl, HM1.out.setCell (by simp) _⟩
  · rw [if_neg he]
    have HD := Aside0.mk h
    have KE := Aside0.mk ke
    clear h h1 h2 h3 h4 hok kg ke c0
    go_enter Tryd.func36, Tryd.ntmps36
    go_wp2
    go_end0
    exact ⟨rfl, HD.out, KE.out, Mx.refl ..⟩
set_option maxRecDepth 100000 in
set_option maxHeartbeats 8000000 in
theorem Save1_calls {m n : Nat} {A : Option Addr} {c base : Nat} {ok : Nat → Prop} {b : List Int} (h : Dk B w p s.L s.ws st s.lf) (hok : DOk st s m) (hm : m ≤ 900) (hn : n < 122) (c0 : w.cell? ⟨q, 0, none⟩ = some (.pointer (some ⟨p, 0, none⟩))) (kg : w.heap[gs]? = some (.cells #[.pointer (some ⟨q, 0, none⟩)] 28 (0, 0))) (ke : w.heap[ge]? = some (.cells #[.int .i64 s.e] 25 (0, 0))) (ka : w.heap[ga]? = some (.cells #[.int .i64 (n : Int)] 3 (0, 0))) (hb : Kd.R (Kd.int .u8) 5 w base ok (.slice A 64 c) b) :
    Calls Tryd.prog 34 #[.slice A 64 c, .pointer (some ⟨ge, 0, none⟩), .pointer (some ⟨gs, 0, none⟩), .pointer (some ⟨ga, 0, none⟩)] w (fun e w' => GivesD B p ge [ge, ga] st (wD st s n b) w e w' ∧ w'.heap[ga]? = some (.cells #[.int .i64 (if s.e = 0 then (n : Int) + 1 else (n : Int))] 3 (0, 0))) := by
  obtain ⟨e, L, ws, lf⟩ := s
  have h1 := hok.len
  have h2 := hok.wl
  have h3 := hok.ws
  have h4 := hok.lf
  dsimp only at h h1 h2 h3 h4 ke
  have cs := blk_cell kg 0
  have ce := blk_cell ke 0
  have ca := blk_cell ka 0
  simp only [List.getElem?_toArray, List.getElem?_cons_zero] at cs ce ca
  unfold wD
  dsimp only
  have hae : ga ≠ ge := fun hh => by
    subst hh
    rw [ka] at ke
    injection ke with ke
    injection ke with _ ke _
    exact absurd ke (by decide)
  by_cases he : e = 0
  · subst he
    rw [if_pos rfl, if_pos rfl]
    have CW : Aside0 (∀ W, W = w.drew → Calls Tryd.prog 35 #[.pointer (some ⟨p, 0, none⟩), .int .i64 (n : Int), .slice A 64 c] W fun e W' => ∃ s' : D4, s' = (if (st && decide (lf = 0)) = true then ⟨170, L, ws, lf⟩ else ⟨0, L, ws ++ [((n : Int), b)], if st = true then lf - 1 else lf⟩) ∧ e = .returned (.int .i64 s'.e) ∧ Dk B W' p s'.L s'.ws st s'.lf ∧ Mv B DT W W') := ⟨by
      rintro W rfl
      have hdd : Dk B w.drew p L ws st lf := by
        obtain ⟨g0, vl, vw, stp, g1, g2, g3⟩ := h
        exact ⟨g0, vl, vw, stp, g1, Kd.R_drew g2, Kd.R_drew g3⟩
      cases hd : (st && decide (lf = 0)) with
      | true =>
        simp only [Bool.and_eq_true, decide_eq_true_eq] at hd
        obtain ⟨rfl, rfl⟩ := hd
        refine (Write_down hdd (by omega) (by omega)).mono ?_
        rintro e w' ⟨rfl, rfl⟩
        exact ⟨_, rfl, rfl, hdd, .refl ..⟩
      | false =>
        refine (Write_calls hdd hd (by omega) (by omega) (by omega) (Kd.R_drew hb) (by omega)).mono ?_
        rintro e w' ⟨rfl, h5, h6⟩
        exact ⟨_, rfl, rfl, h5, h6⟩⟩
    obtain ⟨S', hS'⟩ : ∃ S', (if (st && decide (lf = 0)) = true then (⟨170, L, ws, lf⟩ : D4) else ⟨0, L, ws ++ [((n : Int), b)], if st = true then lf - 1 else lf⟩) = S' := ⟨_, rfl⟩
    rw [hS'] at CW ⊢
    obtain ⟨e', L', ws', lf'⟩ := S'
    try dsimp only
    have hw1 : IntKind.i64.wrap ((n : Int) + 1) = (n : Int) + 1 := by rw [IntKind.wrap_i64]; omega
    have HC := Aside0.mk (⟨by rw [World.cell?_drew]; exact cs, by rw [World.cell?_drew]; exact c0, by rw [World.cell?_drew]; exact ca⟩ : w.drew.cell? ⟨gs, 0, none⟩ = some (.pointer (some ⟨q, 0, none⟩)) ∧ w.drew.cell? ⟨q, 0, none⟩ = some (.pointer (some ⟨p, 0, none⟩)) ∧ w.drew.cell? ⟨ga, 0, none⟩ = some (.int .i64 (n : Int)))
    have KE := Aside0.mk ke
    have KA := Aside0.mk ka
    have HAE := Aside0.mk hae
    clear h h1 h2 h3 h4 hok kg ke ka hS' hb c0 hae cs ca
    go_enter Tryd.func34, Tryd.ntmps34
    go_upto_region 1 with (fail)
    clear ce
    refine start_ (n := 8) (S := fun w' => w'.cell? ⟨gs, 0, none⟩ = some (.pointer (some ⟨q, 0, none⟩)) ∧ w'.cell? ⟨q, 0, none⟩ = some (.pointer (some ⟨p, 0, none⟩)) ∧ w'.cell? ⟨ga, 0, none⟩ = some (.int .i64 (n : Int))) (ds := [6, 7]) #[false, false, false, false, false, false, false, false] (by kernel_rfl) rfl rfl HC.out (fun hHeld => ?_)
    have KEd : Aside0 (w.drew.heap[ge]? = some (.cells #[.int .i64 0] 25 (0, 0))) := KE
    have KAd : Aside0 (w.drew.heap[ga]? = some (.cells #[.int .i64 (n : Int)] 3 (0, 0))) := KA
    have CW' := Aside0.mk (CW.out _ rfl)
    have HM0 : Aside0 (Mx B DT [ge, ga] w w.drew) := ⟨.of_mv (Mv.refl B DT w).drew⟩
    generalize w.drew = D at KEd KAd CW' HM0 hHeld ⊢
    refine take_ (i := 0) (N := some 7) (v := ?_) (a' := ?_) #[true, false, false, false, false, false, false, false] rfl rfl (by kernel_rfl) (fun _ _ _ h => h) (Or.inl ⟨by rfl, ?_⟩) hHeld ?_ ?_
    rotate_left
    · rintro w' ⟨c1, _, _⟩
      go_simp
      with_reducible rfl
    rotate_left
    · simp only [Act.put, List.setIfInBounds_toArray, List.set_cons_zero, List.set_cons_succ, i64_w, i32_w]
      rfl
    refine pure_ (i := 1) (N := some 8) (v := ?_) (a' := ?_) #[true, true, false, false, false, false, false, false] rfl rfl (by kernel_rfl) (fun _ _ _ h => h) (Or.inl ⟨by rfl, ?_⟩) ?_ ?_
    rotate_left
    · intro w'
      go_simp
      with_reducible rfl
    rotate_left
    · simp only [Act.put, List.setIfInBounds_toArray, List.set_cons_zero, List.set_cons_succ, i64_w, i32_w]
      rfl
    refine pure_ (i := 2) (N := some 9) (v := ?_) (a' := ?_) #[true, true, true, false, false, false, false, false] rfl rfl (by kernel_rfl) (fun _ _ _ h => h) (Or.inl ⟨by rfl, ?_⟩) ?_ ?_
    rotate_left
    · intro w'
      go_simp
      with_reducible rfl
    rotate_left
    · simp only [Act.put, List.setIfInBounds_toArray, List.set_cons_zero, List.set_cons_succ, i64_w, i32_w]
      rfl
    refine take_ (i := 3) (N := some 10) (v := ?_) (a' := ?_) #[true, true, true, true, false, false, false, false] rfl rfl (by kernel_rfl) (fun _ _ _ h => h) (Or.inl ⟨by rfl, ?_⟩) hHeld ?_ ?_
    rotate_left
    · rintro w' ⟨_, c1, _⟩
      go_simp
      with_reducible rfl
    rotate_left
    · simp only [Act.put, List.setIfInBounds_toArray, List.set_cons_zero, List.set_cons_succ, i64_w, i32_w]
      rfl
    refine take_ (i := 4) (N := some 11) (v := ?_) (a' := ?_) #[true, true, true, true, true, false, false, false] rfl rfl (by kernel_rfl) (fun _ _ _ h => h) (Or.inl ⟨by rfl, ?_⟩) hHeld ?_ ?_
    rotate_left
    · rintro w' ⟨_, _, c1⟩
      go_simp
      with_reducible rfl
    rotate_left
    · simp only [Act.put, List.setIfInBounds_toArray, List.set_cons_zero, List.set_cons_succ, i64_w, i32_w]
      rfl
    refine pure_ (i := 5) (N := some 12) (v := ?_) (a' := ?_) #[true, true, true, true, true, true, false, false] rfl rfl (by kernel_rfl) (fun _ _ _ h => h) (Or.inl ⟨by rfl, ?_⟩) ?_ ?_
    rotate_left
    · intro w'
      go_simp
      with_reducible rfl
    rotate_left
    · simp only [Act.put, List.setIfInBounds_toArray, List.set_cons_zero, List.set_cons_succ, i64_w, i32_w]
      rfl
    refine last_ (i := 6) (N := some 13) #[true, true, true, true, true, true, true, false] rfl rfl (by kernel_rfl) (by decide) (fun K hK => ?_)
    refine goes_ Tryd.func35 (by kernel_rfl) rfl #[.pointer (some ⟨p, 0, none⟩), .int .i64 (n : Int), .slice A 64 c] (by rfl) rfl rfl (by (try simp only [List.map_toArray, List.map_cons, List.map_nil]); first | done | rfl) ?_
    (with_reducible refine CW'.out.mono ?_)
    rintro e w1 ⟨_, rfl, rfl, hd1, hb⟩
    refine ⟨_, rfl, ?_⟩
    have HD1 := Aside0.mk hd1
    have KE1 := Aside0.mk (hb.blk KEd.out (by decide))
    have KA1 := Aside0.mk (hb.blk KAd.out (by decide))
    have HM1 := Aside0.mk (HM0.out.trans (.of_mv hb))
    clear hb hd1
    refine hK.out _ _ ?_
    clear hK K
    refine norm_ (a' := ?_) ?_ ?_
    rotate_left
    · show Act.put _ (some 13) _ = _
      simp only [Act.put, List.setIfInBounds_toArray, List.set_cons_zero, List.set_cons_succ, i64_w, i32_w]
      rfl
    refine last_ (i := 7) (N := none) #[true, true, true, true, true, true, true, true] rfl rfl (by kernel_rfl) (by decide) (fun K hK => ?_)
    refine step_store rfl rfl rfl rfl rfl (run_store_run 25 (.int .i64 e') [.int .i64 e'] KE1.out rfl size25 (by simp) (fun q hq => by rw [List.mem_singleton.1 hq]; rfl)) ?_
    refine hK.out _ _ ?_
    clear hK K
    refine done_ (by kernel_rfl) ?_
    have es : w1.setCells ge 0 [.int .i64 e'] = w1.setCell ⟨ge, 0, none⟩ (.int .i64 e') := rfl
    rw [es]
    have KE2 := Aside0.mk (blk_put KE1.out 0 (.int .i64 e') rfl)
    have KA2 := Aside0.mk ((Below.heap_setCell w1 ⟨ge, 0, none⟩ (.int .i64 e') ga HAE.out).trans KA1.out)
    have HD2 := Aside0.mk (HD1.out.set (i := 0) KE1.out (by decide) (.int .i64 e'))
    have HM2 := Aside0.mk (HM1.out.setCell (g := ge) (i := 0) (by simp) (.int .i64 e'))
    clear es
    generalize w1.setCell ⟨ge, 0, none⟩ (.int .i64 e') = W2 at KE2 KA2 HD2 HM2 ⊢
    have ca2 := blk_cell KA2.out 0
    have fa2 := blk_frozen KA2.out 0
    simp only [List.getElem?_toArray, List.getElem?_cons_zero] at ca2
    go_wp2
    go_end0
    refine ⟨⟨rfl, HD2.out.set KA2.out (by decide) _, ?_, HM2.out.setCell (by simp) _⟩, ?_⟩
    · exact (Below.heap_setCell W2 ⟨ga, 0, none⟩ _ ge (Ne.symm HAE.out)).trans KE2.out
    · have := blk_put KA2.out 0 (.int .i64 ((n : Int) + 1)) rfl
      first | exact this | (rw [hw1]; exact this)
  · rw [if_neg he, if_neg he]
    have HD := Aside0.mk h
    have KE := Aside0.mk ke
    have KA := Aside0.mk ka
    clear h h1 h2 h3 h4 hok kg ke c0 ka hb
    go_enter Tryd.func34, Tryd.ntmps34
    go_wp2
    go_end0
    exact ⟨⟨rfl, HD.out, KE.out, Mx.refl ..⟩, KA.out⟩
end
end Go.Proofs.YtenjldfflkinkaaDoor.Sav

namespace Go.Proofs.YtenjldfflkinkaaDoor.Sav
set_option linter.unusedVariables false
set_option linter.unusedSimpArgs false
open Go.RowKit Go.Proofs.YtenjldfflkinkaaDoor.F Go.Proofs.YtenjldfflkinkaaDoorW.PrintWords Go.Proofs.YtenjldfflkinkaaDoorW.PrintLast Go.Proofs.YtenjldfflkinkaaDoorW.PrintMore
/-- the chunks written, one after the other -/
def wsD (st : Bool) (s : D4) (a : Nat) (cs : List (List Int)) : Nat → D4
  | 0 => s
  | i + 1 => wD st (wsD st s a cs i) (a + i) (cs.getD i [])
def saveS (st : Bool) (L : List (List Int)) (lf : Int) (k : Nat) (epoch : Int) (b : List Int) : D4 :=
  fD st (wD st (fD st (wsD st ⟨0, L, [], lf⟩ (61 * k + 1) (cutL b epoch ((b.length + 53) / 54)) ((b.length + 53) / 54))) (61 * k) (headB (k : Int) epoch (b.length : Int)))
def lastE (x0 x1 : Slt) : Int := if whichP x0 x1 = 1 then x1.e else if whichP x0 x1 = 0 then x0.e else 0
theorem cutL_len (b : List Int) (t : Int) (n : Nat) : (cutL b t n).length = n := by simp [cutL]
theorem cutL_64 (b : List Int) (t : Int) (n i : Nat) (h : i < n) : ((cutL b t n).getD i []).length = 64 := by
  rw [List.getD_eq_getElem?_getD, List.getElem?_eq_getElem (by rw [cutL_len]; exact h)]
  simp [cutL, chunkL_len]
theorem wsD_ok {st : Bool} {s : D4} {a : Nat} {cs : List (List Int)} (N : Nat) (h : DOk st s 0) (hc : ∀ i, i < N → (cs.getD i []).length = 64) (ha : a + N ≤ 122) : ∀ i, i ≤ N → DOk st (wsD st s a cs i) i := by
  intro i
  induction i with
  | zero => intro _; exact h
  | succ i ih => intro hi; exact (ih (by omega)).wD (by omega) (hc i (by omega))
theorem whichP_cases (x0 x1 : Slt) : whichP x0 x1 = -1 ∨ whichP x0 x1 = 0 ∨ whichP x0 x1 = 1 := by
  unfold whichP
  split
  · exact .inr (.inr rfl)
  · split
    · exact .inr (.inl rfl)
    · exact .inl rfl
theorem Mx.X {B : Nat} {T X X' : List Nat} {w w' : World} (h : Mx B T X w w') (hX : ∀ g ∈ X, g ∈ X') : Mx B T X' w w' := ⟨h.os, h.tape, h.output, h.size, fun k hk hn hx => h.block k hk hn (fun hh => hx (hX k hh))⟩
theorem ty_ne {W : World} {g g' : Nat} {cs cs' : Array Value} {t t' : Nat} (h : W.heap[g]? = some (.cells cs t (0, 0))) (h' : W.heap[g']? = some (.cells cs' t' (0, 0))) (hn : t ≠ t') : g ≠ g' := fun e => by
  subst e
  rw [h] at h'
  injection h' with h'
  injection h' with _ h' _
  exact hn h'
/-- a save under way, in memory -/
structure SvI (B : Nat) (w : World) (p q gs ge ga : Nat) (st : Bool) (x0 x1 : Slt) (vc : Value) (cs : List (List Int)) (s : D4) (a : Nat) (W : World) : Prop where
  dk : Dk B W p s.L s.ws st s.lf
  kg : W.heap[gs]? = some (.cells #[.pointer (some ⟨q, 0, none⟩)] 28 (0, 0))
  ke : W.heap[ge]? = some (.cells #[.int .i64 s.e] 25 (0, 0))
  ka : W.heap[ga]? = some (.cells #[.int .i64 (a : Int)] 3 (0, 0))
  sl : SlAt B W q p x0 x1
  mv : Mv B DT w W
  ck : Kd.R kB 40 W w.heap.size (fun _ => True) vc cs
  hq : q < w.heap.size
  hB : B ≤ w.heap.size
  he : w.heap.size ≤ ge
  ha : w.heap.size ≤ ga
section
variable {B : Nat} {w : World} {p q gs ge ga : Nat} {st : Bool} {x0 x1 : Slt} {vc : Value} {cs : List (List Int)}
theorem SvI.below {s : D4} {a : Nat} {W W' : World} (h : SvI B w p q gs ge ga st x0 x1 vc cs s a W) (hb : Below W.heap.size W W') : SvI B w p q gs ge ga st x0 x1 vc cs s a W' :=
  ⟨h.dk.below hb, blk_below h.kg hb, blk_below h.ke hb, blk_below h.ka hb, h.sl.below hb, h.mv.trans (.of_below hb), Kd.R_below h.ck hb, h.hq, h.hB, h.he, h.ha⟩
theorem SlAt.mx {W W' : World} {X : List Nat} (h : SlAt B W q p x0 x1) (hm : Mx B DT X W W') (hX : ∀ g ∈ X, B ≤ g ∧ Ty W [25, 3] g) (hq : q ∉ X) : SlAt B W' q p x0 x1 := by
  have hv := hm.mv hX
  obtain ⟨h0, v0, v1, h1, h2, h3⟩ := h
  exact ⟨h0, v0, v1, hm.blk h1 (by decide) hq, hv.R h2 (kB_E1 (by decide)), hv.R h3 (kB_E1 (by decide))⟩
theorem SvI.step {s s' : D4} {a a' : Nat} {W W' : World} (h : SvI B w p q gs ge ga st x0 x1 vc cs s a W) (hd : Dk B W' p s'.L s'.ws st s'.lf) (hm : Mx B DT [ge, ga] W W') (ke : W'.heap[ge]? = some (.cells #[.int .i64 s'.e] 25 (0, 0))) (ka : W'.heap[ga]? = some (.cells #[.int .i64 (a' : Int)] 3 (0, 0))) : SvI B w p q gs ge ga st x0 x1 vc cs s' a' W' := by
  have n1 := ty_ne h.kg h.ke (by decide)
  have n2 := ty_ne h.kg h.ka (by decide)
  have hX : ∀ g ∈ [ge, ga], B ≤ g ∧ Ty W [25, 3] g := fun g hg => by
    simp only [List.mem_cons, List.not_mem_nil, or_false] at hg
    rcases hg with rfl | rfl
    · exact ⟨Nat.le_trans h.hB h.he, _, _, by simp, h.ke⟩
    · exact ⟨Nat.le_trans h.hB h.ha, _, _, by simp, h.ka⟩
  have hqX : q ∉ [ge, ga] := fun hg => by
    have h1 := h.hq
    have h2 := h.he
    have h3 := h.ha
    simp only [List.mem_cons, List.not_mem_nil, or_false] at hg
    omega
  refine ⟨hd, hm.blk h.kg (by decide) (by simp [n1, n2]), ke, ka, h.sl.mx hm hX hqX, h.mv.mx hm (fun g hg => ?_), (hm.mv hX).R h.ck ?_, h.hq, h.hB, h.he, h.ha⟩
  · simp only [List.mem_cons, List.not_mem_nil, or_false] at hg
    rcases hg with rfl | rfl
    · exact h.he
    · exact h.ha
  · intro t ht
    have hE : kB.E = [5] := rfl
    rw [hE] at ht
    simp only [List.mem_cons, List.not_mem_nil, or_false] at ht
    rcases ht with rfl | rfl <;> decide
theorem SvI.put {s : D4} {a a' : Nat} {W : World} (h : SvI B w p q gs ge ga st x0 x1 vc cs s a W) : SvI B w p q gs ge ga st x0 x1 vc cs s a' (W.setCell ⟨ga, 0, none⟩ (.int .i64 (a' : Int))) :=
  h.step (h.dk.set h.ka (by decide) _) ((Mx.refl B DT [ge, ga] W).setCell (by simp) _) ((Below.heap_setCell W ⟨ga, 0, none⟩ _ ge (ty_ne h.ke h.ka (by decide))).trans h.ke) (blk_put h.ka 0 _ rfl)
end
section
variable {B : Nat} {w : World} {p q : Nat} {L : List (List Int)} {st : Bool} {lf : Int} {x0 x1 : Slt}
theorem Latest_any (hs : SlAt B w q p x0 x1) (h0 : x0.b.length ≤ 100000) (h1 : x1.b.length ≤ 100000) : Calls Tryd.prog 12 #[.pointer (some ⟨q, 0, none⟩)] w fun e w' => ∃ (v : Value) (o : Bool), e = .returned (.tuple #[v, .int .i64 (lastE x0 x1), .bool o]) ∧ Below w.heap.size w w' := by
  unfold lastE
  rcases whichP_cases x0 x1 with hw | hw | hw
  · refine (Latest_none hs hw).mono ?_
    rintro e w' ⟨rfl, hb⟩
    rw [hw]
    exact ⟨_, _, rfl, hb⟩
  · refine (Latest_0 hs hw h0).mono ?_
    rintro e w' ⟨v, rfl, _, hb⟩
    rw [hw]
    exact ⟨_, _, rfl, hb⟩
  · refine (Latest_1 hs hw h1).mono ?_
    rintro e w' ⟨v, rfl, _, hb⟩
    rw [hw]
    exact ⟨_, _, rfl, hb⟩
set_option maxRecDepth 100000 in
set_option maxHeartbeats 8000000 in
theorem Save_0 {epoch : Int} {A : Option Addr} {n c base : Nat} {ok : Nat → Prop} {b : List Int} (H : Hv w) (hB0 : 0 < B) (hd : Dk B w p L [] st lf) (hs : SlAt B w q p x0 x1) (hL : L.length = 122) (hlf : 0 ≤ lf ∧ lf ≤ 1000) (hb : Kd.R (Kd.int .u8) 5 w base ok (.slice A n c) b) (hn0 : 0 < n) (hn : n ≤ 3240) (hl : lastE x0 x1 < epoch) (hl0 : 0 ≤ lastE x0 x1) (hm : epoch ≤ 2147483647) (h0 : x0.b.length ≤ 100000) (h1 : x1.b.length ≤ 100000) (hk : ¬ whichP x0 x1 = 0) :
    Calls Tryd.prog 10 #[.pointer (some ⟨q, 0, none⟩), .slice A n c, .int .i64 epoch] w fun e w' => e = .returned (.int .i64 (saveS st L lf 0 epoch b).e) ∧ Dk B w' p (saveS st L lf 0 epoch b).L (saveS st L lf 0 epoch b).ws st (saveS st L lf 0 epoch b).lf ∧ SlAt B w' q p (if (saveS st L lf 0 epoch b).e = 0 then ⟨true, epoch, b⟩ else x0) x1 ∧ Mv B (64 :: DT) w w' := by
  have hbn : b.length = n := (Kd.R_reads' hb).1.symm
  have hw0 := blk_lt (hd.blk.choose_spec.choose_spec.choose_spec.1)
  have hwB : B ≤ w.heap.size := by have := hd.hB; omega
  obtain ⟨hqB, v0, v1, kq, kq0, kq1⟩ := id hs
  have CL := Aside0.mk (fun W (hw : Below w.heap.size w W) => Latest_any (hs.below hw) h0 h1)
  have CWh := Aside0.mk (fun W (hw : Below w.heap.size w W) => Which_calls (hs.below hw))
  obtain ⟨le, hle⟩ : ∃ le, lastE x0 x1 = le := ⟨_, rfl⟩
  rw [hle] at CL hl hl0
  have hc1 : (epoch ≤ le) = False := eq_false (by omega)
  have hc2 : (2147483647 < epoch) = False := eq_false (by omega)
  have hc3 : (3240 < (n : Int)) = False := eq_false (by omega)
  obtain ⟨wp, hwp⟩ : ∃ wp, whichP x0 x1 = wp := ⟨_, rfl⟩
  rw [hwp] at hk CWh
  have hk1 := nz_false hk
  have CC := Aside0.mk (fun W (hw : Below w.heap.size w W) => (show Calls Tryd.prog 32 #[.slice A n c, .int .i64 epoch] W (GivesCut (cutL b epoch ((n + 53) / 54)) W) from by
    obtain ⟨A', c', e, hsb⟩ := own_sbN hb hbn
    injection e with e1 e2 e3
    subst e1 e3
    exact Cut_calls (H.below hw) (hsb.below hw) ⟨by omega, hm⟩ hn))
  have CB := Aside0.mk (fun W (c1 : W.cell? ⟨q, 1, none⟩ = some (.int .i64 0)) (c2 : W.cell? ⟨q, 2, none⟩ = some (.int .i64 60)) => (show Calls Tryd.prog 33 #[.pointer (some ⟨q, 0, none⟩), .int .i64 0] W (fun e w' => e = .returned (.int .i64 0) ∧ Drawn0 W w') from begin_calls (w := W) c1 c2 (k := 0) (by omega)))
  have KQ := Aside0.mk kq
  have HKK := Aside0.mk hk
  have cq0 := blk_cell kq 0
  have cq2 := blk_cell kq 2
  simp only [List.getElem?_toArray, List.getElem?_cons_zero, List.getElem?_cons_succ] at cq0 cq2
  have HD := Aside0.mk hd
  have HS := Aside0.mk hs
  have HBB := Aside0.mk hb
  have HH := Aside0.mk H
  have HWB := Aside0.mk hwB
  have HQL := Aside0.mk (blk_lt kq)
  clear H hd hs hb kq kq0 kq1 hk hw0 hwB h0 h1 hqB
  obtain ⟨SF, hSF⟩ : ∃ SF, saveS st L lf 0 epoch b = SF := ⟨_, rfl⟩
  rw [hSF]
  have HSF := Aside0.mk hSF
  clear hSF
  go_enter Tryd.func10, Tryd.ntmps10
  go_upto_region 1 with (fail)
  have kg := World.alloc_heap_new w (.cells #[.pointer (some ⟨q, 0, none⟩)] 28)
  have hb1 := below_alloc (Below.refl _ w) (.cells #[.pointer (some ⟨q, 0, none⟩)] 28)
  have KG := Aside0.mk kg
  have HB0 := Aside0.mk hb1
  have HWL := Aside0.mk (show w.heap.size < (w.alloc (.cells #[.pointer (some ⟨q, 0, none⟩)] 28)).heap.size by simp)
  have cq0a := (hb1.cell (World.block_lt_of_cell? w _ cq0)).trans cq0
  have cq2a := (hb1.cell (World.block_lt_of_cell? w _ cq2)).trans cq2
  have cs0 := blk_cell kg 0
  simp only [List.getElem?_toArray, List.getElem?_cons_zero] at cs0
  clear kg hb1 cq0 cq2
  generalize w.alloc (.cells #[.pointer (some ⟨q, 0, none⟩)] 28) = W0 at KG HB0 HWL cq0a cq2a cs0 ⊢
  obtain ⟨gs, hgs⟩ : ∃ g, w.heap.size = g := ⟨_, rfl⟩
  rw [show Value.pointer (some ⟨w.heap.size, 0, none⟩) = Value.pointer (some ⟨gs, 0, none⟩) from by rw [hgs]]
  rw [hgs] at KG cs0
  have HGS := Aside0.mk hgs
  clear hgs
  go_upto_region 8 with (go_at_call 12; (with_reducible refine (CL.out _ HB0.out).mono ?_); rintro e w1 ⟨vv, oo, rfl, hb1⟩; have HB1 := Aside0.mk (below_step HB0.out hb1); have KG1 := Aside0.mk (blk_below KG.out hb1); have cs1 := blk_cell KG1.out 0; simp only [List.getElem?_toArray, List.getElem?_cons_zero] at cs1; have cq0b := (hb1.cell (World.block_lt_of_cell? W0 _ cq0a)).trans cq0a; have cq2b := (hb1.cell (World.block_lt_of_cell? W0 _ cq2a)).trans cq2a; clear hb1 cq0a cq2a cs0)
  go_upto_region 11 with (go_at_call 31; (with_reducible refine (CWh.out _ HB1.out).mono ?_); rintro e w2 ⟨rfl, hb2⟩; have HB2 := Aside0.mk (below_step HB1.out hb2); have KG2 := Aside0.mk (blk_below KG1.out hb2); have cs2 := blk_cell KG2.out 0; simp only [List.getElem?_toArray, List.getElem?_cons_zero] at cs2; have cq0c := (hb2.cell (World.block_lt_of_cell? w1 _ cq0b)).trans cq0b; have cq2c := (hb2.cell (World.block_lt_of_cell? w1 _ cq2b)).trans cq2b; clear hb2 cq0b cq2b cs1)
  go_upto_region 12 with (go_at_call 32; (with_reducible refine (CC.out _ HB2.out).mono ?_); rintro e w3 ⟨v3, rfl, ho3, hb3⟩; obtain ⟨A3, c3, rfl⟩ := Kd.R_slice ho3; have HO3 := Aside0.mk (Kd.R_lower ho3 HB2.out.size); have HB3 := Aside0.mk (below_step HB2.out hb3); have KG3 := Aside0.mk (blk_below KG2.out hb3); have cq0d := (hb3.cell (World.block_lt_of_cell? w2 _ cq0c)).trans cq0c; have cq2d := (hb3.cell (World.block_lt_of_cell? w2 _ cq2c)).trans cq2c; clear hb3 ho3 cq0c cq2c cs2)
  rw [cutL_len] at HO3
  rw [cutL_len]
  obtain ⟨N, hN⟩ : ∃ N, (n + 53) / 54 = N := ⟨_, rfl⟩
  obtain ⟨cs, hcs⟩ : ∃ cs, cutL b epoch N = cs := ⟨_, rfl⟩
  rw [hN] at HO3
  rw [hcs] at HO3
  rw [hN]
  have kg := World.alloc_heap_new w3 (.cells #[.int .i64 0] 25)
  have hb1 := below_alloc HB3.out (.cells #[.int .i64 0] 25)
  have hb2 := below_alloc (Below.refl _ w3) (.cells #[.int .i64 0] 25)
  have KE := Aside0.mk kg
  have HB4 := Aside0.mk hb1
  have HO4 := Aside0.mk (Kd.R_below HO3.out hb2)
  have KG4 := Aside0.mk (blk_below KG3.out hb2)
  have cq0e := (hb2.cell (World.block_lt_of_cell? w3 _ cq0d)).trans cq0d
  have cq2e := (hb2.cell (World.block_lt_of_cell? w3 _ cq2d)).trans cq2d
  have hgl : w.heap.size ≤ w3.heap.size := HB3.out.size
  clear hb1 hb2 kg HB3 HO3 KG3 cq0d cq2d
  generalize w3.alloc (.cells #[.int .i64 0] 25) = W4 at KE HB4 HO4 KG4 cq0e cq2e ⊢
  obtain ⟨ge, hge⟩ : ∃ g, w3.heap.size = g := ⟨_, rfl⟩
  rw [show Value.pointer (some ⟨w3.heap.size, 0, none⟩) = Value.pointer (some ⟨ge, 0, none⟩) from by rw [hge]]
  rw [hge] at KE hgl
  have HGE := Aside0.mk hgl
  clear hge hgl
  have ce4 := blk_cell KE.out 0
  simp only [List.getElem?_toArray, List.getElem?_cons_zero] at ce4
  have cq1e := (HB4.out.cell (p := ⟨q, 1, none⟩) (World.block_lt_of_cell? w _ (blk_cell KQ.out 1))).trans (blk_cell KQ.out 1)
  simp only [List.getElem?_toArray, List.getElem?_cons_zero, List.getElem?_cons_succ] at cq1e
  have CB4 := Aside0.mk (CB.out _ cq1e cq2e)
  have cs4 := blk_cell KG4.out 0
  simp only [List.getElem?_toArray, List.getElem?_cons_zero] at cs4
  clear cq1e cq2e
  go_upto_region 14 with (fail)
  go_upto_region 15 with (go_at_call 33; (with_reducible refine CB4.out.mono ?_); rintro e w5 ⟨rfl, hdr⟩; have hwd := hdr.below; have HB5 := Aside0.mk (below_step HB4.out hwd); have HO5 := Aside0.mk (Kd.R_below HO4.out hwd); have KG5 := Aside0.mk (blk_below KG4.out hwd); have KE5 := Aside0.mk (blk_below KE.out hwd); clear hwd hdr cq0e ce4 cs4)
  have kg := World.alloc_heap_new w5 (.cells #[.int .i64 1] 3)
  have hb1 := below_alloc HB5.out (.cells #[.int .i64 1] 3)
  have hb2 := below_alloc (Below.refl _ w5) (.cells #[.int .i64 1] 3)
  have hgl : w.heap.size ≤ w5.heap.size := HB5.out.size
  have KA6 := Aside0.mk kg
  have HB6 := Aside0.mk hb1
  have HO6 := Aside0.mk (Kd.R_below HO5.out hb2)
  have KG6 := Aside0.mk (blk_below KG5.out hb2)
  have KE6 := Aside0.mk (blk_below KE5.out hb2)
  clear kg hb1 hb2 HB5 HO5 KG5 KE5
  generalize w5.alloc (.cells #[.int .i64 1] 3) = W6 at KA6 HB6 HO6 KG6 KE6 ⊢
  obtain ⟨ga, hga⟩ : ∃ g, w5.heap.size = g := ⟨_, rfl⟩
  rw [show Value.pointer (some ⟨w5.heap.size, 0, none⟩) = Value.pointer (some ⟨ga, 0, none⟩) from by rw [hga]]
  rw [hga] at KA6 hgl
  have HGA := Aside0.mk hgl
  clear hga hgl
  have HI0 : Aside0 (SvI B w p q gs ge ga st x0 x1 (.slice A3 N c3) cs ⟨0, L, [], lf⟩ 1 W6) := ⟨⟨HD.out.below HB6.out, KG6.out, KE6.out, KA6.out, HS.out.below HB6.out, .of_below HB6.out, HO6.out, HQL.out, HWB.out, HGE.out, HGA.out⟩⟩
  have HSD : Aside0 (∀ i, i ≤ N → DOk st (wsD st ⟨0, L, [], lf⟩ 1 cs i) i) := ⟨wsD_ok N ⟨hL, by simp, by simp, hlf⟩ (fun i hi => by rw [← hcs]; exact cutL_64 _ _ _ _ hi) (by omega)⟩
  have H64 : Aside0 (∀ i, i < N → (cs.getD i []).length = 64) := ⟨fun i hi => by rw [← hcs]; exact cutL_64 _ _ _ _ hi⟩
  have hNlen : cs.length = N := by rw [← hcs, cutL_len]
  have HNL := Aside0.mk hNlen
  have HCS := Aside0.mk hcs
  have HN := Aside0.mk hN
  have hN60 : N ≤ 60 := by omega
  have hN1 : 1 ≤ N := by omega
  have HLE := Aside0.mk hle
  clear HB6 KG6 KE6 KA6 HO6 hcs hN hNlen CL CWh CC hle
  go_wp2
  obtain ⟨S, hS⟩ : ∃ S : Nat → D4, wsD st ⟨0, L, [], lf⟩ 1 cs = S := ⟨_, rfl⟩
  have HS0 : Aside0 (S 0 = ⟨0, L, [], lf⟩) := ⟨by rw [← hS]; rfl⟩
  have HSS : Aside0 (∀ i, S (i + 1) = wD st (S i) (1 + i) (cs.getD i [])) := ⟨fun i => by rw [← hS]; rfl⟩
  rw [hS] at HSD
  have HSE := Aside0.mk hS
  clear hS
  go_loopw [70] (fun v70 wr => ∃ i a : Nat, v70 = .int .i64 (i : Int) ∧ i ≤ N ∧ Aside0 ((S i).e = 0 → a = 1 + i) ∧ Aside0 (a ≤ 1 + i) ∧ Aside0 (SvI B w p q gs ge ga st x0 x1 (.slice A3 N c3) cs (S i) a wr)) (fun v70 _ => N - (intOf v70).toNat)
  case atStart => exact ⟨0, 1, rfl, Nat.zero_le _, ⟨fun _ => rfl⟩, ⟨by omega⟩, ⟨by rw [HS0.out]; exact HI0.out⟩⟩
  case round =>
    obtain ⟨i, a, rfl, hi, HA, HAL, HI⟩ := hrel
    by_cases hlt : i < N
    · have hlt' : (i : Int) < (N : Int) := by omega
      obtain ⟨ad, ca, hva⟩ := Kd.R_slice1 HI.out.ck (show 0 < cs.length by rw [HNL.out]; omega)
      obtain ⟨rfl, rfl⟩ : A3 = some ad ∧ c3 = ca := by
        injection hva with h1 h2 h3
        exact ⟨h1, h3⟩
      clear hva
      obtain ⟨cc, _, ⟨vk, rfl, hRk⟩, hcell⟩ := Kd.R_getA HI.out.ck ([] : List Int) (i : Int) (by omega) (by omega)
      rw [Int.toNat_natCast] at hRk
      obtain ⟨Ak, ck, rfl, hSk0⟩ := own_sbN hRk (H64.out i hlt)
      have hc1 : wr.cell? (ad.add i) = some (.slice Ak 64 ck) := by
        have := hcell 0 _ rfl
        rw [Int.toNat_natCast] at this
        rw [show kB.sz = 1 from rfl, Nat.mul_one, Nat.add_zero] at this
        exact this
      have CQ := Aside0.mk (Save1_calls (m := i) HI.out.dk (HSD.out i (by omega)) (by omega) (n := a) (by have := HAL.out; omega) (blk_cell HI.out.sl.blk.choose_spec.choose_spec.1 0) HI.out.kg HI.out.ke HI.out.ka hRk)
      clear hcell hRk hSk0
      go_wp2_with (go_at_call 34; (with_reducible refine CQ.out.mono ?_); rintro e wx ⟨⟨rfl, hd1, he1, hm1⟩, ha1⟩; have HIx : Aside0 (SvI B w p q gs ge ga st x0 x1 (.slice (some ad) N c3) cs (S (i + 1)) (if (S i).e = 0 then a + 1 else a) wx) := ⟨by rw [HSS.out]; have hwq : wD st (S i) a (cs.getD i []) = wD st (S i) (1 + i) (cs.getD i []) := (by unfold wD; split; (rw [HA.out ‹_›]); rfl); rw [← hwq]; exact HI.out.step hd1 hm1 he1 (by rw [ha1]; split <;> rfl)⟩; clear hd1 he1 hm1 ha1)
      go_roundw
      case measure => simp [intOf]; omega
      case rel =>
        refine ⟨i + 1, _, by go_num, by omega, ⟨fun hz => ?_⟩, ⟨?_⟩, HIx⟩
        · have hz' : (S i).e = 0 := by
            rw [HSS.out] at hz
            unfold wD at hz
            split at hz
            · assumption
            · exact hz
          rw [if_pos hz', HA.out hz']
          omega
        · have := HAL.out
          split <;> omega
    · obtain rfl : i = N := by omega
      clear hlt
      have HI1 := HI
      have CQ1 := Aside0.mk (Save2_calls (m := i) HI1.out.dk (HSD.out i (by omega)) (by omega) (blk_cell HI1.out.sl.blk.choose_spec.choose_spec.1 0) HI1.out.kg HI1.out.ke)
      go_upto_region 23 with (go_at_call 36; (with_reducible refine CQ1.out.mono ?_); rintro e w7 ⟨rfl, hd1, he1, hm1⟩; have HI2 : Aside0 (SvI B w p q gs ge ga st x0 x1 (.slice A3 i c3) cs (fD st (S i)) a w7) := ⟨HI1.out.step hd1 (hm1.X (by simp)) he1 (hm1.blk HI1.out.ka (by decide) (by simpa using ty_ne HI1.out.ka HI1.out.ke (by decide)))⟩; clear hd1 he1 hm1)
      have CB7 := Aside0.mk (CB.out w7 (blk_cell HI2.out.sl.blk.choose_spec.choose_spec.1 1) (blk_cell HI2.out.sl.blk.choose_spec.choose_spec.1 2))
      have cs7 := blk_cell HI2.out.kg 0
      simp only [List.getElem?_toArray, List.getElem?_cons_zero] at cs7
      go_upto_region 24 with (go_at_call 33; (with_reducible refine CB7.out.mono ?_); rintro e w8 ⟨rfl, hdr⟩; have HI3 := Aside0.mk (HI2.out.below hdr.below); have ca8 := blk_cell HI3.out.ka 0; have fa8 := blk_frozen HI3.out.ka 0; simp only [List.getElem?_toArray, List.getElem?_cons_zero] at ca8; clear hdr cs7)
      have HI4 : Aside0 (SvI B w p q gs ge ga st x0 x1 (.slice A3 i c3) cs (fD st (S i)) 0 (w8.setCell ⟨ga, 0, none⟩ (.int .i64 0))) := ⟨HI3.out.put (a' := 0)⟩
      clear ca8 fa8
      generalize w8.setCell ⟨ga, 0, none⟩ (.int .i64 0) = W9 at HI4 ⊢
      have HH9 : Aside0 (Hv W9) := ⟨fun j hj => HI4.out.mv.cell (HH.out j hj) (fun hx => by have := hx.1; simp at this; omega)⟩
      have CHd := Aside0.mk (headed_calls (k := 0) (epoch := epoch) (size := (n : Int)) HH9.out)
      have HDO := Aside0.mk (HSD.out i (by omega)).fD
      go_upto_region 25 with (first
        | (go_at_call 38; (with_reducible refine CHd.out.mono ?_); rintro e w10 ⟨v10, rfl, ho10, hb10⟩; obtain ⟨A10, c10, rfl, _⟩ := own_sbN ho10 (headB_len _ _ _); have HI5 := Aside0.mk (HI4.out.below hb10); have CQ2 := Aside0.mk (Save1_calls (m := i) HI5.out.dk HDO.out (by omega) (n := 0) (by omega) (blk_cell HI5.out.sl.blk.choose_spec.choose_spec.1 0) HI5.out.kg HI5.out.ke HI5.out.ka ho10); clear ho10 hb10)
        | (go_at_call 34; (with_reducible refine CQ2.out.mono ?_); rintro e w11 ⟨⟨rfl, hd1, he1, hm1⟩, ha1⟩; have HI6 : Aside0 (SvI B w p q gs ge ga st x0 x1 (.slice A3 i c3) cs (wD st (fD st (S i)) 0 (headB 0 epoch (n : Int))) (if (fD st (S i)).e = 0 then 0 + 1 else 0) w11) := ⟨HI5.out.step hd1 hm1 he1 (by rw [ha1]; split <;> rfl)⟩; clear hd1 he1 hm1 ha1))
      have HDO2 := Aside0.mk (HDO.out.wD (n := 0) (b := headB 0 epoch (n : Int)) (by omega) (headB_len _ _ _))
      obtain ⟨a6, ha6⟩ : ∃ a6, (if (fD st (S i)).e = 0 then 0 + 1 else 0) = a6 := ⟨_, rfl⟩
      rw [ha6] at HI6
      clear ha6
      have CQ3 := Aside0.mk (Save2_calls (m := i + 1) HI6.out.dk HDO2.out (by omega) (blk_cell HI6.out.sl.blk.choose_spec.choose_spec.1 0) HI6.out.kg HI6.out.ke)
      have hfin : fD st (wD st (fD st (S i)) 0 (headB 0 epoch (n : Int))) = SF := by
        rw [← HSF.out]
        unfold saveS
        rw [hbn, HN.out, HCS.out, show (61 * 0 + 1 : Nat) = 1 from rfl, HSE.out]
        rfl
      rw [hfin] at CQ3
      clear hfin
      go_upto_region 26 with (go_at_call 36; (with_reducible refine CQ3.out.mono ?_); rintro e w12 ⟨rfl, hd1, he1, hm1⟩; have HI7 : Aside0 (SvI B w p q gs ge ga st x0 x1 (.slice A3 i c3) cs SF a6 w12) := ⟨HI6.out.step hd1 (hm1.X (by simp)) he1 (hm1.blk HI6.out.ka (by decide) (by simpa using ty_ne HI6.out.ka HI6.out.ke (by decide)))⟩; clear hd1 he1 hm1)
      obtain ⟨eF, LF, wsF, lfF⟩ := SF
      have ce12 := blk_cell HI7.out.ke 0
      simp only [List.getElem?_toArray, List.getElem?_cons_zero] at ce12
      try dsimp only at ce12
      try dsimp only
      by_cases heF : eF = 0
      · subst heF
        go_upto_region 27 with (fail)
        obtain ⟨u0, u1, ku, ku0, ku1⟩ := HI7.out.sl.blk
        have KU := Aside0.mk ku
        have KU0 := Aside0.mk ku0
        have KU1 := Aside0.mk ku1
        have HB7 := Aside0.mk (HI7.out.mv.R HBB.out (kB_E1 (by decide)))
        clear ku ku0 ku1 ce12
        obtain ⟨y0, hy0⟩ : ∃ y, x0.e = y := ⟨_, rfl⟩
        obtain ⟨z0, hz0⟩ : ∃ y, x0.s = y := ⟨_, rfl⟩
        obtain ⟨y1, hy1⟩ : ∃ y, x1.e = y := ⟨_, rfl⟩
        obtain ⟨z1, hz1⟩ : ∃ y, x1.s = y := ⟨_, rfl⟩
        rw [hy0, hz0, hy1, hz1] at KU
        have HYZ := Aside0.mk (And.intro hy0 (And.intro hz0 (And.intro hy1 hz1)))
        clear hy0 hz0 hy1 hz1
        refine start_ (n := 11) (S := fun w' => w'.heap[gs]? = some (.cells #[.pointer (some ⟨q, 0, none⟩)] 28 (0, 0))) (ds := [10]) #[false, false, false, false, false, false, false, false, false, false, false] (by kernel_rfl) rfl rfl HI7.out.kg (fun hHeld => ?_)
        have HB8 := Aside0.mk (below_drew (Below.refl w12.heap.size w12))
        have HI8 := Aside0.mk (HI7.out.below HB8.out)
        have KU8 := Aside0.mk (blk_below KU.out HB8.out)
        have KC8 := Aside0.mk (Kd.C_below (Kd.R_reads' HB7.out).2.2 HB8.out)
        have KU08 := Aside0.mk (Kd.R_below KU0.out HB8.out)
        have KU18 := Aside0.mk (Kd.R_below KU1.out HB8.out)
        clear HB8 HI7 KU HB7 KU0 KU1
        generalize w12.drew = D at HI8 KU8 KC8 KU08 KU18 hHeld ⊢
        refine pure_ (i := 1) (N := some 95) (v := ?_) (a' := ?_) #[false, true, false, false, false, false, false, false, false, false, false] rfl rfl (by kernel_rfl) (fun _ _ _ h => h) (Or.inl ⟨by rfl, ?_⟩) ?_ ?_
        rotate_left
        · intro w'
          go_simp
          with_reducible rfl
        rotate_left
        · simp only [Act.put, List.setIfInBounds_toArray, List.set_cons_zero, List.set_cons_succ, i64_w, i32_w]
          rfl
        refine pure_ (i := 2) (N := some 96) (v := ?_) (a' := ?_) #[false, true, true, false, false, false, false, false, false, false, false] rfl rfl (by kernel_rfl) (fun _ _ _ h => h) (Or.inl ⟨by rfl, ?_⟩) ?_ ?_
        rotate_left
        · intro w'
          go_simp
          with_reducible rfl
        rotate_left
        · simp only [Act.put, List.setIfInBounds_toArray, List.set_cons_zero, List.set_cons_succ, i64_w, i32_w]
          rfl
        refine pure_ (i := 4) (N := some 98) (v := ?_) (a' := ?_) #[false, true, true, false, true, false, false, false, false, false, false] rfl rfl (by kernel_rfl) (fun _ _ _ h => h) (Or.inl ⟨by rfl, ?_⟩) ?_ ?_
        rotate_left
        · intro w'
          go_simp
          with_reducible rfl
        rotate_left
        · simp only [Act.put, List.setIfInBounds_toArray, List.set_cons_zero, List.set_cons_succ, i64_w, i32_w]
          rfl
        refine take_ (i := 0) (N := some 94) (v := ?_) (a' := ?_) #[true, true, true, false, true, false, false, false, false, false, false] rfl rfl (by kernel_rfl) (fun _ _ _ h => h) (Or.inl ⟨by rfl, ?_⟩) hHeld ?_ ?_
        rotate_left
        · rintro w' hq
          have c1 := blk_cell hq 0
          simp only [List.getElem?_toArray, List.getElem?_cons_zero] at c1
          go_simp
          with_reducible rfl
        rotate_left
        · simp only [Act.put, List.setIfInBounds_toArray, List.set_cons_zero, List.set_cons_succ, i64_w, i32_w]
          rfl
        refine pure_ (i := 7) (N := some 101) (v := ?_) (a' := ?_) #[true, true, true, false, true, false, false, true, false, false, false] rfl rfl (by kernel_rfl) (fun _ _ _ h => h) (Or.inl ⟨by rfl, ?_⟩) ?_ ?_
        rotate_left
        · intro w'
          go_simp
          with_reducible rfl
        rotate_left
        · simp only [Act.put, List.setIfInBounds_toArray, List.set_cons_zero, List.set_cons_succ, i64_w, i32_w]
          rfl
        refine pure_ (i := 8) (N := some 102) (v := ?_) (a' := ?_) #[true, true, true, false, true, false, false, true, true, false, false] rfl rfl (by kernel_rfl) (fun _ _ _ h => h) (Or.inl ⟨by rfl, ?_⟩) ?_ ?_
        rotate_left
        · intro w'
          go_simp
          with_reducible rfl
        rotate_left
        · simp only [Act.put, List.setIfInBounds_toArray, List.set_cons_zero, List.set_cons_succ, i64_w, i32_w]
          rfl
        refine one_ (i := 3) (N := some 97) #[true, true, true, true, true, false, false, true, true, false, false] rfl rfl (by kernel_rfl) (by decide) (fun K hK => ?_)
        refine step_run rfl rfl (v := .slice (some ⟨D.heap.size, 0, none⟩) 0 0) (w' := D.alloc (.cells #[] 5)) (by go_simp) ?_
        refine hK.out _ _ (blk_alloc hHeld _) (fun hHeld => ?_)
        clear hK K
        refine norm_ (a' := ?_) ?_ ?_
        rotate_left
        · show Act.put _ (some 97) _ = _
          simp only [Act.put, List.setIfInBounds_toArray, List.set_cons_zero, List.set_cons_succ, i64_w, i32_w]
          rfl
        have HO0 : Aside0 (Kd.R (Kd.int .u8) 5 (D.alloc (.cells #[] 5)) D.heap.size (fun _ => True) (.slice (some ⟨D.heap.size, 0, none⟩) 0 0) []) := ⟨Kd.R_of_own (enc := Value.int .u8) (xs := []) (own_lit D D.heap.size 5 .u8 [] (Nat.le_refl _) (by simp)) (fun _ _ => trivial)⟩
        have HB0' := Aside0.mk (below_alloc (Below.refl D.heap.size D) (.cells #[] 5))
        have KC0 := Aside0.mk (Kd.C_below KC8.out HB0'.out)
        refine one_ (i := 5) (N := some 99) #[true, true, true, true, true, true, false, true, true, false, false] rfl rfl (by kernel_rfl) (by decide) (fun K hK => ?_)
        refine Kd.R_append_rows_step (Kd.int .u8) (w0 := D) D.heap.size (by rfl) (.tmp 97) (.tmp 98) 40 5 (.int .u8 0) 1 rfl Tryd.underlying40 info5 rfl (by decide) (by omega) (.slice (some ⟨D.heap.size, 0, none⟩) 0 0) ([]) b _ _ _ (fun _ => True) (fun _ => False) rfl rfl HO0.out (by have := KC0.out; rw [hbn] at this; exact this) (fun _ _ h => h) (fun _ h => h.elim) (fun _ _ => trivial) HB0'.out HB0'.out.size (by simp; omega) ?_
        intro v6 w6 ho6 hb6 hg6 hn6
        obtain ⟨A6, c6, rfl⟩ := Kd.R_slice ho6
        have HO6 := Aside0.mk ho6
        have HB6 := Aside0.mk hb6
        obtain ⟨n6, hnx⟩ : ∃ n6, (([] : List Int) ++ b).length = n6 := ⟨_, rfl⟩
        rw [hnx] at HO6 ⊢
        clear hg6 hn6 ho6 hb6 hnx
        refine hK.out _ _ (blk_below HI8.out.kg HB6.out) (fun hHeld => ?_)
        clear hK K
        refine norm_ (a' := ?_) ?_ ?_
        rotate_left
        · show Act.put _ (some 99) _ = _
          simp only [Act.put, List.setIfInBounds_toArray, List.set_cons_zero, List.set_cons_succ, i64_w, i32_w]
          rfl
        refine pure_ (i := 6) (N := some 100) (v := ?_) (a' := ?_) #[true, true, true, true, true, true, true, true, true, false, false] rfl rfl (by kernel_rfl) (fun _ _ _ h => h) (Or.inl ⟨by rfl, ?_⟩) ?_ ?_
        rotate_left
        · intro w'
          go_simp
          with_reducible rfl
        rotate_left
        · simp only [Act.put, List.setIfInBounds_toArray, List.set_cons_zero, List.set_cons_succ, i64_w, i32_w]
          rfl
        refine pure_ (i := 9) (N := some 103) (v := ?_) (a' := ?_) #[true, true, true, true, true, true, true, true, true, true, false] rfl rfl (by kernel_rfl) (fun _ _ _ h => h) (Or.inl ⟨by rfl, ?_⟩) ?_ ?_
        rotate_left
        · intro w'
          go_simp
          with_reducible rfl
        rotate_left
        · simp only [Act.put, List.setIfInBounds_toArray, List.set_cons_zero, List.set_cons_succ, i64_w, i32_w]
          rfl
        refine last_ (i := 10) (N := none) #[true, true, true, true, true, true, true, true, true, true, true] rfl rfl (by kernel_rfl) (by decide) (fun K hK => ?_)
        have HKD := Aside0.mk (blk_below KU8.out HB6.out)
        refine step_store rfl rfl rfl rfl rfl (run_store_run 61 (.agg #[.bool true, .int .i64 epoch, .slice A6 n6 c6]) [.bool true, .int .i64 epoch, .slice A6 n6 c6] HKD.out rfl size61 (by simp) (fun v hv => by
          simp only [List.mem_cons, List.not_mem_nil, or_false] at hv
          rcases hv with rfl | rfl | rfl <;> rfl)) ?_
        refine hK.out _ _ ?_
        clear hK K
        refine done_ (by kernel_rfl) ?_
        have es : w6.setCells q 3 [.bool true, .int .i64 epoch, .slice A6 n6 c6] = ((w6.setCell ⟨q, 3, none⟩ (.bool true)).setCell ⟨q, 4, none⟩ (.int .i64 epoch)).setCell ⟨q, 5, none⟩ (.slice A6 n6 c6) := rfl
        rw [es]
        have z1_ := blk_put (cs := #[.pointer (some ⟨p, 0, none⟩), .int .i64 0, .int .i64 60, .bool z0, .int .i64 y0, u0, .bool z1, .int .i64 y1, u1]) HKD.out 3 (.bool true) rfl
        have z2_ := blk_put (cs := #[.pointer (some ⟨p, 0, none⟩), .int .i64 0, .int .i64 60, .bool true, .int .i64 y0, u0, .bool z1, .int .i64 y1, u1]) z1_ 4 (.int .i64 epoch) rfl
        have z3_ := blk_put (cs := #[.pointer (some ⟨p, 0, none⟩), .int .i64 0, .int .i64 60, .bool true, .int .i64 epoch, u0, .bool z1, .int .i64 y1, u1]) z2_ 5 (.slice A6 n6 c6) rfl
        have r1 := Kd.R_set (Kd.R_set (Kd.R_set (Kd.R_lower HO6.out (show B ≤ D.heap.size from Nat.le_trans HWB.out HI8.out.mv.size)) HKD.out kB_64 3 (.bool true)) z1_ kB_64 4 (.int .i64 epoch)) z2_ kB_64 5 (.slice A6 n6 c6)
        have r2 := Kd.R_set (Kd.R_set (Kd.R_set (Kd.R_below KU18.out HB6.out) HKD.out kB_64 3 (.bool true)) z1_ kB_64 4 (.int .i64 epoch)) z2_ kB_64 5 (.slice A6 n6 c6)
        have d1 := (((HI8.out.dk.below HB6.out).set (i := 3) HKD.out (by decide) (.bool true)).set (i := 4) z1_ (by decide) (.int .i64 epoch)).set (i := 5) z2_ (by decide) (.slice A6 n6 c6)
        have hBq := HI8.out.sl.hB
        have m1 := ((((HI8.out.below HB6.out).mv.mono (T' := 64 :: DT) (Nat.le_refl _) (fun t ht => List.mem_cons_of_mem _ ht)).setCell (i := 3) HKD.out (by simp) hBq (.bool true)).setCell (i := 4) z1_ (by simp) hBq (.int .i64 epoch)).setCell (i := 5) z2_ (by simp) hBq (.slice A6 n6 c6)
        have ke6 := ((Below.heap_setCell _ ⟨q, 5, none⟩ (.slice A6 n6 c6) ge (ty_ne HI8.out.ke KU8.out (by decide))).trans ((Below.heap_setCell _ ⟨q, 4, none⟩ (.int .i64 epoch) ge (ty_ne HI8.out.ke KU8.out (by decide))).trans (Below.heap_setCell w6 ⟨q, 3, none⟩ (.bool true) ge (ty_ne HI8.out.ke KU8.out (by decide))))).trans (blk_below HI8.out.ke HB6.out)
        have Z3 := Aside0.mk z3_
        have R1 := Aside0.mk r1
        have R2 := Aside0.mk r2
        have D1 := Aside0.mk d1
        have M1 := Aside0.mk m1
        have ce13 := blk_cell ke6 0
        simp only [List.getElem?_toArray, List.getElem?_cons_zero] at ce13
        try dsimp only at ce13
        clear es z1_ z2_ z3_ r1 r2 d1 m1 ke6 HKD hHeld
        generalize ((w6.setCell ⟨q, 3, none⟩ (.bool true)).setCell ⟨q, 4, none⟩ (.int .i64 epoch)).setCell ⟨q, 5, none⟩ (.slice A6 n6 c6) = W13 at Z3 R1 R2 D1 M1 ce13 ⊢
        go_wp2
        go_ret
        obtain ⟨hy0, hz0, hy1, hz1⟩ := HYZ.out
        refine ⟨rfl, D1.out, ⟨hBq, ?_⟩, M1.out⟩
        try rw [if_pos rfl]
        exact ⟨_, _, by rw [hy1, hz1]; exact Z3.out, R1.out, R2.out⟩
      · have heF1 := nz_false heF
        go_wp2
        go_ret
        refine ⟨rfl, HI7.out.dk, ?_, HI7.out.mv.mono (Nat.le_refl _) (fun t ht => List.mem_cons_of_mem _ ht)⟩
        try rw [if_neg heF]
        exact HI7.out.sl
set_option maxRecDepth 100000 in
set_option maxHeartbeats 8000000 in
theorem Save_1 {epoch : Int} {A : Option Addr} {n c base : Nat} {ok : Nat → Prop} {b : List Int} (H : Hv w) (hB0 : 0 < B) (hd : Dk B w p L [] st lf) (hs : SlAt B w q p x0 x1) (hL : L.length = 122) (hlf : 0 ≤ lf ∧ lf ≤ 1000) (hb : Kd.R (Kd.int .u8) 5 w base ok (.slice A n c) b) (hn0 : 0 < n) (hn : n ≤ 3240) (hl : lastE x0 x1 < epoch) (hl0 : 0 ≤ lastE x0 x1) (hm : epoch ≤ 2147483647) (h0 : x0.b.length ≤ 100000) (h1 : x1.b.length ≤ 100000) (hk : whichP x0 x1 = 0) :
    Calls Tryd.prog 10 #[.pointer (some ⟨q, 0, none⟩), .slice A n c, .int .i64 epoch] w fun e w' => e = .returned (.int .i64 (saveS st L lf 1 epoch b).e) ∧ Dk B w' p (saveS st L lf 1 epoch b).L (saveS st L lf 1 epoch b).ws st (saveS st L lf 1 epoch b).lf ∧ SlAt B w' q p x0 (if (saveS st L lf 1 epoch b).e = 0 then ⟨true, epoch, b⟩ else x1) ∧ Mv B (64 :: DT) w w' := by
  have hbn : b.length = n := (Kd.R_reads' hb).1.symm
  have hw0 := blk_lt (hd.blk.choose_spec.choose_spec.choose_spec.1)
  have hwB : B ≤ w.heap.size := by have := hd.hB; omega
  obtain ⟨hqB, v0, v1, kq, kq0, kq1⟩ := id hs
  have CL := Aside0.mk (fun W (hw : Below w.heap.size w W) => Latest_any (hs.below hw) h0 h1)
  have CWh := Aside0.mk (fun W (hw : Below w.heap.size w W) => Which_calls (hs.below hw))
  obtain ⟨le, hle⟩ : ∃ le, lastE x0 x1 = le := ⟨_, rfl⟩
  rw [hle] at CL hl hl0
  have hc1 : (epoch ≤ le) = False := eq_false (by omega)
  have hc2 : (2147483647 < epoch) = False := eq_false (by omega)
  have hc3 : (3240 < (n : Int)) = False := eq_false (by omega)
  rw [hk] at CWh
  have CC := Aside0.mk (fun W (hw : Below w.heap.size w W) => (show Calls Tryd.prog 32 #[.slice A n c, .int .i64 epoch] W (GivesCut (cutL b epoch ((n + 53) / 54)) W) from by
    obtain ⟨A', c', e, hsb⟩ := own_sbN hb hbn
    injection e with e1 e2 e3
    subst e1 e3
    exact Cut_calls (H.below hw) (hsb.below hw) ⟨by omega, hm⟩ hn))
  have CB := Aside0.mk (fun W (c1 : W.cell? ⟨q, 1, none⟩ = some (.int .i64 0)) (c2 : W.cell? ⟨q, 2, none⟩ = some (.int .i64 60)) => (show Calls Tryd.prog 33 #[.pointer (some ⟨q, 0, none⟩), .int .i64 1] W (fun e w' => e = .returned (.int .i64 61) ∧ Drawn0 W w') from begin_calls (w := W) c1 c2 (k := 1) (by omega)))
  have KQ := Aside0.mk kq
  have HKK := Aside0.mk hk
  have cq0 := blk_cell kq 0
  have cq2 := blk_cell kq 2
  simp only [List.getElem?_toArray, List.getElem?_cons_zero, List.getElem?_cons_succ] at cq0 cq2
  have HD := Aside0.mk hd
  have HS := Aside0.mk hs
  have HBB := Aside0.mk hb
  have HH := Aside0.mk H
  have HWB := Aside0.mk hwB
  have HQL := Aside0.mk (blk_lt kq)
  clear H hd hs hb kq kq0 kq1 hk hw0 hwB h0 h1 hqB
  obtain ⟨SF, hSF⟩ : ∃ SF, saveS st L lf 1 epoch b = SF := ⟨_, rfl⟩
  rw [hSF]
  have HSF := Aside0.mk hSF
  clear hSF
  go_enter Tryd.func10, Tryd.ntmps10
  go_upto_region 1 with (fail)
  have kg := World.alloc_heap_new w (.cells #[.pointer (some ⟨q, 0, none⟩)] 28)
  have hb1 := below_alloc (Below.refl _ w) (.cells #[.pointer (some ⟨q, 0, none⟩)] 28)
  have KG := Aside0.mk kg
  have HB0 := Aside0.mk hb1
  have HWL := Aside0.mk (show w.heap.size < (w.alloc (.cells #[.pointer (some ⟨q, 0, none⟩)] 28)).heap.size by simp)
  have cq0a := (hb1.cell (World.block_lt_of_cell? w _ cq0)).trans cq0
  have cq2a := (hb1.cell (World.block_lt_of_cell? w _ cq2)).trans cq2
  have cs0 := blk_cell kg 0
  simp only [List.getElem?_toArray, List.getElem?_cons_zero] at cs0
  clear kg hb1 cq0 cq2
  generalize w.alloc (.cells #[.pointer (some ⟨q, 0, none⟩)] 28) = W0 at KG HB0 HWL cq0a cq2a cs0 ⊢
  obtain ⟨gs, hgs⟩ : ∃ g, w.heap.size = g := ⟨_, rfl⟩
  rw [show Value.pointer (some ⟨w.heap.size, 0, none⟩) = Value.pointer (some ⟨gs, 0, none⟩) from by rw [hgs]]
  rw [hgs] at KG cs0
  have HGS := Aside0.mk hgs
  clear hgs
  go_upto_region 8 with (go_at_call 12; (with_reducible refine (CL.out _ HB0.out).mono ?_); rintro e w1 ⟨vv, oo, rfl, hb1⟩; have HB1 := Aside0.mk (below_step HB0.out hb1); have KG1 := Aside0.mk (blk_below KG.out hb1); have cs1 := blk_cell KG1.out 0; simp only [List.getElem?_toArray, List.getElem?_cons_zero] at cs1; have cq0b := (hb1.cell (World.block_lt_of_cell? W0 _ cq0a)).trans cq0a; have cq2b := (hb1.cell (World.block_lt_of_cell? W0 _ cq2a)).trans cq2a; clear hb1 cq0a cq2a cs0)
  go_upto_region 11 with (go_at_call 31; (with_reducible refine (CWh.out _ HB1.out).mono ?_); rintro e w2 ⟨rfl, hb2⟩; have HB2 := Aside0.mk (below_step HB1.out hb2); have KG2 := Aside0.mk (blk_below KG1.out hb2); have cs2 := blk_cell KG2.out 0; simp only [List.getElem?_toArray, List.getElem?_cons_zero] at cs2; have cq0c := (hb2.cell (World.block_lt_of_cell? w1 _ cq0b)).trans cq0b; have cq2c := (hb2.cell (World.block_lt_of_cell? w1 _ cq2b)).trans cq2b; clear hb2 cq0b cq2b cs1)
  go_upto_region 12 with (go_at_call 32; (with_reducible refine (CC.out _ HB2.out).mono ?_); rintro e w3 ⟨v3, rfl, ho3, hb3⟩; obtain ⟨A3, c3, rfl⟩ := Kd.R_slice ho3; have HO3 := Aside0.mk (Kd.R_lower ho3 HB2.out.size); have HB3 := Aside0.mk (below_step HB2.out hb3); have KG3 := Aside0.mk (blk_below KG2.out hb3); have cq0d := (hb3.cell (World.block_lt_of_cell? w2 _ cq0c)).trans cq0c; have cq2d := (hb3.cell (World.block_lt_of_cell? w2 _ cq2c)).trans cq2c; clear hb3 ho3 cq0c cq2c cs2)
  rw [cutL_len] at HO3
  rw [cutL_len]
  obtain ⟨N, hN⟩ : ∃ N, (n + 53) / 54 = N := ⟨_, rfl⟩
  obtain ⟨cs, hcs⟩ : ∃ cs, cutL b epoch N = cs := ⟨_, rfl⟩
  rw [hN] at HO3
  rw [hcs] at HO3
  rw [hN]
  have kg := World.alloc_heap_new w3 (.cells #[.int .i64 0] 25)
  have hb1 := below_alloc HB3.out (.cells #[.int .i64 0] 25)
  have hb2 := below_alloc (Below.refl _ w3) (.cells #[.int .i64 0] 25)
  have KE := Aside0.mk kg
  have HB4 := Aside0.mk hb1
  have HO4 := Aside0.mk (Kd.R_below HO3.out hb2)
  have KG4 := Aside0.mk (blk_below KG3.out hb2)
  have cq0e := (hb2.cell (World.block_lt_of_cell? w3 _ cq0d)).trans cq0d
  have cq2e := (hb2.cell (World.block_lt_of_cell? w3 _ cq2d)).trans cq2d
  have hgl : w.heap.size ≤ w3.heap.size := HB3.out.size
  clear hb1 hb2 kg HB3 HO3 KG3 cq0d cq2d
  generalize w3.alloc (.cells #[.int .i64 0] 25) = W4 at KE HB4 HO4 KG4 cq0e cq2e ⊢
  obtain ⟨ge, hge⟩ : ∃ g, w3.heap.size = g := ⟨_, rfl⟩
  rw [show Value.pointer (some ⟨w3.heap.size, 0, none⟩) = Value.pointer (some ⟨ge, 0, none⟩) from by rw [hge]]
  rw [hge] at KE hgl
  have HGE := Aside0.mk hgl
  clear hge hgl
  have ce4 := blk_cell KE.out 0
  simp only [List.getElem?_toArray, List.getElem?_cons_zero] at ce4
  have cq1e := (HB4.out.cell (p := ⟨q, 1, none⟩) (World.block_lt_of_cell? w _ (blk_cell KQ.out 1))).trans (blk_cell KQ.out 1)
  simp only [List.getElem?_toArray, List.getElem?_cons_zero, List.getElem?_cons_succ] at cq1e
  have CB4 := Aside0.mk (CB.out _ cq1e cq2e)
  have cs4 := blk_cell KG4.out 0
  simp only [List.getElem?_toArray, List.getElem?_cons_zero] at cs4
  clear cq1e cq2e
  go_upto_region 14 with (fail)
  go_upto_region 15 with (go_at_call 33; (with_reducible refine CB4.out.mono ?_); rintro e w5 ⟨rfl, hdr⟩; have hwd := hdr.below; have HB5 := Aside0.mk (below_step HB4.out hwd); have HO5 := Aside0.mk (Kd.R_below HO4.out hwd); have KG5 := Aside0.mk (blk_below KG4.out hwd); have KE5 := Aside0.mk (blk_below KE.out hwd); clear hwd hdr cq0e ce4 cs4)
  have kg := World.alloc_heap_new w5 (.cells #[.int .i64 62] 3)
  have hb1 := below_alloc HB5.out (.cells #[.int .i64 62] 3)
  have hb2 := below_alloc (Below.refl _ w5) (.cells #[.int .i64 62] 3)
  have hgl : w.heap.size ≤ w5.heap.size := HB5.out.size
  have KA6 := Aside0.mk kg
  have HB6 := Aside0.mk hb1
  have HO6 := Aside0.mk (Kd.R_below HO5.out hb2)
  have KG6 := Aside0.mk (blk_below KG5.out hb2)
  have KE6 := Aside0.mk (blk_below KE5.out hb2)
  clear kg hb1 hb2 HB5 HO5 KG5 KE5
  generalize w5.alloc (.cells #[.int .i64 62] 3) = W6 at KA6 HB6 HO6 KG6 KE6 ⊢
  obtain ⟨ga, hga⟩ : ∃ g, w5.heap.size = g := ⟨_, rfl⟩
  rw [show Value.pointer (some ⟨w5.heap.size, 0, none⟩) = Value.pointer (some ⟨ga, 0, none⟩) from by rw [hga]]
  rw [hga] at KA6 hgl
  have HGA := Aside0.mk hgl
  clear hga hgl
  have HI0 : Aside0 (SvI B w p q gs ge ga st x0 x1 (.slice A3 N c3) cs ⟨0, L, [], lf⟩ 62 W6) := ⟨⟨HD.out.below HB6.out, KG6.out, KE6.out, KA6.out, HS.out.below HB6.out, .of_below HB6.out, HO6.out, HQL.out, HWB.out, HGE.out, HGA.out⟩⟩
  have HSD : Aside0 (∀ i, i ≤ N → DOk st (wsD st ⟨0, L, [], lf⟩ 62 cs i) i) := ⟨wsD_ok N ⟨hL, by simp, by simp, hlf⟩ (fun i hi => by rw [← hcs]; exact cutL_64 _ _ _ _ hi) (by omega)⟩
  have H64 : Aside0 (∀ i, i < N → (cs.getD i []).length = 64) := ⟨fun i hi => by rw [← hcs]; exact cutL_64 _ _ _ _ hi⟩
  have hNlen : cs.length = N := by rw [← hcs, cutL_len]
  have HNL := Aside0.mk hNlen
  have HCS := Aside0.mk hcs
  have HN := Aside0.mk hN
  have hN60 : N ≤ 60 := by omega
  have hN1 : 1 ≤ N := by omega
  have HLE := Aside0.mk hle
  clear HB6 KG6 KE6 KA6 HO6 hcs hN hNlen CL CWh CC hle
  go_wp2
  obtain ⟨S, hS⟩ : ∃ S : Nat → D4, wsD st ⟨0, L, [], lf⟩ 62 cs = S := ⟨_, rfl⟩
  have HS0 : Aside0 (S 0 = ⟨0, L, [], lf⟩) := ⟨by rw [← hS]; rfl⟩
  have HSS : Aside0 (∀ i, S (i + 1) = wD st (S i) (62 + i) (cs.getD i [])) := ⟨fun i => by rw [← hS]; rfl⟩
  rw [hS] at HSD
  have HSE := Aside0.mk hS
  clear hS
  go_loopw [70] (fun v70 wr => ∃ i a : Nat, v70 = .int .i64 (i : Int) ∧ i ≤ N ∧ Aside0 ((S i).e = 0 → a = 62 + i) ∧ Aside0 (a ≤ 62 + i) ∧ Aside0 (SvI B w p q gs ge ga st x0 x1 (.slice A3 N c3) cs (S i) a wr)) (fun v70 _ => N - (intOf v70).toNat)
  case atStart => exact ⟨0, 62, rfl, Nat.zero_le _, ⟨fun _ => rfl⟩, ⟨by omega⟩, ⟨by rw [HS0.out]; exact HI0.out⟩⟩
  case round =>
    obtain ⟨i, a, rfl, hi, HA, HAL, HI⟩ := hrel
    by_cases hlt : i < N
    · have hlt' : (i : Int) < (N : Int) := by omega
      obtain ⟨ad, ca, hva⟩ := Kd.R_slice1 HI.out.ck (show 0 < cs.length by rw [HNL.out]; omega)
      obtain ⟨rfl, rfl⟩ : A3 = some ad ∧ c3 = ca := by
        injection hva with h1 h2 h3
        exact ⟨h1, h3⟩
      clear hva
      obtain ⟨cc, _, ⟨vk, rfl, hRk⟩, hcell⟩ := Kd.R_getA HI.out.ck ([] : List Int) (i : Int) (by omega) (by omega)
      rw [Int.toNat_natCast] at hRk
      obtain ⟨Ak, ck, rfl, hSk0⟩ := own_sbN hRk (H64.out i hlt)
      have hc1 : wr.cell? (ad.add i) = some (.slice Ak 64 ck) := by
        have := hcell 0 _ rfl
        rw [Int.toNat_natCast] at this
        rw [show kB.sz = 1 from rfl, Nat.mul_one, Nat.add_zero] at this
        exact this
      have CQ := Aside0.mk (Save1_calls (m := i) HI.out.dk (HSD.out i (by omega)) (by omega) (n := a) (by have := HAL.out; omega) (blk_cell HI.out.sl.blk.choose_spec.choose_spec.1 0) HI.out.kg HI.out.ke HI.out.ka hRk)
      clear hcell hRk hSk0
      go_wp2_with (go_at_call 34; (with_reducible refine CQ.out.mono ?_); rintro e wx ⟨⟨rfl, hd1, he1, hm1⟩, ha1⟩; have HIx : Aside0 (SvI B w p q gs ge ga st x0 x1 (.slice (some ad) N c3) cs (S (i + 1)) (if (S i).e = 0 then a + 1 else a) wx) := ⟨by rw [HSS.out]; have hwq : wD st (S i) a (cs.getD i []) = wD st (S i) (62 + i) (cs.getD i []) := (by unfold wD; split; (rw [HA.out ‹_›]); rfl); rw [← hwq]; exact HI.out.step hd1 hm1 he1 (by rw [ha1]; split <;> rfl)⟩; clear hd1 he1 hm1 ha1)
      go_roundw
      case measure => simp [intOf]; omega
      case rel =>
        refine ⟨i + 1, _, by go_num, by omega, ⟨fun hz => ?_⟩, ⟨?_⟩, HIx⟩
        · have hz' : (S i).e = 0 := by
            rw [HSS.out] at hz
            unfold wD at hz
            split at hz
            · assumption
            · exact hz
          rw [if_pos hz', HA.out hz']
          omega
        · have := HAL.out
          split <;> omega
    · obtain rfl : i = N := by omega
      clear hlt
      have HI1 := HI
      have CQ1 := Aside0.mk (Save2_calls (m := i) HI1.out.dk (HSD.out i (by omega)) (by omega) (blk_cell HI1.out.sl.blk.choose_spec.choose_spec.1 0) HI1.out.kg HI1.out.ke)
      go_upto_region 23 with (go_at_call 36; (with_reducible refine CQ1.out.mono ?_); rintro e w7 ⟨rfl, hd1, he1, hm1⟩; have HI2 : Aside0 (SvI B w p q gs ge ga st x0 x1 (.slice A3 i c3) cs (fD st (S i)) a w7) := ⟨HI1.out.step hd1 (hm1.X (by simp)) he1 (hm1.blk HI1.out.ka (by decide) (by simpa using ty_ne HI1.out.ka HI1.out.ke (by decide)))⟩; clear hd1 he1 hm1)
      have CB7 := Aside0.mk (CB.out w7 (blk_cell HI2.out.sl.blk.choose_spec.choose_spec.1 1) (blk_cell HI2.out.sl.blk.choose_spec.choose_spec.1 2))
      have cs7 := blk_cell HI2.out.kg 0
      simp only [List.getElem?_toArray, List.getElem?_cons_zero] at cs7
      go_upto_region 24 with (go_at_call 33; (with_reducible refine CB7.out.mono ?_); rintro e w8 ⟨rfl, hdr⟩; have HI3 := Aside0.mk (HI2.out.below hdr.below); have ca8 := blk_cell HI3.out.ka 0; have fa8 := blk_frozen HI3.out.ka 0; simp only [List.getElem?_toArray, List.getElem?_cons_zero] at ca8; clear hdr cs7)
      have HI4 : Aside0 (SvI B w p q gs ge ga st x0 x1 (.slice A3 i c3) cs (fD st (S i)) 61 (w8.setCell ⟨ga, 0, none⟩ (.int .i64 61))) := ⟨HI3.out.put (a' := 61)⟩
      clear ca8 fa8
      generalize w8.setCell ⟨ga, 0, none⟩ (.int .i64 61) = W9 at HI4 ⊢
      have HH9 : Aside0 (Hv W9) := ⟨fun j hj => HI4.out.mv.cell (HH.out j hj) (fun hx => by have := hx.1; simp at this; omega)⟩
      have CHd := Aside0.mk (headed_calls (k := 1) (epoch := epoch) (size := (n : Int)) HH9.out)
      have HDO := Aside0.mk (HSD.out i (by omega)).fD
      go_upto_region 25 with (first
        | (go_at_call 38; (with_reducible refine CHd.out.mono ?_); rintro e w10 ⟨v10, rfl, ho10, hb10⟩; obtain ⟨A10, c10, rfl, _⟩ := own_sbN ho10 (headB_len _ _ _); have HI5 := Aside0.mk (HI4.out.below hb10); have CQ2 := Aside0.mk (Save1_calls (m := i) HI5.out.dk HDO.out (by omega) (n := 61) (by omega) (blk_cell HI5.out.sl.blk.choose_spec.choose_spec.1 0) HI5.out.kg HI5.out.ke HI5.out.ka ho10); clear ho10 hb10)
        | (go_at_call 34; (with_reducible refine CQ2.out.mono ?_); rintro e w11 ⟨⟨rfl, hd1, he1, hm1⟩, ha1⟩; have HI6 : Aside0 (SvI B w p q gs ge ga st x0 x1 (.slice A3 i c3) cs (wD st (fD st (S i)) 61 (headB 1 epoch (n : Int))) (if (fD st (S i)).e = 0 then 61 + 1 else 61) w11) := ⟨HI5.out.step hd1 hm1 he1 (by rw [ha1]; split <;> rfl)⟩; clear hd1 he1 hm1 ha1))
      have HDO2 := Aside0.mk (HDO.out.wD (n := 61) (b := headB 1 epoch (n : Int)) (by omega) (headB_len _ _ _))
      obtain ⟨a6, ha6⟩ : ∃ a6, (if (fD st (S i)).e = 0 then 61 + 1 else 61) = a6 := ⟨_, rfl⟩
      rw [ha6] at HI6
      clear ha6
      have CQ3 := Aside0.mk (Save2_calls (m := i + 1) HI6.out.dk HDO2.out (by omega) (blk_cell HI6.out.sl.blk.choose_spec.choose_spec.1 0) HI6.out.kg HI6.out.ke)
      have hfin : fD st (wD st (fD st (S i)) 61 (headB 1 epoch (n : Int))) = SF := by
        rw [← HSF.out]
        unfold saveS
        rw [hbn, HN.out, HCS.out, show (61 * 1 + 1 : Nat) = 62 from rfl, HSE.out]
        rfl
      rw [hfin] at CQ3
      clear hfin
      go_upto_region 26 with (go_at_call 36; (with_reducible refine CQ3.out.mono ?_); rintro e w12 ⟨rfl, hd1, he1, hm1⟩; have HI7 : Aside0 (SvI B w p q gs ge ga st x0 x1 (.slice A3 i c3) cs SF a6 w12) := ⟨HI6.out.step hd1 (hm1.X (by simp)) he1 (hm1.blk HI6.out.ka (by decide) (by simpa using ty_ne HI6.out.ka HI6.out.ke (by decide)))⟩; clear hd1 he1 hm1)
      obtain ⟨eF, LF, wsF, lfF⟩ := SF
      have ce12 := blk_cell HI7.out.ke 0
      simp only [List.getElem?_toArray, List.getElem?_cons_zero] at ce12
      try dsimp only at ce12
      try dsimp only
      by_cases heF : eF = 0
      · subst heF
        go_upto_region 27 with (fail)
        obtain ⟨u0, u1, ku, ku0, ku1⟩ := HI7.out.sl.blk
        have KU := Aside0.mk ku
        have KU0 := Aside0.mk ku0
        have KU1 := Aside0.mk ku1
        have HB7 := Aside0.mk (HI7.out.mv.R HBB.out (kB_E1 (by decide)))
        clear ku ku0 ku1 ce12
        obtain ⟨y0, hy0⟩ : ∃ y, x0.e = y := ⟨_, rfl⟩
        obtain ⟨z0, hz0⟩ : ∃ y, x0.s = y := ⟨_, rfl⟩
        obtain ⟨y1, hy1⟩ : ∃ y, x1.e = y := ⟨_, rfl⟩
        obtain ⟨z1, hz1⟩ : ∃ y, x1.s = y := ⟨_, rfl⟩
        rw [hy0, hz0, hy1, hz1] at KU
        have HYZ := Aside0.mk (And.intro hy0 (And.intro hz0 (And.intro hy1 hz1)))
        clear hy0 hz0 hy1 hz1
        refine start_ (n := 11) (S := fun w' => w'.heap[gs]? = some (.cells #[.pointer (some ⟨q, 0, none⟩)] 28 (0, 0))) (ds := [10]) #[false, false, false, false, false, false, false, false, false, false, false] (by kernel_rfl) rfl rfl HI7.out.kg (fun hHeld => ?_)
        have HB8 := Aside0.mk (below_drew (Below.refl w12.heap.size w12))
        have HI8 := Aside0.mk (HI7.out.below HB8.out)
        have KU8 := Aside0.mk (blk_below KU.out HB8.out)
        have KC8 := Aside0.mk (Kd.C_below (Kd.R_reads' HB7.out).2.2 HB8.out)
        have KU08 := Aside0.mk (Kd.R_below KU0.out HB8.out)
        have KU18 := Aside0.mk (Kd.R_below KU1.out HB8.out)
        clear HB8 HI7 KU HB7 KU0 KU1
        generalize w12.drew = D at HI8 KU8 KC8 KU08 KU18 hHeld ⊢
        refine pure_ (i := 1) (N := some 95) (v := ?_) (a' := ?_) #[false, true, false, false, false, false, false, false, false, false, false] rfl rfl (by kernel_rfl) (fun _ _ _ h => h) (Or.inl ⟨by rfl, ?_⟩) ?_ ?_
        rotate_left
        · intro w'
          go_simp
          with_reducible rfl
        rotate_left
        · simp only [Act.put, List.setIfInBounds_toArray, List.set_cons_zero, List.set_cons_succ, i64_w, i32_w]
          rfl
        refine pure_ (i := 2) (N := some 96) (v := ?_) (a' := ?_) #[false, true, true, false, false, false, false, false, false, false, false] rfl rfl (by kernel_rfl) (fun _ _ _ h => h) (Or.inl ⟨by rfl, ?_⟩) ?_ ?_
        rotate_left
        · intro w'
          go_simp
          with_reducible rfl
        rotate_left
        · simp only [Act.put, List.setIfInBounds_toArray, List.set_cons_zero, List.set_cons_succ, i64_w, i32_w]
          rfl
        refine pure_ (i := 4) (N := some 98) (v := ?_) (a' := ?_) #[false, true, true, false, true, false, false, false, false, false, false] rfl rfl (by kernel_rfl) (fun _ _ _ h => h) (Or.inl ⟨by rfl, ?_⟩) ?_ ?_
        rotate_left
        · intro w'
          go_simp
          with_reducible rfl
        rotate_left
        · simp only [Act.put, List.setIfInBounds_toArray, List.set_cons_zero, List.set_cons_succ, i64_w, i32_w]
          rfl
        refine take_ (i := 0) (N := some 94) (v := ?_) (a' := ?_) #[true, true, true, false, true, false, false, false, false, false, false] rfl rfl (by kernel_rfl) (fun _ _ _ h => h) (Or.inl ⟨by rfl, ?_⟩) hHeld ?_ ?_
        rotate_left
        · rintro w' hq
          have c1 := blk_cell hq 0
          simp only [List.getElem?_toArray, List.getElem?_cons_zero] at c1
          go_simp
          with_reducible rfl
        rotate_left
        · simp only [Act.put, List.setIfInBounds_toArray, List.set_cons_zero, List.set_cons_succ, i64_w, i32_w]
          rfl
        refine pure_ (i := 7) (N := some 101) (v := ?_) (a' := ?_) #[true, true, true, false, true, false, false, true, false, false, false] rfl rfl (by kernel_rfl) (fun _ _ _ h => h) (Or.inl ⟨by rfl, ?_⟩) ?_ ?_
        rotate_left
        · intro w'
          go_simp
          with_reducible rfl
        rotate_left
        · simp only [Act.put, List.setIfInBounds_toArray, List.set_cons_zero, List.set_cons_succ, i64_w, i32_w]
          rfl
        refine pure_ (i := 8) (N := some 102) (v := ?_) (a' := ?_) #[true, true, true, false, true, false, false, true, true, false, false] rfl rfl (by kernel_rfl) (fun _ _ _ h => h) (Or.inl ⟨by rfl, ?_⟩) ?_ ?_
        rotate_left
        · intro w'
          go_simp
          with_reducible rfl
        rotate_left
        · simp only [Act.put, List.setIfInBounds_toArray, List.set_cons_zero, List.set_cons_succ, i64_w, i32_w]
          rfl
        refine one_ (i := 3) (N := some 97) #[true, true, true, true, true, false, false, true, true, false, false] rfl rfl (by kernel_rfl) (by decide) (fun K hK => ?_)
        refine step_run rfl rfl (v := .slice (some ⟨D.heap.size, 0, none⟩) 0 0) (w' := D.alloc (.cells #[] 5)) (by go_simp) ?_
        refine hK.out _ _ (blk_alloc hHeld _) (fun hHeld => ?_)
        clear hK K
        refine norm_ (a' := ?_) ?_ ?_
        rotate_left
        · show Act.put _ (some 97) _ = _
          simp only [Act.put, List.setIfInBounds_toArray, List.set_cons_zero, List.set_cons_succ, i64_w, i32_w]
          rfl
        have HO0 : Aside0 (Kd.R (Kd.int .u8) 5 (D.alloc (.cells #[] 5)) D.heap.size (fun _ => True) (.slice (some ⟨D.heap.size, 0, none⟩) 0 0) []) := ⟨Kd.R_of_own (enc := Value.int .u8) (xs := []) (own_lit D D.heap.size 5 .u8 [] (Nat.le_refl _) (by simp)) (fun _ _ => trivial)⟩
        have HB0' := Aside0.mk (below_alloc (Below.refl D.heap.size D) (.cells #[] 5))
        have KC0 := Aside0.mk (Kd.C_below KC8.out HB0'.out)
        refine one_ (i := 5) (N := some 99) #[true, true, true, true, true, true, false, true, true, false, false] rfl rfl (by kernel_rfl) (by decide) (fun K hK => ?_)
        refine Kd.R_append_rows_step (Kd.int .u8) (w0 := D) D.heap.size (by rfl) (.tmp 97) (.tmp 98) 40 5 (.int .u8 0) 1 rfl Tryd.underlying40 info5 rfl (by decide) (by omega) (.slice (some ⟨D.heap.size, 0, none⟩) 0 0) ([]) b _ _ _ (fun _ => True) (fun _ => False) rfl rfl HO0.out (by have := KC0.out; rw [hbn] at this; exact this) (fun _ _ h => h) (fun _ h => h.elim) (fun _ _ => trivial) HB0'.out HB0'.out.size (by simp; omega) ?_
        intro v6 w6 ho6 hb6 hg6 hn6
        obtain ⟨A6, c6, rfl⟩ := Kd.R_slice ho6
        have HO6 := Aside0.mk ho6
        have HB6 := Aside0.mk hb6
        obtain ⟨n6, hnx⟩ : ∃ n6, (([] : List Int) ++ b).length = n6 := ⟨_, rfl⟩
        rw [hnx] at HO6 ⊢
        clear hg6 hn6 ho6 hb6 hnx
        refine hK.out _ _ (blk_below HI8.out.kg HB6.out) (fun hHeld => ?_)
        clear hK K
        refine norm_ (a' := ?_) ?_ ?_
        rotate_left
        · show Act.put _ (some 99) _ = _
          simp only [Act.put, List.setIfInBounds_toArray, List.set_cons_zero, List.set_cons_succ, i64_w, i32_w]
          rfl
        refine pure_ (i := 6) (N := some 100) (v := ?_) (a' := ?_) #[true, true, true, true, true, true, true, true, true, false, false] rfl rfl (by kernel_rfl) (fun _ _ _ h => h) (Or.inl ⟨by rfl, ?_⟩) ?_ ?_
        rotate_left
        · intro w'
          go_simp
          with_reducible rfl
        rotate_left
        · simp only [Act.put, List.setIfInBounds_toArray, List.set_cons_zero, List.set_cons_succ, i64_w, i32_w]
          rfl
        refine pure_ (i := 9) (N := some 103) (v := ?_) (a' := ?_) #[true, true, true, true, true, true, true, true, true, true, false] rfl rfl (by kernel_rfl) (fun _ _ _ h => h) (Or.inl ⟨by rfl, ?_⟩) ?_ ?_
        rotate_left
        · intro w'
          go_simp
          with_reducible rfl
        rotate_left
        · simp only [Act.put, List.setIfInBounds_toArray, List.set_cons_zero, List.set_cons_succ, i64_w, i32_w]
          rfl
        refine last_ (i := 10) (N := none) #[true, true, true, true, true, true, true, true, true, true, true] rfl rfl (by kernel_rfl) (by decide) (fun K hK => ?_)
        have HKD := Aside0.mk (blk_below KU8.out HB6.out)
        refine step_store rfl rfl rfl rfl rfl (run_store_run 61 (.agg #[.bool true, .int .i64 epoch, .slice A6 n6 c6]) [.bool true, .int .i64 epoch, .slice A6 n6 c6] HKD.out rfl size61 (by simp) (fun v hv => by
          simp only [List.mem_cons, List.not_mem_nil, or_false] at hv
          rcases hv with rfl | rfl | rfl <;> rfl)) ?_
        refine hK.out _ _ ?_
        clear hK K
        refine done_ (by kernel_rfl) ?_
        have es : w6.setCells q 6 [.bool true, .int .i64 epoch, .slice A6 n6 c6] = ((w6.setCell ⟨q, 6, none⟩ (.bool true)).setCell ⟨q, 7, none⟩ (.int .i64 epoch)).setCell ⟨q, 8, none⟩ (.slice A6 n6 c6) := rfl
        rw [es]
        have z1_ := blk_put (cs := #[.pointer (some ⟨p, 0, none⟩), .int .i64 0, .int .i64 60, .bool z0, .int .i64 y0, u0, .bool z1, .int .i64 y1, u1]) HKD.out 6 (.bool true) rfl
        have z2_ := blk_put (cs := #[.pointer (some ⟨p, 0, none⟩), .int .i64 0, .int .i64 60, .bool z0, .int .i64 y0, u0, .bool true, .int .i64 y1, u1]) z1_ 7 (.int .i64 epoch) rfl
        have z3_ := blk_put (cs := #[.pointer (some ⟨p, 0, none⟩), .int .i64 0, .int .i64 60, .bool z0, .int .i64 y0, u0, .bool true, .int .i64 epoch, u1]) z2_ 8 (.slice A6 n6 c6) rfl
        have r1 := Kd.R_set (Kd.R_set (Kd.R_set (Kd.R_lower HO6.out (show B ≤ D.heap.size from Nat.le_trans HWB.out HI8.out.mv.size)) HKD.out kB_64 6 (.bool true)) z1_ kB_64 7 (.int .i64 epoch)) z2_ kB_64 8 (.slice A6 n6 c6)
        have r2 := Kd.R_set (Kd.R_set (Kd.R_set (Kd.R_below KU08.out HB6.out) HKD.out kB_64 6 (.bool true)) z1_ kB_64 7 (.int .i64 epoch)) z2_ kB_64 8 (.slice A6 n6 c6)
        have d1 := (((HI8.out.dk.below HB6.out).set (i := 6) HKD.out (by decide) (.bool true)).set (i := 7) z1_ (by decide) (.int .i64 epoch)).set (i := 8) z2_ (by decide) (.slice A6 n6 c6)
        have hBq := HI8.out.sl.hB
        have m1 := ((((HI8.out.below HB6.out).mv.mono (T' := 64 :: DT) (Nat.le_refl _) (fun t ht => List.mem_cons_of_mem _ ht)).setCell (i := 6) HKD.out (by simp) hBq (.bool true)).setCell (i := 7) z1_ (by simp) hBq (.int .i64 epoch)).setCell (i := 8) z2_ (by simp) hBq (.slice A6 n6 c6)
        have ke6 := ((Below.heap_setCell _ ⟨q, 8, none⟩ (.slice A6 n6 c6) ge (ty_ne HI8.out.ke KU8.out (by decide))).trans ((Below.heap_setCell _ ⟨q, 7, none⟩ (.int .i64 epoch) ge (ty_ne HI8.out.ke KU8.out (by decide))).trans (Below.heap_setCell w6 ⟨q, 6, none⟩ (.bool true) ge (ty_ne HI8.out.ke KU8.out (by decide))))).trans (blk_below HI8.out.ke HB6.out)
        have Z3 := Aside0.mk z3_
        have R1 := Aside0.mk r1
        have R2 := Aside0.mk r2
        have D1 := Aside0.mk d1
        have M1 := Aside0.mk m1
        have ce13 := blk_cell ke6 0
        simp only [List.getElem?_toArray, List.getElem?_cons_zero] at ce13
        try dsimp only at ce13
        clear es z1_ z2_ z3_ r1 r2 d1 m1 ke6 HKD hHeld
        generalize ((w6.setCell ⟨q, 6, none⟩ (.bool true)).setCell ⟨q, 7, none⟩ (.int .i64 epoch)).setCell ⟨q, 8, none⟩ (.slice A6 n6 c6) = W13 at Z3 R1 R2 D1 M1 ce13 ⊢
        go_wp2
        go_ret
        obtain ⟨hy0, hz0, hy1, hz1⟩ := HYZ.out
        refine ⟨rfl, D1.out, ⟨hBq, ?_⟩, M1.out⟩
        try rw [if_pos rfl]
        exact ⟨_, _, by rw [hy0, hz0]; exact Z3.out, R2.out, R1.out⟩
      · have heF1 := nz_false heF
        go_wp2
        go_ret
        refine ⟨rfl, HI7.out.dk, ?_, HI7.out.mv.mono (Nat.le_refl _) (fun t ht => List.mem_cons_of_mem _ ht)⟩
        try rw [if_neg heF]
        exact HI7.out.sl
end
end Go.Proofs.YtenjldfflkinkaaDoor.Sav

namespace Go.Proofs.YtenjldfflkinkaaDoor.Sav
set_option linter.unusedVariables false
set_option linter.unusedSimpArgs false
open Go.RowKit Go.Proofs.YtenjldfflkinkaaDoor.F Go.Proofs.YtenjldfflkinkaaDoorW.PrintWords Go.Proofs.YtenjldfflkinkaaDoorW.PrintLast Go.Proofs.YtenjldfflkinkaaDoorW.PrintMore
open Go.Proofs.YtenjldfflkinkaaDoor.Rop (Sl Ch ChV CV ChAt Rc Ro SV SP StOk rightE scl NoI noI_sl noI_64 blk_noI Put1 own_sl upd upd_same upd_ne But C3)
set_option linter.unusedSectionVars false
variable [Coe Unit Nat]
theorem size31 : (Tryd.prog.info? 31).map (·.size) = some 1 := by kernel_rfl
theorem store_1 {w : World} {g o e t : Nat} {cur : Array Value} {u : Value} (hh : w.heap[g]? = some (.cells cur e (0, 0))) (ht : (Tryd.prog.info? t).map (·.size) = some 1) (ho : o < cur.size) (hu : u.cells = #[u]) (h1 : u.oneCell' = true) : (Instr.storeAt t (.pointer (some ⟨g, o, none⟩)) u).run Tryd.prog w = .ok () (w.setCell ⟨g, o, none⟩ u) :=
  (run_store_run t u [u] hh (by rw [hu]) ht (by simp; omega) (fun q hq => by rw [List.mem_singleton.1 hq]; exact h1)).trans rfl
/-- all that was there stays, but for three blocks -/
structure Kb (wi W : World) (g gc gs : Nat) : Prop where
  sz : wi.heap.size ≤ W.heap.size
  at_ : ∀ k, k < wi.heap.size → k ≠ g → k ≠ gc → k ≠ gs → W.heap[k]? = wi.heap[k]?
theorem Kb.put {wi W W' : World} {g gc gs q : Nat} (h : Kb wi W g gc gs) (hp : Put1 W W' q) (hq : q = g ∨ q = gc ∨ q = gs) : Kb wi W' g gc gs :=
  ⟨Nat.le_trans h.sz hp.1, fun k hk h1 h2 h3 => (hp.2 k (Nat.lt_of_lt_of_le hk h.sz) (fun e => by rcases hq with h | h | h <;> subst h <;> contradiction)).trans (h.at_ k hk h1 h2 h3)⟩
theorem Kb.below {wi W W' : World} {g gc gs : Nat} (h : Kb wi W g gc gs) (hb : Below W.heap.size W W') : Kb wi W' g gc gs := ⟨Nat.le_trans h.sz hb.size, fun k hk h1 h2 h3 => (hb.block k (Nat.lt_of_lt_of_le hk h.sz)).trans (h.at_ k hk h1 h2 h3)⟩
theorem Kb.refl (W : World) (g gc gs : Nat) : Kb W W g gc gs := ⟨Nat.le_refl _, fun _ _ _ _ _ => rfl⟩
/-- what the closure works on -/
structure Bx (w0 wi W : World) (g g0 gc gs : Nat) (x : Int) (a b c : Value) (l : List Int) : Prop where
  k0 : W.heap[g0]? = some (.cells #[.pointer (some ⟨g, 0, none⟩)] 98 (0, 0))
  kc : W.heap[gc]? = some (.cells #[.int .i64 x] 3 (0, 0))
  ks : C3 W gs a b c
  r : RdE w0 W g l
  b0 : w0.heap.size ≤ gc
  b1 : w0.heap.size ≤ gs
  kb : Kb wi W g gc gs
theorem Bx.ne {w0 wi W : World} {g g0 gc gs : Nat} {x : Int} {a b c : Value} {l : List Int} (h : Bx w0 wi W g g0 gc gs x a b c l) : g0 ≠ g ∧ gc ≠ g ∧ gs ≠ g ∧ g0 ≠ gc ∧ gs ≠ gc ∧ g0 ≠ gs := by
  obtain ⟨A, n, c', hg⟩ := h.r.blk
  exact ⟨ty_ne h.k0 hg (by decide), ty_ne h.kc hg (by decide), ty_ne h.ks hg (by decide), ty_ne h.k0 h.kc (by decide), ty_ne h.ks h.kc (by decide), ty_ne h.k0 h.ks (by decide)⟩
/-- behind a reading -/
theorem Bx.put {w0 wi W W' : World} {g g0 gc gs : Nat} {x : Int} {a b c : Value} {l l' : List Int} (h : Bx w0 wi W g g0 gc gs x a b c l) (hp : Put1 W W' g) (hr : RdE w0 W' g l') : Bx w0 wi W' g g0 gc gs x a b c l' := by
  obtain ⟨n1, n2, n3, n4, n5, n6⟩ := h.ne
  exact ⟨hp.blk h.k0 n1, hp.blk h.kc n2, hp.blk h.ks n3, hr, h.b0, h.b1, h.kb.put hp (.inl rfl)⟩
theorem Bx.below {w0 wi W W' : World} {g g0 gc gs : Nat} {x : Int} {a b c : Value} {l : List Int} (h : Bx w0 wi W g g0 gc gs x a b c l) (hb : Below W.heap.size W W') : Bx w0 wi W' g g0 gc gs x a b c l := ⟨blk_below h.k0 hb, blk_below h.kc hb, h.ks.below hb, h.r.below hb, h.b0, h.b1, h.kb.below hb⟩
theorem Bx.setc {w0 wi W : World} {g g0 gc gs : Nat} {x : Int} {a b c : Value} {l : List Int} (h : Bx w0 wi W g g0 gc gs x a b c l) (y : Int) : Bx w0 wi (W.setCell ⟨gc, 0, none⟩ (.int .i64 y)) g g0 gc gs y a b c l := by
  obtain ⟨n1, n2, n3, n4, n5, n6⟩ := h.ne
  exact ⟨(Below.heap_setCell _ _ _ _ n4).trans h.k0, set_blk h.kc, (Below.heap_setCell _ _ _ _ n5).trans h.ks, h.r.far (Ne.symm n2) h.b0 _, h.b0, h.b1, h.kb.put (Put1.one W gc 0 _) (.inr (.inl rfl))⟩
theorem Bx.set {w0 wi W : World} {g g0 gc gs : Nat} {x : Int} {a b c : Value} {l : List Int} (h : Bx w0 wi W g g0 gc gs x a b c l) (i : Nat) (u : Value) {a' b' c' : Value} (he : (#[a, b, c] : Array Value).setIfInBounds i u = #[a', b', c']) : Bx w0 wi (W.setCell ⟨gs, i, none⟩ u) g g0 gc gs x a' b' c' l := by
  obtain ⟨n1, n2, n3, n4, n5, n6⟩ := h.ne
  refine ⟨(Below.heap_setCell _ _ _ _ n6).trans h.k0, (Below.heap_setCell _ _ _ _ (Ne.symm n5)).trans h.kc, ?_, h.r.far (Ne.symm n3) h.b1 _, h.b0, h.b1, h.kb.put (Put1.one W gs i _) (.inr (.inr rfl))⟩
  have := set_blk (i := i) (u := u) h.ks
  rw [he] at this
  exact this
theorem Bx.noS {w0 wi W : World} {g g0 gc gs : Nat} {x : Int} {A B C : Option Addr} {n m k n' m' k' : Nat} {l : List Int} (h : Bx w0 wi W g g0 gc gs x (.slice A n n') (.slice B m m') (.slice C k k') l) : ∀ (a : Addr) (v : Value), a.block = gs → W.cell? a = some v → NoI v := h.ks.noI
set_option maxRecDepth 100000 in
set_option maxHeartbeats 8000000 in
theorem RS1_calls {w0 w : World} {g g0 gc gs : Nat} {v : SV} {s : SP} {k : Int} (h : Bx w0 w w g g0 gc gs 0 (.slice none 0 0) (.slice none 0 0) (.slice none 0 0) (stateB k v s)) (hk : 0 ≤ k ∧ k ≤ 2147483647) (hn : s.text.length ≤ 5000) (hs : ∀ r ∈ s.text, scal r) (h1 : v.n1 ≤ 100) (h2 : v.n2 ≤ 100) (hx1 : ∀ i, i < v.n1 → ChR (s.x1 i)) (hx2 : ∀ i, i < v.n2 → ChR (s.x2 i)) (hw : w0.heap.size ≤ w.heap.size) :
    Calls Tryd.prog 41 #[.pointer (some ⟨g0, 0, none⟩), .pointer (some ⟨gc, 0, none⟩), .pointer (some ⟨gs, 0, none⟩)] w fun e w' => e = .returned (.tuple #[]) ∧ ∃ A n c A1 c1 v1 A2 c2 v2, Bx w0 w w' g g0 gc gs k (.slice A n c) (.slice A1 v.n1 c1) (.slice A2 v.n2 c2) [] ∧ Sl w' A n c s.text ∧ Ro w' w0.heap.size A1 v.n1 c1 v1 s.x1 ∧ Ro w' w0.heap.size A2 v.n2 c2 v2 s.x2 := by
  have H0 : Aside0 (Bx w0 w w g g0 gc gs 0 (.slice none 0 0) (.slice none 0 0) (.slice none 0 0) (big4 k ++ (big4 ((utfE s.text).length : Int) ++ (utfE s.text ++ (chsB v.n1 s.x1 ++ (chsB v.n2 s.x2 ++ [])))))) := ⟨by
    have := h
    unfold stateB pieceB at this
    simpa only [List.append_assoc, List.append_nil] using this⟩
  have HX1 := Aside0.mk hx1
  have HX2 := Aside0.mk hx2
  have HSC := Aside0.mk hs
  have HLN := Aside0.mk hn
  have HWW := Aside0.mk hw
  have CN := Aside0.mk (number_e H0.out.r hk)
  have c0 : w.cell? ⟨g0, 0, none⟩ = some (.pointer (some ⟨g, 0, none⟩)) := blk_cell h.k0 0
  clear h hx1 hx2 hs hn hw
  go_enter Tryd.func41, Tryd.ntmps41
  go_upto_region 1 with (go_at_call 42; (with_reducible refine CN.out.mono ?_); rintro e w1 ⟨rfl, hR1, hP1⟩; have H1 := Aside0.mk (H0.out.put hP1 hR1); have HS1 := Aside0.mk (Nat.le_trans HWW.out hP1.1); have m1 : w1.cell? ⟨gc, 0, none⟩ = some (.int .i64 0) := blk_cell H1.out.kc 0; have f1 : w1.frozen? ⟨gc, 0, none⟩ = false := blk_frozen H1.out.kc 0; clear hR1 hP1)
  have H2 := Aside0.mk (H1.out.setc k)
  have HS2 : Aside0 (w0.heap.size ≤ (w1.setCell ⟨gc, 0, none⟩ (.int .i64 k)).heap.size) := ⟨by have := HS1.out; simpa [World.setCell] using this⟩
  generalize w1.setCell ⟨gc, 0, none⟩ (.int .i64 k) = W2 at H2 HS2 ⊢
  clear m1 f1 c0
  refine start_ (n := 6) (S := fun w' => w'.cell? ⟨g0, 0, none⟩ = some (.pointer (some ⟨g, 0, none⟩))) (ds := [5]) #[false, false, false, false, false, false] (by kernel_rfl) rfl rfl (by rw [World.cell?_drew]; exact blk_cell H2.out.k0 0) (fun hHeld => ?_)
  have H3 := Aside0.mk (H2.out.below (below_drew1 (Below.refl _ W2)))
  have HS3 : Aside0 (w0.heap.size ≤ W2.drew.heap.size) := ⟨HS2.out⟩
  generalize W2.drew = D at H3 HS3 hHeld ⊢
  refine take_ (i := 0) (N := some 5) (v := ?_) (a' := ?_) #[true, false, false, false, false, false] rfl rfl (by kernel_rfl) (fun _ _ _ h => h) (Or.inl ⟨by rfl, ?_⟩) hHeld ?_ ?_
  rotate_left
  · rintro w' c1
    go_simp
    with_reducible rfl
  rotate_left
  · simp only [Act.put, List.setIfInBounds_toArray, List.set_cons_zero, List.set_cons_succ, i64_w, i32_w]
    rfl
  refine take_ (i := 1) (N := some 6) (v := ?_) (a' := ?_) #[true, true, false, false, false, false] rfl rfl (by kernel_rfl) (fun _ _ _ h => h) (Or.inl ⟨by rfl, ?_⟩) hHeld ?_ ?_
  rotate_left
  · rintro w' c1
    go_simp
    with_reducible rfl
  rotate_left
  · simp only [Act.put, List.setIfInBounds_toArray, List.set_cons_zero, List.set_cons_succ, i64_w, i32_w]
    rfl
  refine one_ (i := 2) (N := some 7) #[true, true, true, false, false, false] rfl rfl (by kernel_rfl) (by decide) (fun K hK => ?_)
  refine goes_ Tryd.func42 (by kernel_rfl) rfl #[.pointer (some ⟨g, 0, none⟩)] (by rfl) rfl rfl (by (try simp only [List.map_toArray, List.map_cons, List.map_nil]); first | done | rfl) ?_
  (with_reducible refine (number_e H3.out.r (utf_fit HLN.out)).mono ?_)
  rintro e w4 ⟨rfl, hR4, hP4⟩
  have H4 := Aside0.mk (H3.out.put hP4 hR4)
  have HS4 := Aside0.mk (Nat.le_trans HS3.out hP4.1)
  clear hR4 hP4
  refine ⟨_, rfl, ?_⟩
  refine hK.out _ _ (blk_cell H4.out.k0 0) (fun hHeld => ?_)
  clear hK K
  refine norm_ (a' := ?_) ?_ ?_
  rotate_left
  · show Act.put _ (some 7) _ = _
    simp only [Act.put, List.setIfInBounds_toArray, List.set_cons_zero, List.set_cons_succ, i64_w, i32_w]
    rfl
  refine one_ (i := 3) (N := some 8) #[true, true, true, true, false, false] rfl rfl (by kernel_rfl) (by decide) (fun K hK => ?_)
  refine goes_ Tryd.func43 (by kernel_rfl) rfl #[.pointer (some ⟨g, 0, none⟩), .int .i64 ((utfE s.text).length : Int)] (by rfl) rfl rfl (by (try simp only [List.map_toArray, List.map_cons, List.map_nil]); first | done | rfl) ?_
  (with_reducible refine (text_e H4.out.r HSC.out (by have := HLN.out; omega) rfl).mono ?_)
  rintro e w5 ⟨A, n, c, rfl, hS5, hR5, hP5⟩
  have H5 := Aside0.mk (H4.out.put hP5 hR5)
  have HS5 := Aside0.mk (Nat.le_trans HS4.out hP5.1)
  have HL5 := Aside0.mk hS5
  clear hR5 hP5 hS5
  refine ⟨_, rfl, ?_⟩
  refine hK.out _ _ (blk_cell H5.out.k0 0) (fun hHeld => ?_)
  clear hK K
  refine norm_ (a' := ?_) ?_ ?_
  rotate_left
  · show Act.put _ (some 8) _ = _
    simp only [Act.put, List.setIfInBounds_toArray, List.set_cons_zero, List.set_cons_succ, i64_w, i32_w]
    rfl
  refine pure_ (i := 4) (N := some 9) (v := ?_) (a' := ?_) #[true, true, true, true, true, false] rfl rfl (by kernel_rfl) (fun _ _ _ h => h) (Or.inl ⟨by rfl, ?_⟩) ?_ ?_
  rotate_left
  · intro w'
    go_simp
    with_reducible rfl
  rotate_left
  · simp only [Act.put, List.setIfInBounds_toArray, List.set_cons_zero, List.set_cons_succ, i64_w, i32_w]
    rfl
  refine last_ (i := 5) (N := none) #[true, true, true, true, true, true] rfl rfl (by kernel_rfl) (by decide) (fun K hK => ?_)
  refine step_store rfl rfl rfl rfl rfl (store_1 (u := .slice A n c) H5.out.ks size31 (by simp) rfl rfl) ?_
  refine hK.out _ _ ?_
  clear hK K
  refine done_ (by kernel_rfl) ?_
  have H6 := Aside0.mk (H5.out.set 0 (.slice A n c) rfl)
  have HL6 := Aside0.mk (HL5.out.only H5.out.noS (Put1.one w5 gs 0 (.slice A n c)).2)
  have HS6 : Aside0 (w0.heap.size ≤ (w5.setCell ⟨gs, 0, none⟩ (.slice A n c)).heap.size) := ⟨by have := HS5.out; simpa [World.setCell] using this⟩
  generalize w5.setCell ⟨gs, 0, none⟩ (.slice A n c) = W6 at H6 HL6 HS6 ⊢
  clear hHeld
  have CH1 := Aside0.mk (changes_rd H6.out.r h1 HX1.out HS6.out)
  have c6 : W6.cell? ⟨g0, 0, none⟩ = some (.pointer (some ⟨g, 0, none⟩)) := blk_cell H6.out.k0 0
  go_upto_region 3 with (go_at_call 44; (with_reducible refine CH1.out.mono ?_); rintro e w7 ⟨A1, c1, v1, rfl, hO7, hR7, hP7⟩; have H7 := Aside0.mk (H6.out.put hP7 hR7); have HL7 := Aside0.mk (HL6.out.only H6.out.r.noI hP7.2); have HO7 := Aside0.mk hO7; have HS7 := Aside0.mk (Nat.le_trans HS6.out hP7.1); have HZ7 := Aside0.mk hP7.1; have m7 : w7.cell? ⟨gs, 1, none⟩ = some (.slice none 0 0) := blk_cell H7.out.ks 1; have f7 : w7.frozen? ⟨gs, 1, none⟩ = false := blk_frozen H7.out.ks 1; clear hO7 hR7 hP7)
  have H8 := Aside0.mk (H7.out.set 1 (.slice A1 v.n1 c1) rfl)
  have HL8 := Aside0.mk (HL7.out.only H7.out.noS (Put1.one w7 gs 1 (.slice A1 v.n1 c1)).2)
  have HB7 : Aside0 (Ro w7 w0.heap.size A1 v.n1 c1 v1 s.x1) := ⟨⟨HO7.out.row, HO7.out.ch, fun ad e => Nat.le_trans HS6.out (HO7.out.hb ad e), HO7.out.sz⟩⟩
  have HO8 := Aside0.mk (HB7.out.put (Put1.one w7 gs 1 (.slice A1 v.n1 c1)) H7.out.noS (H7.out.ks.rows HO7.out.row))
  have HS8 : Aside0 (w0.heap.size ≤ (w7.setCell ⟨gs, 1, none⟩ (.slice A1 v.n1 c1)).heap.size) := ⟨by have := HS7.out; simpa [World.setCell] using this⟩
  generalize w7.setCell ⟨gs, 1, none⟩ (.slice A1 v.n1 c1) = W8 at H8 HL8 HS8 HO8 ⊢
  clear m7 f7 c6
  have CH2 := Aside0.mk (changes_rd H8.out.r h2 HX2.out HS8.out)
  have c8 : W8.cell? ⟨g0, 0, none⟩ = some (.pointer (some ⟨g, 0, none⟩)) := blk_cell H8.out.k0 0
  go_upto_region 4 with (go_at_call 44; (with_reducible refine CH2.out.mono ?_); rintro e w9 ⟨A2, c2, v2, rfl, hO9, hR9, hP9⟩; have H9 := Aside0.mk (H8.out.put hP9 hR9); have HL9 := Aside0.mk (HL8.out.only H8.out.r.noI hP9.2); have HQ9 := Aside0.mk (HO8.out.put hP9 H8.out.r.noI (H8.out.r.rows HO8.out.row)); have HO9 := Aside0.mk hO9; have HS9 := Aside0.mk (Nat.le_trans HS8.out hP9.1); have m9 : w9.cell? ⟨gs, 2, none⟩ = some (.slice none 0 0) := blk_cell H9.out.ks 2; have f9 : w9.frozen? ⟨gs, 2, none⟩ = false := blk_frozen H9.out.ks 2; clear hO9 hR9 hP9)
  have H10 := Aside0.mk (H9.out.set 2 (.slice A2 v.n2 c2) rfl)
  have HL10 := Aside0.mk (HL9.out.only H9.out.noS (Put1.one w9 gs 2 (.slice A2 v.n2 c2)).2)
  have HQ10 := Aside0.mk (HQ9.out.put (Put1.one w9 gs 2 (.slice A2 v.n2 c2)) H9.out.noS (H9.out.ks.rows HQ9.out.row))
  have HB9 : Aside0 (Ro w9 w0.heap.size A2 v.n2 c2 v2 s.x2) := ⟨⟨HO9.out.row, HO9.out.ch, fun ad e => Nat.le_trans HS8.out (HO9.out.hb ad e), HO9.out.sz⟩⟩
  have HO10 := Aside0.mk (HB9.out.put (Put1.one w9 gs 2 (.slice A2 v.n2 c2)) H9.out.noS (H9.out.ks.rows HO9.out.row))
  generalize w9.setCell ⟨gs, 2, none⟩ (.slice A2 v.n2 c2) = W10 at H10 HL10 HQ10 HO10 ⊢
  clear m9 f9 c8
  have CE := Aside0.mk (end_e H10.out.r)
  have c10 : W10.cell? ⟨g0, 0, none⟩ = some (.pointer (some ⟨g, 0, none⟩)) := blk_cell H10.out.k0 0
  go_wp2_with (go_at_call 45; (with_reducible refine CE.out.mono ?_); rintro e w11 ⟨rfl, rfl⟩)
  go_end0
  exact ⟨rfl, A, n, c, A1, c1, v1, A2, c2, v2, H10.out, HL10.out, HQ10.out, HO10.out⟩
end Go.Proofs.YtenjldfflkinkaaDoor.Sav

namespace Go.Proofs.YtenjldfflkinkaaDoor.Sav
set_option linter.unusedVariables false
set_option linter.unusedSimpArgs false
open Go.Proofs.YtenjldfflkinkaaDoor.Rop (Ch SV SP rightE scl fitsB doneT goesT dn effE insE remE upd upd_same upd_ne Nxt goesT_prefix)
set_option linter.unusedSectionVars false
variable [Coe Unit Nat]
theorem done_inv {t : List Int} {x : Ch} (h : fitsB t x = true) : fitsB (doneT t x) x.inv = true ∧ doneT (doneT t x) x.inv = t := by
  unfold fitsB at h ⊢
  simp only [decide_eq_true_eq] at h ⊢
  obtain ⟨h0, h1, h2⟩ := h
  obtain ⟨a, ha⟩ : ∃ a : Nat, x.at_ = (a : Int) := ⟨x.at_.toNat, by omega⟩
  have e1 : x.inv.at_ = x.at_ := rfl
  have e2 : x.inv.gone = x.came := rfl
  have e3 : x.inv.came = x.gone := rfl
  unfold doneT
  rw [e1, e2, e3, ha, Int.toNat_natCast]
  rw [ha, Int.toNat_natCast] at h2
  rw [ha] at h1
  have hta : (t.take a).length = a := by rw [List.length_take]; omega
  have hd1 : ((t.take a ++ x.came ++ t.drop (a + x.gone.length)).drop a) = x.came ++ t.drop (a + x.gone.length) := by
    rw [List.append_assoc, List.drop_append_of_le_length (by omega), List.drop_of_length_le (by omega), List.nil_append]
  refine ⟨⟨by omega, by simp only [List.length_append, hta]; omega, ?_⟩, ?_⟩
  · rw [hd1]
    simp
  · have hd2 : ((t.take a ++ x.came ++ t.drop (a + x.gone.length)).drop (a + x.came.length)) = t.drop (a + x.gone.length) := by
      rw [← List.drop_drop, hd1, List.drop_append_of_le_length (Nat.le_refl _), List.drop_of_length_le (Nat.le_refl _), List.nil_append]
    have ht1 : (t.take a ++ x.came ++ t.drop (a + x.gone.length)).take a = t.take a := by
      rw [List.append_assoc, List.take_append_of_le_length (by omega), List.take_of_length_le (by omega)]
    rw [hd2, ht1]
    have h3 : x.gone ++ t.drop (a + x.gone.length) = t.drop a := by
      conv => lhs; arg 1; rw [← h2]
      rw [← List.drop_drop, List.take_append_drop]
    rw [List.append_assoc, h3, List.take_append_drop]
theorem done_scl {t : List Int} {x : Ch} (ht : t.all scl = true) (hc : x.came.all scl = true) : (doneT t x).all scl = true := by
  unfold doneT
  simp only [List.all_append, Bool.and_eq_true]
  rw [List.all_eq_true] at ht
  refine ⟨⟨List.all_eq_true.2 fun r hr => ht r (List.mem_of_mem_take hr), hc⟩, List.all_eq_true.2 fun r hr => ht r (List.mem_of_mem_drop hr)⟩
/-- a step that may be done -/
theorem stepT_of {back : Bool} {t : List Int} {x : Ch} (h1 : fitsB t (x.way back) = true) (h2 : (x.way back).gone.all scl = true) (h3 : (x.way back).came.all scl = true) (h4 : (doneT t (x.way back)).length ≤ 4096) : Go.Proofs.YtenjldfflkinkaaDoor.Rop.stepT back t x = some (doneT t (x.way back)) := by
  unfold Go.Proofs.YtenjldfflkinkaaDoor.Rop.stepT
  rw [if_pos ⟨h1, h2, h3, h4⟩]
end Go.Proofs.YtenjldfflkinkaaDoor.Sav

namespace Go.Proofs.YtenjldfflkinkaaDoor.Sav
set_option linter.unusedVariables false
set_option linter.unusedSimpArgs false
open Go.Proofs.YtenjldfflkinkaaDoor.Rop (Ch SV SP rightE scl fitsB doneT goesT dn effE insE remE upd upd_same upd_ne Nxt goesT_prefix)
set_option linter.unusedSectionVars false
variable [Coe Unit Nat]
theorem ahead_upd (xs : Nat → Ch) (x : Ch) (n : Nat) : ∀ k, k ≤ n → ahead (upd xs n x) k = ahead xs k
  | 0, _ => rfl
  | k + 1, h => by
    unfold ahead
    rw [upd_ne (by omega), ahead_upd xs x n k (by omega)]
theorem ahead_push (xs : Nat → Ch) (x : Ch) (n : Nat) : ahead (upd xs n x) (n + 1) = x :: ahead xs n := by
  show upd xs n x n :: ahead (upd xs n x) n = _
  rw [upd_same, ahead_upd xs x n n (Nat.le_refl _)]
theorem ahead_drop (xs : Nat → Ch) : ∀ n, ahead xs (n + 1) = ahead (fun i => xs (i + 1)) n ++ [xs 0]
  | 0 => rfl
  | n + 1 => by
    show xs (n + 1) :: ahead xs (n + 1) = (xs (n + 1) :: ahead (fun i => xs (i + 1)) n) ++ [xs 0]
    rw [ahead_drop xs n]
    rfl
theorem goes_init {back : Bool} {t : List Int} {l : List Ch} {x : Ch} (h : (goesT back t (l ++ [x])).isSome = true) : (goesT back t l).isSome = true := by
  cases hh : goesT back t l with
  | some _ => rfl
  | none =>
    rw [goesT_prefix ⟨[x], rfl⟩ hh] at h
    cases h
theorem goes_cons {back : Bool} {t : List Int} {x : Ch} {xs : List Ch} (h1 : fitsB t (x.way back) = true) (h2 : (x.way back).gone.all scl = true) (h3 : (x.way back).came.all scl = true) (h4 : (doneT t (x.way back)).length ≤ 4096) (h : (goesT back (doneT t (x.way back)) xs).isSome = true) : (goesT back t (x :: xs)).isSome = true := by
  simp only [goesT]
  rw [stepT_of h1 h2 h3 h4]
  exact h
theorem all_of {l : List Int} (h : ∀ r ∈ l, scal r) : l.all scl = true := List.all_eq_true.2 fun r hr => by
  have := h r hr
  exact (Go.Proofs.YtenjldfflkinkaaDoor.Rop.scl_iff r).2 ⟨by have := this.1; omega, by have := this.2.1; omega, this.2.2⟩
/-- a right state, told by its parts -/
structure Rg4 (t : List Int) (n1 n2 : Nat) (x1 x2 : Nat → Ch) : Prop where
  n : t.length ≤ 4096
  n12 : n1 + n2 ≤ 16
  tt : t.all scl = true
  g1 : (goesT true t (ahead x1 n1)).isSome = true
  g2 : (goesT false t (ahead x2 n2)).isSome = true
theorem Rg4.of {v : SV} {s : SP} (hn : s.text.length = v.n) (h : rightE v s = 0) : Rg4 s.text v.n1 v.n2 s.x1 s.x2 := by
  have h1 := Rt.of h
  obtain ⟨h2, h3⟩ := right_0 h
  rw [ahead_dn] at h2 h3
  exact ⟨by rw [hn]; exact h1.n, h1.n12, all_of h1.t, h2, h3⟩
theorem Rg4.right {v : SV} {s : SP} (hn : s.text.length = v.n) (h : Rg4 s.text v.n1 v.n2 s.x1 s.x2) : rightE v s = 0 := by
  unfold rightE
  have h1 := h.n
  have h2 := h.n12
  rw [if_neg (by omega), if_neg (by rw [h.tt]; simp), if_neg]
  rw [ahead_dn, ahead_dn, h.g1, h.g2]
  simp
/-- what an operation is, when it may be done -/
theorem eff_scl {v : SV} {s : SP} {k a b : Int} {z : List Int} {x : Ch} (R : Rg4 s.text v.n1 v.n2 s.x1 s.x2) (h : effE v s k a b z = (x, 0)) : x.gone.all scl = true ∧ x.came.all scl = true ∧ (k = 3 → ∀ m, v.n1 = m + 1 → x = (s.x1 m).inv) ∧ (k = 4 → ∀ m, v.n2 = m + 1 → x = s.x2 m) := by
  unfold effE at h
  split at h
  · injection h with h1 h2
    rename_i hr
    exact absurd h2 hr
  · split at h
    · rename_i hk
      unfold insE at h
      split at h
      · injection h with h1 h2; cases h2
      · split at h
        · injection h with h1 h2; cases h2
        · split at h
          · injection h with h1 h2; cases h2
          · split at h
            · injection h with h1 h2; cases h2
            · injection h with h1 h2
              subst h1
              rename_i h5 _ _
              exact ⟨rfl, by simpa using h5, fun e => by omega, fun e => by omega⟩
    · split at h
      · rename_i hk
        unfold remE at h
        split at h
        · injection h with h1 h2; cases h2
        · split at h
          · injection h with h1 h2; cases h2
          · injection h with h1 h2
            subst h1
            refine ⟨?_, rfl, fun e => by omega, fun e => by omega⟩
            have ht := List.all_eq_true.1 R.tt
            exact List.all_eq_true.2 fun r hr => ht r (List.mem_of_mem_drop (List.mem_of_mem_take hr))
      · split at h
        · rename_i hk
          split at h
          · rename_i hp
            injection h with h1 h2
            obtain ⟨m, hm⟩ : ∃ m, v.n1 = m + 1 := ⟨v.n1 - 1, by omega⟩
            have g := R.g1
            rw [hm] at g h1
            obtain ⟨s1, s2, s3, s4, s5⟩ := step_some (show (goesT true s.text (s.x1 m :: ahead s.x1 m)).isSome = true from g)
            subst h1
            exact ⟨all_of s2, all_of s3, fun _ m' hm' => (by have e5 : m' = m := (by omega); rw [e5]; rfl), fun e => by omega⟩
          · injection h with h1 h2; cases h2
        · split at h
          · rename_i hk
            split at h
            · rename_i hp
              injection h with h1 h2
              obtain ⟨m, hm⟩ : ∃ m, v.n2 = m + 1 := ⟨v.n2 - 1, by omega⟩
              have g := R.g2
              rw [hm] at g h1
              obtain ⟨s1, s2, s3, s4, s5⟩ := step_some (show (goesT false s.text (s.x2 m :: ahead s.x2 m)).isSome = true from g)
              subst h1
              exact ⟨all_of s2, all_of s3, fun e => by omega, fun _ m' hm' => (by have e5 : m' = m := (by omega); rw [e5]; rfl)⟩
            · injection h with h1 h2; cases h2
          · injection h with h1 h2; cases h2
theorem right_keep {v : SV} {s : SP} {k a b : Int} {z : List Int} {x : Ch} {n1 n2 : Nat} {x1 x2 : Nat → Ch} (R : Rg4 s.text v.n1 v.n2 s.x1 s.x2) (h : effE v s k a b z = (x, 0)) (hf : fitsB s.text x = true) (hl : (doneT s.text x).length ≤ 4096) (hN : Nxt v s k x n1 x1 n2 x2) : Rg4 (doneT s.text x) n1 n2 x1 x2 := by
  obtain ⟨hg, hc, h3, h4⟩ := eff_scl R h
  obtain ⟨f1, f2⟩ := done_inv hf
  have hn12 := R.n12
  have hpush : (goesT true (doneT s.text x) (x :: ahead s.x1 v.n1)).isSome = true := goes_cons (x := x) (show fitsB (doneT s.text x) x.inv = true from f1) hc hg (by show (doneT (doneT s.text x) x.inv).length ≤ 4096; rw [f2]; exact R.n) (by show (goesT true (doneT (doneT s.text x) x.inv) _).isSome = true; rw [f2]; exact R.g1)
  rcases hN with ⟨hk, rfl, hh⟩ | ⟨hk, hm, rfl, rfl, rfl⟩ | ⟨hk, hm, rfl, rfl, rfl⟩
  · rcases hh with ⟨h16, rfl, rfl⟩ | ⟨rfl, h16, rfl⟩
    · exact ⟨hl, by omega, done_scl R.tt hc, by rw [ahead_push]; exact hpush, rfl⟩
    · refine ⟨hl, by omega, done_scl R.tt hc, ?_, rfl⟩
      have := ahead_drop (upd s.x1 v.n1 x) v.n1
      rw [ahead_push] at this
      rw [this] at hpush
      exact goes_init hpush
  · have hx := h3 hk _ hm
    have g := R.g1
    rw [hm] at g
    obtain ⟨s1, s2, s3, s4, s5⟩ := step_some (show (goesT true s.text (s.x1 n1 :: ahead s.x1 n1)).isSome = true from g)
    refine ⟨hl, by omega, done_scl R.tt hc, ?_, ?_⟩
    · rw [hx]; exact s5
    · rw [ahead_push]
      exact goes_cons (x := x.inv) (show fitsB (doneT s.text x) x.inv = true from f1) hc hg (by show (doneT (doneT s.text x) x.inv).length ≤ 4096; rw [f2]; exact R.n) (by show (goesT false (doneT (doneT s.text x) x.inv) _).isSome = true; rw [f2]; exact R.g2)
  · have hx := h4 hk _ hm
    have g := R.g2
    rw [hm] at g
    obtain ⟨s1, s2, s3, s4, s5⟩ := step_some (show (goesT false s.text (s.x2 n2 :: ahead s.x2 n2)).isSome = true from g)
    refine ⟨hl, by omega, done_scl R.tt hc, ?_, ?_⟩
    · rw [ahead_push]; exact hpush
    · rw [hx]; exact s5
end Go.Proofs.YtenjldfflkinkaaDoor.Sav
