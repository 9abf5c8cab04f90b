/- The contract of a rope's Slice. -/
import Derived.Test.YtenjldfflkinkaaFGRopG
import Derived.Maps.OwnIn
namespace Go.Proofs.Ytenjldfflkinkaa.Rop
set_option linter.unusedVariables false
set_option linter.unusedSimpArgs false
open Go.RowKit Go.Shelf Go.Proofs.Ytenjldfflkinkaa.F Go.Proofs.YtenjldfflkinkaaW.PrintWords Go.Proofs.YtenjldfflkinkaaW.PrintLast Go.Proofs.YtenjldfflkinkaaW.PrintMore
attribute [local go_sem] Oper.semAt_some

theorem own_size {β : Type} {B n : Nat} : OwnFrom B (fun (_ : β) W => n ≤ W.heap.size) := fun _ _ _ _ hs hg _ => Nat.le_trans hs hg.size
theorem made_one (x : Value) (n : Nat) : ∀ (i : Nat) (v : Value), (madeCells #[x] n)[i]? = some v → v = x := by
  intro i v h
  simp only [madeCells, Array.getElem?_map, Option.map_eq_some_iff] at h
  obtain ⟨j, _, rfl⟩ := h
  have : j % (#[x] : Array Value).size = 0 := by show j % 1 = 0; omega
  rw [this]
  rfl
def encI (x : Int × Int) : Value := .int .i32 x.2
theorem encs_map (pre : List (Int × Int)) : pre.map encI = encs (Value.int .i32) (pre.map Prod.snd) := by
  simp [encs, encI, List.map_map, Function.comp]
theorem idx_snd : ∀ (k : Int) (l : List Int), (idx k l).map Prod.snd = l
  | _, [] => rfl
  | k, c :: l => by simp [idx, idx_snd (k + 1) l]
def GivesL (zs : List Int) (w : World) (e : Ending) (w' : World) : Prop := ∃ v : Value, e = .returned (.tuple #[v, .int .i64 0]) ∧ Kd.R (Kd.int .i32) 21 w' w.heap.size (fun _ => True) v zs ∧ Below w.heap.size w w'
set_option maxRecDepth 100000 in
set_option maxHeartbeats 4000000 in
theorem Slice_calls {w : World} {p : Option Addr} {t : RT} (h : IsR w p t) (a b : Nat) (h1 : a ≤ b) (h2 : b ≤ t.sz) (hs : t.sz ≤ 1000000) : Calls Try.prog 16 #[.pointer p, .int .i64 (a : Int), .int .i64 (b : Int)] w (GivesL ((t.toL.drop a).take (b - a)) w) := by
  have hsp := span_calls h (a : Int) (b : Int)
  have e0 : spanE (t.sz : Int) (a : Int) (b : Int) = 0 := by unfold spanE; rw [if_neg (by omega)]
  rw [e0] at hsp
  obtain ⟨i0, hi, hz0, hz1, hz2⟩ := info_parts info21
  obtain ⟨g, q, rfl, k1, k2, k3, k4⟩ := h
  have hcut := fun W q => cut_calls t (a : Int) (by omega) (by omega) (by omega) (w := W) (p := q)
  have hc1 := RT.cut_toL t a (by omega)
  have hc2 := RT.cut_sz t a (by omega)
  generalize RT.cut t (a : Int) = xy at hcut hc1 hc2
  obtain ⟨x, y⟩ := xy
  simp only at hcut hc1 hc2
  have hcut2 := fun W q => cut_calls y ((b : Int) - (a : Int)) (by omega) (by omega) (by omega) (w := W) (p := q)
  have eba : (b : Int) - (a : Int) = ((b - a : Nat) : Int) := by omega
  have hd1 := RT.cut_toL y (b - a) (by omega)
  rw [← eba] at hd1
  have hd2 := RT.cut_sz y (b - a) (by omega)
  rw [← eba] at hd2
  generalize RT.cut y ((b : Int) - (a : Int)) = uv at hcut2 hd1 hd2
  obtain ⟨u, v⟩ := uv
  simp only at hcut2 hd1 hd2
  have hres : (t.toL.drop a).take (b - a) = u.toL := by rw [hd1.1, hc1.2]
  rw [hres]
  have hus : u.sz ≤ 1000000 := by omega
  have hm : b - a ≤ 1000000 := by omega
  have HC := Aside0.mk hcut
  have HC2 := Aside0.mk hcut2
  have HN := Aside0.mk k4
  have hab : (a : Int) ≤ (b : Int) := by omega
  have hbb : (b : Int) ≤ 1000000 := by omega
  clear e0 hcut hcut2 hc1 hc2 hd1 hd2 hres k4 eba
  obtain ⟨cur, hcur⟩ : ∃ cur, madeCells (Value.int .i32 0).cells ((b - a) * 1) = cur := ⟨_, rfl⟩
  have hcs : cur.size = (b - a) * 1 := by rw [← hcur, size_madeCells]
  have hcv : ∀ (i : Nat) (v : Value), cur[i]? = some v → v = Value.int .i32 0 := by rw [← hcur]; exact made_one _ _
  have hmk : ∀ W : World, (Instr.makeSlice 23 (.int .i64 0) (.int .i64 ((b : Int) - (a : Int)))).run Try.prog W = .ok (.slice (some ⟨W.heap.size, 0, none⟩) 0 (b - a)) (W.alloc (.cells cur 21)) := fun W => by
    have hr := run_make (P := Try.prog) W 23 21 i0 (.int .i32 0) Try.underlying23 hi hz0 .i64 .i64 0 ((b : Int) - (a : Int)) (by omega) (by omega) (by rw [hz2]; omega) (by omega)
    rw [hz1, show ((b : Int) - (a : Int)).toNat = b - a by omega, hcur] at hr
    exact hr
  have hrow0 : (w.alloc (.cells cur 21)).ownsRow w.heap.size 21 1 (.slice (some ⟨w.heap.size, 0, none⟩) 0 (b - a)) 0 [] := World.ownsRow_made w cur (b - a) (Nat.le_refl _) (by simp [maxLen]; omega) hcs
  have hb1 : Below w.heap.size w (w.alloc (.cells cur 21)) := (Below.refl _ w).alloc (Nat.le_refl _) _
  have hb0 := below_alloc hb1 (.cells #[.slice (some ⟨w.heap.size, 0, none⟩) 0 (b - a)] 23)
  have kk := (hb1.cell (p := ⟨g, 1, none⟩) k1).trans k3
  have kk2 := (hb0.cell (p := ⟨g, 1, none⟩) k1).trans k3
  have HB0 := Aside0.mk hb0
  have HCV := Aside0.mk hcv
  clear hcur hb1 hb0 hcv
  refine (callsIn_wide (n := 5)).1 ?_
  refine callsIn_of_wp_marks Try.func16 rfl trivial ?_ rfl
  simp only [Try.ntmps16, List.size_toArray, List.length_cons, List.length_nil, Nat.reduceAdd, Nat.reduceSub, Array.replicate_succ, Array.replicate_zero, List.push_toArray, List.append_toArray, List.nil_append, List.cons_append]
  gi_wp2_with (first
    | (refine ⟨trivial, ?_⟩; gi_at_call 41; (with_reducible refine (callsIn_wide.2 hsp).mono ?_); rintro e w' ⟨rfl, rfl⟩)
    | (refine ⟨trivial, ?_⟩; gi_at_call 42; (with_reducible refine (callsIn_wide.2 (HC.out _ _ (HN.out.below HB0.out))).mono ?_); rintro e w2 ⟨p1, q1, rfl, hx1, hy1, hb2⟩; have HY1 := Aside0.mk hy1; have HB2 := Aside0.mk hb2; clear hx1 hy1 hb2)
    | (refine ⟨trivial, ?_⟩; gi_at_call 42; (with_reducible refine (callsIn_wide.2 (HC2.out _ _ HY1.out)).mono ?_); rintro e w3 ⟨p2, q2, rfl, hu1, hv1, hb3⟩; have HU1 := Aside0.mk hu1; have HB3 := Aside0.mk hb3; clear hu1 hv1 hb3)
    | (refine ⟨trivial, ?_⟩; gi_at_call 33; (with_reducible refine (callsIn_wide.2 (of_calls HU1.out)).mono ?_); rintro e w4 ⟨p3, rfl, hr4, hb4⟩; have HR4 := Aside0.mk hr4; have HB4 := Aside0.mk hb4; clear hr4 hb4)
    | (refine ⟨trivial, ?_⟩; gi_at_call 21; refine (All_in _ _ _).mono ?_; rintro e w' ⟨rfl, rfl⟩))
  obtain ⟨W1, hW1⟩ : ∃ W1, (w.alloc (.cells cur 21)).alloc (.cells #[.slice (some ⟨w.heap.size, 0, none⟩) 0 (b - a)] 23) = W1 := ⟨_, rfl⟩
  have hbx : Boxed W1 (w.heap.size + 1) 23 (.slice (some ⟨w.heap.size, 0, none⟩) 0 (b - a)) := by
    have := Boxed.new (w.alloc (.cells cur 21)) 23 (.slice (some ⟨w.heap.size, 0, none⟩) 0 (b - a))
    rw [hW1, World.size_alloc] at this
    exact this
  have hrow1 : W1.ownsRow w.heap.size 21 1 (.slice (some ⟨w.heap.size, 0, none⟩) 0 (b - a)) 0 [] := by
    rw [← hW1]
    exact hrow0.alloc _
  have hrh : W1.heap[w.heap.size]? = some (.cells cur 21 (0, 0)) := by
    rw [← hW1]
    exact (Below.heap_alloc _ _ _ (by simp)).trans (World.alloc_heap_new w _)
  rw [hW1] at HB0 HB2
  have hb24 : Below W1.heap.size W1 w4 := below_step (below_step HB2.out HB3.out) HB4.out
  have hb25 := below_alloc hb24 (.cells #[.pointer p3] 27)
  have hbb5 := Boxed.new w4 27 (.pointer p3)
  obtain ⟨W0, hW0⟩ : ∃ W0, w4.alloc (.cells #[.pointer p3] 27) = W0 := ⟨_, rfl⟩
  rw [hW0] at hb25 hbb5 ⊢
  have hbx0 : Boxed W0 (w.heap.size + 1) 23 (.slice (some ⟨w.heap.size, 0, none⟩) 0 (b - a)) := (hb25.block _ hbx.lt).trans hbx
  have hrow2 : W0.ownsRow w.heap.size 21 1 (.slice (some ⟨w.heap.size, 0, none⟩) 0 (b - a)) 0 [] := hrow1.kept (grown_of_below hb25 none) (.inr (by simp [Value.ownBlock]))
  have hrh0 : W0.heap[w.heap.size]? = some (.cells cur 21 (0, 0)) := (hb25.block _ (by have := hbx.lt; omega)).trans hrh
  obtain ⟨g3, q3, rfl, m1, m2, m3, m4⟩ := HR4.out.below (show Below w4.heap.size w4 W0 by rw [← hW0]; exact (Below.refl _ _).alloc (Nat.le_refl _) _)
  have hBW : Below w.heap.size w W0 := below_step HB0.out hb25
  obtain ⟨S, hS⟩ : ∃ S : Nat → Prop, S = fun k => k < W0.heap.size ∧ k ≠ w.heap.size + 1 ∧ k ≠ w.heap.size := ⟨_, rfl⟩
  have hSin : NodeIn S W0 q3 u := NodeAt.inS (fun k pl hk hc => by
    rw [hS]
    refine ⟨hk, ?_, ?_⟩
    · intro e
      subst e
      simp [World.cell?, show W0.heap[w.heap.size + 1]? = _ from hbx0] at hc
    · intro e
      subst e
      simp only [World.cell?, hrh0] at hc
      have := HCV.out 1 _ (by simpa using hc)
      cases this) (Nat.le_refl _) m4
  have hSl : ∀ k, S k → k < W0.heap.size := fun k hk => by rw [hS] at hk; exact hk.1
  have hSb : ∀ k, S k → k ≠ w.heap.size + 1 := fun k hk => by rw [hS] at hk; exact hk.2.1
  have hSr : ∀ k, S k → k ≠ w.heap.size := fun k hk => by rw [hS] at hk; exact hk.2.2
  have hlen := idx_len 0 u.toL
  rw [RT.toL_len] at hlen
  have hws : w.heap.size + 2 ≤ W0.heap.size := hbx0.lt
  have hbo : (w.alloc (.cells cur 21)).heap.size = w.heap.size + 1 := by simp
  clear hS HB2 HB3 HB4 HB0 hrow0 hrow1 hrh HU1 HY1 HC HC2 HN kk kk2 hb24 hb25 hmk hsp k1 k2 k3 HR4 hbx
  refine wpIn_rangeFunc_ownG rfl (by omega) (gf := 48) (lb := #[.pointer (some ⟨w4.heap.size, 0, none⟩)]) rfl trivial (enters_of Try.func48 (by kernel_rfl) rfl)
    (All_stops S _ w4.heap.size g3 q3 u W0 hbb5.cell m2 m3 hSin hSl (by omega)) keepS_t (keepS_b hSl) (Below.refl _ _) (fun _ => rfl)
    (fun pre W => (∃ v, Boxed W (w.heap.size + 1) 23 v ∧ W.ownsRow w.heap.size 21 1 v pre.length (pre.map encI) ∧ (∀ k, S k → some k ≠ v.ownBlock)) ∧ (W0.heap.size ≤ W.heap.size ∧ Below w.heap.size w W))
    (fun _ _ _ => False)
    (OwnFrom.and (Own.from (holdsRow_own w.heap.size (w.heap.size + 1) 23 21 1 (fun (pre : List (Int × Int)) => pre.length) (fun (pre : List (Int × Int)) => pre.map encI) (fun _ v => ∀ k, S k → some k ≠ v.ownBlock)) _) (OwnFrom.and own_size (ownFrom_below (Nat.le_refl _) (by omega))))
    (fun _ _ _ _ _ hs _ _ => hs)
    ⟨⟨_, hbx0, hrow2, fun k hk e => hSr k hk (by simpa [Value.ownBlock] using e)⟩, Nat.le_refl _, hBW⟩
    (fun x => { tmps := #[.pointer (some ⟨g, 0, none⟩), .int .i64 (a : Int), .int .i64 (b : Int), undef, undef, undef, .slice none 0 0, .int .i64 0, .int .i64 0, .pointer (some ⟨w.heap.size + 1, 0, none⟩), .pointer p1, .pointer q1, .pointer p2, .pointer q2, undef, .int .i32 x.2, .pointer (some ⟨g, 0, none⟩), .int .i64 (a : Int), .int .i64 (b : Int), .int .i64 0, .int .i64 0, .bool false, undef, .int .i64 (b : Int), .int .i64 (a : Int), .int .i64 ((b : Int) - (a : Int)), .slice (some ⟨w.heap.size, 0, none⟩) 0 (b - a), .tuple #[.pointer p1, .pointer q1], .pointer (some ⟨g, 0, none⟩), .pointer (some ⟨g, 0, none⟩), .pointer (some ⟨g, 1, none⟩), .pointer q, .int .i64 (a : Int), .tuple #[.pointer p1, .pointer q1], .pointer p1, .pointer q1, .tuple #[.pointer p2, .pointer q2], .pointer q1, .int .i64 (b : Int), .int .i64 (a : Int), .int .i64 ((b : Int) - (a : Int)), .tuple #[.pointer p2, .pointer q2], .pointer p2, .pointer q2, .pointer p2, .pointer (some ⟨g3, 0, none⟩), .func (.func 48) #[] #[.pointer (some ⟨w4.heap.size, 0, none⟩)], .int .i64 x.1, .int .i32 x.2, undef, undef, undef, undef, undef], defers := [] }) ?assign ?body ?done ?stop
  case assign =>
    intro l x W K hK
    dsimp only [encR]
    gi_wp2
    exact hK
  case body =>
    rintro l pre x W ⟨⟨v, hv, hrow, hvS⟩, hW0, hB⟩ hlt
    have hcv := hv.cell
    have hlt2 : pre.length < 1000000 := by omega
    gi_wp2_with (gi_at_builtin; refine wpListIn_append_own_at _ rfl _ _ 23 rfl w.heap.size 21 i0 (.int .i32 0) 1 4 Try.underlying23 hi hz0 hz1 hz2 rfl (by decide) v pre.length (pre.map encI) rfl (hrow.alloc _) ⟨W.heap.size, 0, none⟩ 1 1 [.int .i32 x.2] rfl rfl (cell_one_new _ _ _) (by simp [Value.oneCell']) (by simp [maxLen]; omega) (by omega) (by have := hB.size; simp; omega) ?_; intro v' w5 hown' hgrow _ hat; obtain ⟨g', cap', rfl⟩ := ownsRow_succ hown'; obtain ⟨hv1, hv2, hr2, hk2, hb2⟩ := hv.appended (by decide) hrow hB.size (Nat.le_succ _) hown' hgrow; have hc1 := hv1.cell; have hf1 := hv1.frozen)
    refine ⟨hk2.from _, ?_, ⟨_, hv2, ?_, ?_⟩, ?_, hB.trans hb2⟩
    · intro k hk
      have hkl : k < W.heap.size := Nat.lt_of_lt_of_le (hSl k hk) hW0
      have e1 := hgrow.block k (by simp; omega) (hvS k hk)
      have e2 := Below.heap_alloc W (.cells #[.int .i32 x.2] 21) k hkl
      have e3 := (grownBy_setCell' w5 (w.heap.size + 1) (.slice (some ⟨g', 0, none⟩) (pre.length + 1) cap')).block k (Nat.lt_of_lt_of_le (Nat.lt_succ_of_lt hkl) (by have := hgrow.size; simpa using this)) (fun e => hSb k hk (by injection e))
      exact e3.trans (e1.trans e2)
    · rw [List.map_append, List.length_append, List.length_singleton]
      exact hr2
    · intro k hk e
      have hkl : k < W.heap.size := Nat.lt_of_lt_of_le (hSl k hk) hW0
      rcases hat with h | h
      · exact hvS k hk (e.trans h)
      · rw [h] at e
        have : k = (W.alloc (.cells #[.int .i32 x.2] 21)).heap.size := by injection e
        simp at this
        omega
    · have := hgrow.size
      simp at this
      simp
      omega
  case done =>
    rintro D ys W hD rfl ⟨⟨v, hv, hrow, hvS⟩, hW0, hB⟩ hK
    have hcv := hv.cell
    gi_wp2
    refine ⟨by simp, .inl ⟨_, _, rfl, run_takeDeferred hK, ?_⟩⟩
    refine ⟨_, results_tmp2 rfl _ _ _, v, rfl, ?_, hB.trans (belowK_b (w := w) (Nat.le_refl _) W D _ _ (by omega) hK rfl rfl)⟩
    have hr3 := ownsRow_putObj hrow (.deferred none) hK rfl
    have e1 : (idx 0 u.toL).map encI = encs (Value.int .i32) u.toL := by rw [encs_map, idx_snd]
    rw [e1, idx_len] at hr3
    exact Kd.R_of_own hr3 (fun _ _ => trivial)
  case stop =>
    rintro D c pre W _ _ h _
    exact h.elim
end Go.Proofs.Ytenjldfflkinkaa.Rop
