/- The law RopeLeaves, walked. -/
import Derived.Test.YtenjldfflkinkaaFGRopR
import Derived.Maps.OwnIn
namespace Go.Proofs.Ytenjldfflkinkaa.Rop
set_option linter.unusedVariables false
set_option linter.unusedSimpArgs false
open Go.RowKit Go.Shelf Go.Proofs.Ytenjldfflkinkaa.F Go.Proofs.YtenjldfflkinkaaW.PrintWords Go.Proofs.YtenjldfflkinkaaW.PrintLast Go.Proofs.YtenjldfflkinkaaW.PrintMore
attribute [local go_sem] Oper.semAt_some
theorem idx_get : ∀ (l : List Int) (k : Int) (i : Nat), (idx k l)[i]? = (l[i]?).map fun c => (k + (i : Int), c)
  | [], _, _ => by simp [idx]
  | c :: l, k, 0 => by simp [idx]
  | c :: l, k, i + 1 => by
    simp only [idx, List.getElem?_cons_succ]
    rw [idx_get l (k + 1) i]
    have e : k + 1 + (i : Int) = k + ((i + 1 : Nat) : Int) := by omega
    rw [e]
theorem idx_prefix {l : List Int} {pre : List (Int × Int)} {x : Int × Int} (h : pre ++ [x] <+: idx 0 l) : ∃ h : pre.length < l.length, x = ((pre.length : Int), l[pre.length]) := by
  obtain ⟨t, ht⟩ := h
  have h1 : (idx 0 l)[pre.length]? = some x := by rw [← ht]; simp
  rw [idx_get] at h1
  by_cases hl : pre.length < l.length
  · refine ⟨hl, ?_⟩
    rw [List.getElem?_eq_getElem hl] at h1
    simp at h1
    exact h1.symm
  · rw [List.getElem?_eq_none (by omega)] at h1
    cases h1
/-- the marks of the loops that were gone through -/
def Marks (b : Nat) (W : World) : List Deferred → Prop
  | [] => True
  | d :: ds => (∃ D, d = { target := .collected D, args := #[] } ∧ b ≤ D ∧ W.heap[D]? = some (.deferred (some [])) ∧ ∀ D' : Nat, ({ target := .collected D', args := #[] } : Deferred) ∈ ds → D' ≠ D) ∧ Marks b W ds
theorem Marks.mem {b : Nat} {W : World} : ∀ {ds : List Deferred}, Marks b W ds → ∀ D, ({ target := .collected D, args := #[] } : Deferred) ∈ ds → D < W.heap.size
  | [], _, D, h => by cases h
  | d :: ds, hm, D, h => by
    obtain ⟨⟨D2, rfl, h2, h3, h4⟩, hr⟩ := hm
    rcases List.mem_cons.1 h with he | he
    · cases he
      exact (Array.getElem?_eq_some_iff.1 h3).1
    · exact Marks.mem hr D he
theorem Marks.get {b : Nat} {W : World} : ∀ {ds : List Deferred}, Marks b W ds → ∀ D, ({ target := .collected D, args := #[] } : Deferred) ∈ ds → W.heap[D]? = some (.deferred (some []))
  | [], _, D, h => by cases h
  | d :: ds, hm, D, h => by
    obtain ⟨⟨D2, rfl, h2, h3, h4⟩, hr⟩ := hm
    rcases List.mem_cons.1 h with he | he
    · cases he
      exact h3
    · exact Marks.get hr D he
theorem Marks.keep {b : Nat} {W W' : World} : ∀ {ds : List Deferred}, Marks b W ds → (∀ D, ({ target := .collected D, args := #[] } : Deferred) ∈ ds → W'.heap[D]? = W.heap[D]?) → Marks b W' ds
  | [], _, _ => trivial
  | d :: ds, hm, h => by
    obtain ⟨⟨D2, rfl, h2, h3, h4⟩, hr⟩ := hm
    exact ⟨⟨D2, rfl, h2, (h D2 (List.mem_cons_self ..)).trans h3, h4⟩, hr.keep fun D hD => h D (List.mem_cons_of_mem _ hD)⟩
theorem Marks.box {b : Nat} {W : World} {ds : List Deferred} {B t : Nat} {v : Value} (h : Marks b W ds) (hB : Boxed W B t v) (u : Value) : Marks b (W.setCell ⟨B, 0, none⟩ u) ds :=
  h.keep fun D hD => Below.heap_setCell W ⟨B, 0, none⟩ u D (fun e => by
    have h1 := h.get D hD
    rw [show D = B from e, show W.heap[B]? = _ from hB] at h1
    cases h1)
theorem Marks.below {b : Nat} {W W' : World} {ds : List Deferred} (h : Marks b W ds) (hb : Below W.heap.size W W') : Marks b W' ds :=
  h.keep fun D hD => hb.block D (h.mem D hD)
theorem marks_leave {b : Nat} {F : Fence} {n : Nat} {P : Program} {fn : Func} {tmps : Array Value} {R : Ending → World → Prop} {Φ : World → Prop} (hΦ : ∀ W D, Φ W → b ≤ D → W.heap[D]? = some (.deferred (some [])) → Φ (W.putObj D (.deferred none)))
    (hR : ∀ W, Φ W → ∃ v, (results fn tmps).run P W = .ok v W ∧ R (.returned v) W) : ∀ (ds : List Deferred) (W : World), Marks b W ds → Φ W → LeavesInM F n P fn tmps R ds .returning W
  | [], W, _, h => hR W h
  | d :: ds, W, ⟨⟨D, hd, h2, h3, h4⟩, hr⟩, h => by
    subst hd
    refine ⟨by simp, .inl ⟨_, _, rfl, run_takeDeferred h3, ?_⟩⟩
    exact marks_leave hΦ hR ds _ (hr.keep fun D' hD' => World.putObj_heap_other (h4 D' hD')) (hΦ W D h h2 h3)
theorem Boxed.putObj {W : World} {B D t : Nat} {v : Value} {o o' : Obj} (h : Boxed W B t v) (hD : W.heap[D]? = some o) (ho : o.isCells = false) : Boxed (W.putObj D o') B t v :=
  h.kept (grownBy_putObj' W D o') (fun e => by
    cases e
    rw [show W.heap[B]? = _ from h] at hD
    cases hD
    cases ho)
theorem num_read32 {w : World} {A : Option Addr} {zs : List Int} {n : Nat} (h : Kd.C (Kd.int .i32) w A n zs) (hn : zs.length = n) (j : Nat) (h1 : j < n) : ∃ ad, A = some ad ∧ w.cell? (ad.add j) = some (.int .i32 (zs.getD j 0)) := by
  obtain ⟨ad, c, e, hc1, hK, hc0⟩ := Kd.C_get h 0 (j : Int) (by omega) (by omega)
  have hK' : c = [.int .i32 (zs.getD (j : Int).toNat 0)] := hK
  subst hK'
  have := hc0 0 _ rfl
  refine ⟨ad, e, ?_⟩
  have h1 : (j : Int).toNat * (Kd.int .i32).sz + 0 = j := by show (j : Int).toNat * 1 + 0 = j; omega
  rw [h1] at this
  exact this
theorem am_big {w : World} (x : Int) (n : Nat) (h0 : 0 < n) (h1 : n ≤ 1000000000000000) (hx : -9223372036854775808 ≤ x ∧ x ≤ 9223372036854775807) : Calls Try.prog 22 #[.int .i64 x, .int .i64 (n : Int)] w fun e w' => e = .returned (.int .i64 (am x n : Int)) ∧ w = w' := by
  have hn0 : ((n : Int) == 0) = false := by simp; omega
  have hn1 : ¬ (n : Int) = 0 := by omega
  obtain ⟨y, hy⟩ : ∃ y, Int.tmod x (n : Int) = y := ⟨_, rfl⟩
  have b1 : -(n : Int) < y ∧ y < (n : Int) := by
    rw [← hy]
    have h2 := Int.natAbs_tmod x (n : Int)
    have h3 : x.natAbs % (n : Int).natAbs < (n : Int).natAbs := Nat.mod_lt _ (by omega)
    omega
  obtain ⟨z, hz⟩ : ∃ z : Nat, y + (n : Int) = (z : Int) := ⟨(y + (n : Int)).toNat, by omega⟩
  have ham : am x n = z % n := by unfold am; rw [hy, hz]; rfl
  have hz2 : Int.tmod (z : Int) (n : Int) = ((z % n : Nat) : Int) := by rw [Int.tmod_eq_emod_of_nonneg (by omega)]; rfl
  have hyb : -1000000000000000 < y ∧ y < 1000000000000000 := by omega
  have hw1 : wrap64 y = y := by unfold wrap64; omega
  have hfin : (wrap64 (z : Int)).tmod (n : Int) = (z : Int) % (n : Int) := by
    have e : wrap64 (z : Int) = (z : Int) := by unfold wrap64; omega
    rw [e, Int.tmod_eq_emod_of_nonneg (by omega)]
  rw [ham]
  have HF := Aside0.mk hfin
  clear h1 hx hfin ham
  go_enter Try.func22, Try.ntmps22
  go_wp2
  go_ret
  exact ⟨by first | rfl | (simp [*, HF.out]), rfl⟩
theorem seq_is : (match Try.prog.underlying 50 with | some (.func _ _ _) => true | _ => false) = true := by kernel_rfl
theorem run_equalIn_func_nil {P : Program} {w : World} (d : Nat) (t : TypeId) {a : Array TypeId} {b : Array TypeId} {v : Bool} (f : Fn) (x y : Array Value) (h : P.underlying t = some (.func a b v)) : (Op.equalIn (d + 1) t (.func f x y) .nilFunc).run P w = .ok false w := by
  simp [Op.equalIn, run_underlying h]
theorem run_seq_nil {w : World} (f : Fn) (x y : Array Value) : (binOp .eql 50 (.func f x y) .nilFunc).run Try.prog w = .ok (.bool false) w := by
  have h := seq_is
  split at h
  · rename_i a b v hu
    have h2 := run_equalIn_func_nil (w := w) 9999 50 f x y hu
    have h3 : (Op.equal 50 (.func f x y) .nilFunc).run Try.prog w = .ok false w := h2
    simp only [binOp]
    simp [h3]
  · cases h
set_option maxRecDepth 100000 in
set_option maxHeartbeats 4000000 in
theorem leaves_walk {w : World} {A : Option Addr} {l : List Int} {c : Nat} {x : Int} (hC0 : Kd.C (Kd.int .i32) w A l.length l) (hc0 : l.length ≤ c) (hm0 : c ≤ 9223372036854775807) (hl : l.length ≤ 40000000000000) (hx : -9223372036854775808 ≤ x ∧ x ≤ 9223372036854775807) :
    Calls Try.prog 4 #[.slice A l.length c, .int .i64 x] w fun e w' => e = .returned (.bool true) ∧ Below w.heap.size w w' := by
  obtain ⟨n, hn⟩ : ∃ n, l.length = n := ⟨_, rfl⟩
  have CNew := Aside0.mk (fun W (h : Kd.C (Kd.int .i32) W A l.length l) => (by have := New_L (c := c) h hc0 hm0 (by omega); rw [hn] at this; exact this : Calls Try.prog 10 #[.slice A n c] W (OneR l W)))
  obtain ⟨k, hk⟩ : ∃ k, am x (n + 1) = k := ⟨_, rfl⟩
  have hkn : k < n + 1 := by rw [← hk]; exact am_lt x (by omega)
  have CAm := Aside0.mk (fun W => (by have := am_big (w := W) x (n + 1) (by omega) (by omega) hx; rw [hk, Int.natCast_add] at this; exact this : Calls Try.prog 22 #[.int .i64 x, .int .i64 ((n : Int) + 1)] W fun e w' => e = .returned (.int .i64 (k : Int)) ∧ W = w'))
  have HC0 := Aside0.mk hC0
  have HN := Aside0.mk hn
  have hnb : n ≤ 40000000000000 := by omega
  rw [hn]
  clear hC0 hn hc0 hm0 hk hl hx
  have b0 : Below w.heap.size w (w.alloc (.cells #[.slice A n c] 23)) := (Below.refl _ _).alloc (Nat.le_refl _) _
  have b1 := below_alloc b0 (.cells #[.bool false] 4)
  have B1 := Aside0.mk b1
  have L1 := Aside0.mk (Kd.C_below HC0.out b1)
  clear b0 b1
  have hnf := fun (W : World) f x y => run_seq_nil (w := W) f x y
  refine (callsIn_wide (n := 5)).1 ?_
  refine callsIn_of_wp_marks Try.func4 rfl trivial ?_ rfl
  simp only [Try.ntmps4, List.size_toArray, List.length_cons, List.length_nil, Nat.reduceAdd, Nat.reduceSub, Array.replicate_succ, Array.replicate_zero, List.push_toArray, List.append_toArray, List.nil_append, List.cons_append]
  have X0 := Aside0.mk (show Boxed ((w.alloc (.cells #[.slice A n c] 23)).alloc (.cells #[.bool false] 4)) w.heap.size 23 (.slice A n c) from (Boxed.new w _ _).alloc _)
  have Y0 := Aside0.mk (show Boxed ((w.alloc (.cells #[.slice A n c] 23)).alloc (.cells #[.bool false] 4)) (w.heap.size + 1) 4 (.bool false) from (by have := Boxed.new (w.alloc (.cells #[.slice A n c] 23)) 4 (.bool false); rw [World.size_alloc] at this; exact this))
  gi_wp2_with (first
    | ((try refine ⟨trivial, ?_⟩); gi_at_call 10; (with_reducible refine (callsIn_wide.2 (CNew.out _ L1.out)).mono ?_); rintro e w1 ⟨bt, rfl, ht, hb⟩; have T1 := Aside0.mk ht; have B2 := Aside0.mk (below_step B1.out hb); have D1 := Aside0.mk hb; have hx1 := (hb.block _ X0.out.lt).trans X0.out; have hx1c := Boxed.cell hx1; have L2 := Aside0.mk (Kd.C_below L1.out hb); clear ht hb)
    | ((try refine ⟨trivial, ?_⟩); gi_at_call 20; (with_reducible refine (callsIn_wide.2 (works_calls _)).mono ?_); rintro e w2 ⟨rfl, hb⟩; have T2 := Aside0.mk (T1.out.below hb); have B3 := Aside0.mk (below_step B2.out hb); have D2 := Aside0.mk (below_step D1.out hb); have hx2 := (D2.out.block _ X0.out.lt).trans X0.out; have hx2c := Boxed.cell hx2; have hx3c := Boxed.cell (Boxed.alloc hx2 (.cells #[Value.pointer (some ⟨bt, 0, none⟩)] 27)); have L3 := Aside0.mk (Kd.C_below L2.out hb); clear hb)
    | ((try refine ⟨trivial, ?_⟩); gi_at_call 21; refine (All_in _ _ _).mono ?_; rintro e w' ⟨rfl, rfl⟩)
    | ((try refine ⟨trivial, ?_⟩); gi_at_call 22; (with_reducible refine (callsIn_wide.2 (CAm.out _)).mono ?_); rintro e w' ⟨rfl, rfl⟩))
  have hl3 := (hx2 : Boxed w2 w.heap.size 23 (.slice A n c))
  have hr2 : Boxed w2 (w.heap.size + 1) 4 (.bool false) := (D2.out.block _ Y0.out.lt).trans Y0.out
  have hbw : Below w2.heap.size w2 ((w2.alloc (.cells #[.pointer (some ⟨bt, 0, none⟩)] 27)).alloc (.cells #[.int .i64 (k : Int)] 3)) := below_alloc ((Below.refl _ _).alloc (Nat.le_refl _) _) _
  have hk3 : Boxed ((w2.alloc (.cells #[.pointer (some ⟨bt, 0, none⟩)] 27)).alloc (.cells #[.int .i64 (k : Int)] 3)) (w2.heap.size + 1) 3 (.int .i64 (k : Int)) := by
    have := Boxed.new (w2.alloc (.cells #[.pointer (some ⟨bt, 0, none⟩)] 27)) 3 (.int .i64 (k : Int))
    rw [World.size_alloc] at this
    exact this
  have hl4 := (hbw.block _ (Boxed.lt (t := 23) (v := .slice A n c) hl3)).trans hl3
  have hr4 := (hbw.block _ (Boxed.lt hr2)).trans hr2
  have hT4 := T2.out.below hbw
  have hC4 := Kd.C_below L3.out hbw
  have hB4 := below_step B3.out hbw
  obtain ⟨v17, hv17⟩ : ∃ v, Value.func (Fn.func 48) #[] #[Value.pointer (some ⟨w2.heap.size, 0, none⟩)] = v := ⟨_, rfl⟩
  rw [hv17]
  clear hv17
  generalize (w2.alloc (.cells #[.pointer (some ⟨bt, 0, none⟩)] 27)).alloc (.cells #[.int .i64 (k : Int)] 3) = W3 at hl4 hr4 hT4 hC4 hB4 hk3 ⊢
  generalize w2.heap.size + 1 = Bk at hk3 ⊢
  obtain ⟨LF, hLF⟩ : ∃ LF : World → Prop, LF = fun wr => Boxed wr w.heap.size 23 (.slice A n c) ∧ Boxed wr (w.heap.size + 1) 4 (.bool false) ∧ Boxed wr Bk 3 (.int .i64 (k : Int)) ∧ RL wr bt l ∧ Kd.C (Kd.int .i32) wr A l.length l ∧ Below w.heap.size w wr := ⟨_, rfl⟩
  have hLF3 : LF W3 := by rw [hLF]; exact ⟨hl4, hr4, hk3, hT4, hC4, hB4⟩
  have HLF := Aside0.mk hLF
  clear hLF
  clear hl4 hr4 hT4 hC4 hB4 hk3 hbw hr2 hl3 hx2c hx3c hx2 hx1 hx1c D2 D1 T2 T1 L3 L2 L1 B3 B2 B1 X0 Y0
  refine wpIn_loop (fun a' wr => ∃ (i : Nat) (u8 u25 u26 u27 u28 u29 u30 u55 u56 u57 : Value) (ds : List Deferred), a' = { tmps := #[Value.slice A n c, Value.int IntKind.i64 x, Value.pointer (some ⟨w.heap.size, 0, none⟩), undef, Value.pointer (some ⟨w.heap.size + 1, 0, none⟩), Value.pointer (some ⟨bt, 0, none⟩), Value.pointer (some ⟨Bk, 0, none⟩), Value.int IntKind.i64 (i : Int), u8, undef, undef, Value.slice A n c, Value.pointer (some ⟨bt, 0, none⟩), Value.bool true, Value.bool false, Value.bool false, Value.pointer (some ⟨bt, 0, none⟩), v17, Value.bool false, Value.bool false, Value.int IntKind.i64 x, Value.slice A n c, Value.int IntKind.i64 (n : Int), Value.int IntKind.i64 ((n : Int) + 1), Value.int IntKind.i64 (k : Int), u25, u26, u27, u28, u29, u30, undef, undef, undef, undef, undef, undef, undef, undef, undef, undef, undef, undef, undef, undef, undef, undef, undef, undef, undef, undef, undef, undef, undef, undef, u55, u56, u57], defers := ds } ∧ i ≤ 2 ∧ Aside0 (LF wr) ∧ Aside0 (Marks w.heap.size wr ds)) (fun a' _ => 2 - (intOf (a'.tmps.getD 7 undef)).toNat) ⟨0, undef, undef, undef, undef, undef, undef, undef, undef, undef, undef, [], rfl, by omega, ⟨hLF3⟩, ⟨trivial⟩⟩ ?_
  rintro a' wr ⟨i, u8, u25, u26, u27, u28, u29, u30, u55, u56, u57, ds, rfl, hi, HF, HM⟩
  have hF := HF.out
  rw [HLF.out] at hF
  obtain ⟨f1, f2, f3, f4, f5, f6⟩ := hF
  by_cases hi2 : i < 2
  · have hi3 : (i : Int) < 2 := by omega
    have F1 := Aside0.mk f1
    have F2 := Aside0.mk f2
    have F3 := Aside0.mk f3
    have F4 := Aside0.mk f4
    have F5 := Aside0.mk f5
    have F6 := Aside0.mk f6
    clear f1 f2 f3 f4 f5 f6
    gi_wp2_with ((try refine ⟨trivial, ?_⟩); gi_at_call 21; refine (All_in _ _ _).mono ?_; rintro e w' ⟨rfl, rfl⟩)
    obtain ⟨W0, hW0⟩ : ∃ W0, (wr.alloc (.cells #[.int .i64 0] 3)).alloc (.cells #[.pointer (some ⟨bt, 0, none⟩)] 27) = W0 := ⟨_, rfl⟩
    have hbn : Boxed W0 wr.heap.size 3 (.int .i64 0) := by rw [← hW0]; exact (Boxed.new wr _ _).alloc _
    have hbc : Boxed W0 (wr.heap.size + 1) 27 (.pointer (some ⟨bt, 0, none⟩)) := by
      have := Boxed.new (wr.alloc (.cells #[.int .i64 0] 3)) 27 (.pointer (some ⟨bt, 0, none⟩))
      rw [World.size_alloc, hW0] at this
      exact this
    have hb0 : Below wr.heap.size wr W0 := by rw [← hW0]; exact below_alloc ((Below.refl _ _).alloc (Nat.le_refl _) _) _
    rw [hW0]
    clear hW0
    have hs0 : wr.heap.size + 2 ≤ W0.heap.size := hbc.lt
    obtain ⟨t, hR, ht, hbal⟩ := F4.out.below hb0
    obtain ⟨g3, q3, he, m1, m2, m3, m4⟩ := hR
    obtain rfl : bt = g3 := by injection he with he; injection he
    have htl : t.sz = n := by rw [← RT.toL_len, ht]; exact HN.out
    obtain ⟨S, hS⟩ : ∃ S : Nat → Prop, S = fun k => k < W0.heap.size ∧ k ≠ wr.heap.size := ⟨_, rfl⟩
    have hSin : NodeIn S W0 q3 t := NodeAt.inS (fun k pl hk hc => by
      rw [hS]
      refine ⟨hk, fun e => ?_⟩
      subst e
      simp [World.cell?, show W0.heap[wr.heap.size]? = _ from hbn] at hc) (Nat.le_refl _) m4
    have hSl : ∀ k, S k → k < W0.heap.size := fun k hk => by rw [hS] at hk; exact hk.1
    have hSb : ∀ k, S k → k ≠ wr.heap.size := fun k hk => by rw [hS] at hk; exact hk.2
    have HS := Aside0.mk hS
    clear hS
    refine wpIn_rangeFunc_ownG rfl (by omega) (gf := 48) (lb := #[.pointer (some ⟨wr.heap.size + 1, 0, none⟩)]) rfl trivial (enters_of Try.func48 (by kernel_rfl) rfl)
      (All_stops S _ (wr.heap.size + 1) bt q3 t W0 hbc.cell m2 m3 hSin hSl (by omega)) keepS_t (keepS_b hSl) (Below.refl _ _) (fun _ => rfl)
      (fun pre W => Boxed W wr.heap.size 3 (.int .i64 (pre.length : Int)) ∧ (pre.length ≤ k ∧ (W0.heap.size ≤ W.heap.size ∧ Below wr.heap.size wr W)))
      (fun cd pre W => (cd = Code.exit 2 ∧ Boxed W wr.heap.size 3 (.int .i64 (k : Int)) ∧ Below wr.heap.size wr W) ∨ ¬ (pre <+: idx 0 l))
      (OwnFrom.and (Own.from (boxed_own wr.heap.size 3 (fun (pre : List (Int × Int)) => .int .i64 (pre.length : Int))) _) (OwnFrom.and (ownFrom_pure _ (fun (pre : List (Int × Int)) => pre.length ≤ k)) (OwnFrom.and own_size (ownFrom_below (Nat.le_refl _) (by omega)))))
      (fun cd s X Y row hs hg hr => hs.imp (fun ⟨h1, h2, h3⟩ => ⟨h1, (Own.from (boxed_own wr.heap.size 3 (fun (_ : Unit) => .int .i64 (k : Int))) W0.heap.size) () X Y row h2 hg hr, (ownFrom_below (β := Unit) (Nat.le_refl _) (by omega)) () X Y row h3 hg hr⟩) id)
      ⟨hbn, Nat.zero_le _, Nat.le_refl _, hb0⟩
      (fun y => { tmps := #[Value.slice A n c, Value.int IntKind.i64 x, Value.pointer (some ⟨w.heap.size, 0, none⟩), undef, Value.pointer (some ⟨w.heap.size + 1, 0, none⟩), Value.pointer (some ⟨bt, 0, none⟩), Value.pointer (some ⟨Bk, 0, none⟩), Value.int IntKind.i64 (i : Int), Value.pointer (some ⟨wr.heap.size, 0, none⟩), Value.int IntKind.i64 y.1, Value.int IntKind.i32 y.2, Value.slice A n c, Value.pointer (some ⟨bt, 0, none⟩), Value.bool true, Value.bool false, Value.bool false, Value.pointer (some ⟨bt, 0, none⟩), v17, Value.bool false, Value.bool false, Value.int IntKind.i64 x, Value.slice A n c, Value.int IntKind.i64 (n : Int), Value.int IntKind.i64 ((n : Int) + 1), Value.int IntKind.i64 (k : Int), Value.int IntKind.i64 (i : Int), Value.bool true, u27, u28, Value.pointer (some ⟨bt, 0, none⟩), Value.func (.func 48) #[] #[Value.pointer (some ⟨wr.heap.size + 1, 0, none⟩)], Value.int IntKind.i64 y.1, Value.int IntKind.i32 y.2, undef, undef, undef, undef, undef, undef, undef, undef, undef, undef, undef, undef, undef, undef, undef, undef, undef, undef, undef, undef, undef, undef, u55, u56, u57], defers := [] }) ?assign ?body ?done ?stop
    case assign =>
      intro lp y W K hK
      dsimp only [encR]
      gi_wp2
      exact hK
    case body =>
      rintro lp pre ⟨y1, y2⟩ W ⟨hb, hpk, hsz, hB⟩ hlt
      have hpn : pre.length < n := by rw [← htl]; exact hlt
      have c1 := hb.cell
      have z1 := hb.frozen
      have g1 := (hB.block _ F1.out.lt).trans F1.out
      have g2 := (hB.block _ F2.out.lt).trans F2.out
      have g3 := (hB.block _ F3.out.lt).trans F3.out
      have c2 := Boxed.cell g1
      have c3 := Boxed.cell g2
      have z3 := Boxed.frozen g2
      have c4 := Boxed.cell g3
      obtain ⟨ad, rfl, hcl⟩ := num_read32 (n := n) (by have := Kd.C_below F5.out hB; rw [HN.out] at this; exact this) HN.out pre.length hpn
      obtain ⟨v, hv⟩ : ∃ v, l.getD pre.length 0 = v := ⟨_, rfl⟩
      rw [hv] at hcl
      have HV := Aside0.mk hv
      clear hv
      by_cases hek : pre.length = k
      · have hek2 : ((pre.length : Int) == (k : Int)) = true := by simp; omega
        gi_wp2
        exact ⟨KeepsFrom.refl _ _, .inl ⟨rfl, by rw [← hek]; exact hb, hB⟩⟩
      · have hek2 : ((pre.length : Int) == (k : Int)) = false := by simp; omega
        have hkeep : ∀ u, KeepS S W (W.setCell ⟨wr.heap.size, 0, none⟩ u) := fun u j hj => Below.heap_setCell W _ u j (hSb j hj)
        by_cases hy1 : y1 = (pre.length : Int)
        · subst hy1
          by_cases hy2 : y2 = v
          · have hy3 : (y2 != v) = false := by simpa using hy2
            gi_wp2
            refine ⟨(KeepsOthers.setCell _ _ _).from _, hkeep _, ?_, by simp; omega, by simp; omega, hB.setCell (p := ⟨wr.heap.size, 0, none⟩) (Nat.le_refl _) _⟩
            have := hb.set (.int .i64 ((pre.length : Int) + 1))
            rw [List.length_append, List.length_singleton]
            exact this
          · have hy3 : (y2 != v) = true := by simpa using hy2
            gi_wp2
            refine ⟨(KeepsOthers.setCell _ _ _).from _, .inr fun hp => ?_⟩
            obtain ⟨h1, h2⟩ := idx_prefix hp
            have h3 : y2 = l[pre.length] := by injection h2
            exact hy2 (by rw [h3, ← HV.out]; simp [h1])
        · have hy3 : (y1 == (pre.length : Int)) = false := by simpa using hy1
          gi_wp2
          refine ⟨(KeepsOthers.setCell _ _ _).from _, .inr fun hp => ?_⟩
          obtain ⟨h1, h2⟩ := idx_prefix hp
          exact hy1 (by injection h2)
    case done =>
      rintro D ys W hD rfl ⟨hb, hpk, hsz, hB⟩ hK
      rw [ht, idx_len, HN.out] at hpk hb
      obtain rfl : n = k := by omega
      have c1 := hb.cell
      have g3 := (hB.block _ F3.out.lt).trans F3.out
      have c4 := Boxed.cell g3
      have hLW : LF W := by
        rw [HLF.out]
        exact ⟨(hB.block _ F1.out.lt).trans F1.out, (hB.block _ F2.out.lt).trans F2.out, g3, F4.out.below hB, Kd.C_below F5.out hB, below_step F6.out hB⟩
      have HD : Marks w.heap.size W ({ target := .collected D, args := #[] } :: ds) := ⟨⟨D, rfl, by have := F6.out.size; omega, hK, fun D' hD' => by have := HM.out.mem D' hD'; omega⟩, HM.out.below hB⟩
      gi_wp2
      refine ⟨⟨i + 1, _, _, _, _, _, _, _, _, _, _, _, ⟨⟨by omega, rfl, rfl, rfl, rfl, rfl, rfl, rfl, rfl, rfl, rfl⟩, rfl⟩, by omega, ⟨hLW⟩, ⟨HD⟩⟩, ?_⟩
      simp [intOf]
      omega
    case stop =>
      rintro D cd pre W hD hpre hx hK
      rw [ht] at hpre
      obtain ⟨rfl, hb, hB⟩ := hx.resolve_right (fun h => h hpre)
      have c1 := hb.cell
      have g3 := (hB.block _ F3.out.lt).trans F3.out
      have c4 := Boxed.cell g3
      have hLW : LF W := by
        rw [HLF.out]
        exact ⟨(hB.block _ F1.out.lt).trans F1.out, (hB.block _ F2.out.lt).trans F2.out, g3, F4.out.below hB, Kd.C_below F5.out hB, below_step F6.out hB⟩
      have HD : Marks w.heap.size W ({ target := .collected D, args := #[] } :: ds) := ⟨⟨D, rfl, by have := F6.out.size; omega, hK, fun D' hD' => by have := HM.out.mem D' hD'; omega⟩, HM.out.below hB⟩
      gi_wp2
      refine ⟨⟨i + 1, _, _, _, _, _, _, _, _, _, _, _, ⟨⟨by omega, rfl, rfl, rfl, rfl, rfl, rfl, rfl, rfl, rfl, rfl⟩, rfl⟩, by omega, ⟨hLW⟩, ⟨HD⟩⟩, ?_⟩
      simp [intOf]
      omega
  · have hi3 : ¬ (i : Int) < 2 := by omega
    have c2 := f2.cell
    have z2 := f2.frozen
    have f2s := f2.set (.bool true)
    have f6s := f6.setCell (p := ⟨w.heap.size + 1, 0, none⟩) (by simp) (.bool true)
    gi_wp2
    refine marks_leave (b := w.heap.size) (Φ := fun W => Below w.heap.size w W ∧ Boxed W (w.heap.size + 1) 4 (.bool true)) ?_ ?_ ds _ (HM.out.box f2 _) ⟨f6s, f2s⟩
    · exact fun W D h hD hd => ⟨h.1.trans (belowK_b (w := w) (Nat.le_refl _) W D _ _ hD hd rfl rfl), Boxed.putObj h.2 hd rfl⟩
    · intro W h
      have hc := h.2.cell
      exact ⟨.bool true, by simp [results, Try.results4, go_sem, hc], rfl, h.1⟩
theorem walk_RopeLeaves {W : World} {a0 : Option Addr} {len0 cap0 : Nat} {z0 : List Int} {a1 : Int} (w0 : InRow W a0 len0 cap0 z0) (y0 : len0 * 4 ≤ 140737488351232) (w1 : (Lit.int .i64 a1).wf = true) :
    Calls Try.prog 4 #[.slice a0 len0 cap0, .int .i64 a1] W fun e w' => e = .returned (.bool true) ∧ Below W.heap.size W w' := by
  obtain ⟨l, rfl, hC0, hc0, hm0, _⟩ := w0.list
  exact leaves_walk hC0 hc0 hm0 (by omega) (int_range w1)
end Go.Proofs.Ytenjldfflkinkaa.Rop
