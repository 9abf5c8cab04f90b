/- The contract of tells: a rope and its own list. -/
import Derived.Test.YtenjldfflkinkaaFGRopX
import Derived.Stop.RegionWithIn
namespace Go.Proofs.Ytenjldfflkinkaa.Rop
set_option linter.unusedVariables false
set_option linter.unusedSimpArgs false
open Go.RowKit Go.Shelf Go.Proofs.Ytenjldfflkinkaa.F Go.Proofs.YtenjldfflkinkaaW.PrintWords Go.Proofs.YtenjldfflkinkaaW.PrintLast Go.Proofs.YtenjldfflkinkaaW.PrintMore
attribute [local go_sem] Oper.semAt_some
set_option maxRecDepth 100000 in
set_option maxHeartbeats 4000000 in
theorem tells_L {w : World} {A : Option Addr} {l : List Int} {c b : Nat} (hT : RL w b l) (hC0 : Kd.C (Kd.int .i32) w A l.length l) (hc0 : l.length ≤ c) (hl : l.length ≤ 1000000) (hr : Runes l) :
    Calls Try.prog 29 #[.pointer (some ⟨b, 0, none⟩), .slice A l.length c] w fun e w' => e = .returned (.bool true) ∧ Below w.heap.size w w' := by
  obtain ⟨n, hn⟩ : ∃ n, l.length = n := ⟨_, rfl⟩
  obtain ⟨B, hB⟩ : ∃ B, l.countP sep = B := ⟨_, rfl⟩
  have CLen := Aside0.mk (fun W (h : RL W b l) => Len_Q h hn)
  have CBrk := Aside0.mk (fun W (h : RL W b l) => (by have := Breaks_L h; rw [hB] at this; exact this : Calls Try.prog 23 #[.pointer (some ⟨b, 0, none⟩)] W fun e w' => e = .returned (.int .i64 (B : Int)) ∧ W = w'))
  have CRef := Aside0.mk (fun W (h : Kd.C (Kd.int .i32) W A l.length l) => (by have := RefBreaks_L h hc0 (by omega) hr; rw [hB, hn] at this; exact this : Calls Try.prog 54 #[.slice A n c] W fun e w' => e = .returned (.int .i64 (B : Int)) ∧ Below W.heap.size W w'))
  have HN := Aside0.mk hn
  have hnb : n ≤ 1000000 := by omega
  rw [hn]
  have b0 : Below w.heap.size w (w.alloc (.cells #[.slice A n c] 23)) := (Below.refl _ _).alloc (Nat.le_refl _) _
  have b1 := below_alloc b0 (.cells #[.bool false] 4)
  have B1 := Aside0.mk b1
  have L1 := Aside0.mk (Kd.C_below hC0 b1)
  have T1 := Aside0.mk (hT.below b1)
  have X0 := Aside0.mk (show Boxed ((w.alloc (.cells #[.slice A n c] 23)).alloc (.cells #[.bool false] 4)) w.heap.size 23 (.slice A n c) from (Boxed.new w _ _).alloc _)
  have Y0 := Aside0.mk (show Boxed ((w.alloc (.cells #[.slice A n c] 23)).alloc (.cells #[.bool false] 4)) (w.heap.size + 1) 4 (.bool false) from (by have := Boxed.new (w.alloc (.cells #[.slice A n c] 23)) 4 (.bool false); rw [World.size_alloc] at this; exact this))
  clear b0 b1 hT hC0 hc0 hn hB hl hr
  have hnf := fun (W : World) f x y => run_seq_nil (w := W) f x y
  refine (callsIn_wide (n := 5)).1 ?_
  refine callsIn_of_wp_marks Try.func29 rfl trivial ?_ rfl
  simp only [Try.ntmps29, List.size_toArray, List.length_cons, List.length_nil, Nat.reduceAdd, Nat.reduceSub, Array.replicate_succ, Array.replicate_zero, List.push_toArray, List.append_toArray, List.nil_append, List.cons_append]
  gi_wp2
  generalize (w.alloc (.cells #[.slice A n c] 23)).alloc (.cells #[.bool false] 4) = W1 at B1 L1 T1 X0 Y0 ⊢
  have x1 := X0.out.cell
  refine Code.wpIn_mono (Q := Exit.then (fun a W => (∃ u8 u9 u10 u11 u12 u13 u14 u15 u16 u17 u18 u19 u20 u21 u22 u23 u24 u25 u26 u27 : Value, a = { tmps := #[Value.pointer (some ⟨b, 0, none⟩), Value.slice A n c, undef, Value.pointer (some ⟨w.heap.size, 0, none⟩), Value.pointer (some ⟨w.heap.size + 1, 0, none⟩), undef, undef, undef, u8, u9, u10, u11, u12, u13, u14, u15, u16, u17, u18, u19, u20, u21, u22, u23, u24, u25, u26, u27, Value.bool false, undef, undef, undef, undef, undef, undef, undef, undef, undef, undef, undef, undef, undef, undef, undef, undef, undef, undef, undef, undef, undef, undef, undef, undef, undef, undef, undef], defers := [] }) ∧ Below W1.heap.size W1 W) (fun _ _ _ => False)) (fun e a V h => ?cont) ?reg
  case reg =>
    gi_region_with (first
      | ((try refine ⟨trivial, ?_⟩); (try refine ⟨hdd_ _, ?_⟩); gi_at_call 17; (with_reducible refine (callsIn_wide.2 (CLen.out _ (T1.out.below (by (first | assumption | exact Below.refl _ _ | exact (Below.refl _ _).drew | exact below_drew1 (Below.refl _ _)))))).mono ?_); rintro e w' ⟨rfl, rfl⟩)
      | ((try refine ⟨trivial, ?_⟩); (try refine ⟨hdd_ _, ?_⟩); gi_at_call 23; (with_reducible refine (callsIn_wide.2 (CBrk.out _ (T1.out.below (by (first | assumption | exact Below.refl _ _ | exact (Below.refl _ _).drew | exact below_drew1 (Below.refl _ _)))))).mono ?_); rintro e w' ⟨rfl, rfl⟩)
      | ((try refine ⟨trivial, ?_⟩); (try refine ⟨hdd_ _, ?_⟩); gi_at_call 54; (with_reducible refine (callsIn_wide.2 (CRef.out _ (Kd.C_below L1.out (by (first | assumption | exact Below.refl _ _ | exact (Below.refl _ _).drew | exact below_drew1 (Below.refl _ _)))))).mono ?_); rintro e w2 ⟨rfl, hb⟩; have hb2 := below_step (w := W1) (by (first | assumption | exact Below.refl _ _ | exact (Below.refl _ _).drew | exact below_drew1 (Below.refl _ _))) hb)
      | ((try refine ⟨trivial, ?_⟩); (try refine ⟨hdd_ _, ?_⟩); gi_at_call 21; refine (All_in _ _ _).mono ?_; rintro e w' ⟨rfl, rfl⟩))
    all_goals exact ⟨⟨_, _, _, _, _, _, _, _, _, _, _, _, _, _, _, _, _, _, _, _, rfl⟩, (hb2.alloc hb2.size _)⟩
  case cont =>
    cases e with
    | normal =>
      obtain ⟨⟨u8, u9, u10, u11, u12, u13, u14, u15, u16, u17, u18, u19, u20, u21, u22, u23, u24, u25, u26, u27, rfl⟩, hbW⟩ := h
      gi_wp2_with ((try refine ⟨trivial, ?_⟩); gi_at_call 21; refine (All_in _ _ _).mono ?_; rintro e w' ⟨rfl, rfl⟩)
      obtain ⟨W0, hW0⟩ : ∃ W0, (V.alloc (.cells #[.int .i64 0] 3)).alloc (.cells #[.pointer (some ⟨b, 0, none⟩)] 27) = W0 := ⟨_, rfl⟩
      have hbnn : Boxed W0 V.heap.size 3 (.int .i64 0) := by rw [← hW0]; exact (Boxed.new V _ _).alloc _
      have hbcl : Boxed W0 (V.heap.size + 1) 27 (.pointer (some ⟨b, 0, none⟩)) := by
        have := Boxed.new (V.alloc (.cells #[.int .i64 0] 3)) 27 (.pointer (some ⟨b, 0, none⟩))
        rw [World.size_alloc, hW0] at this
        exact this
      have hb0 : Below V.heap.size V W0 := by rw [← hW0]; exact below_alloc ((Below.refl _ _).alloc (Nat.le_refl _) _) _
      rw [hW0]
      clear hW0
      have hs0 : V.heap.size + 2 ≤ W0.heap.size := hbcl.lt
      obtain ⟨t, hR, ht, hbal⟩ := (T1.out.below hbW).below hb0
      obtain ⟨g3, q3, he, m1, m2, m3, m4⟩ := hR
      obtain rfl : b = g3 := by injection he with he; injection he
      have htl : t.sz = n := by rw [← RT.toL_len, ht]; exact HN.out
      obtain ⟨S, hS⟩ : ∃ S : Nat → Prop, S = fun k => k < W0.heap.size ∧ k ≠ V.heap.size := ⟨_, rfl⟩
      have hSin : NodeIn S W0 q3 t := NodeAt.inS (fun k pl hk hc => by
        rw [hS]
        refine ⟨hk, fun e => ?_⟩
        subst e
        simp [World.cell?, show W0.heap[V.heap.size]? = _ from hbnn] at hc) (Nat.le_refl _) m4
      have hSl : ∀ k, S k → k < W0.heap.size := fun k hk => by rw [hS] at hk; exact hk.1
      have hSb : ∀ k, S k → k ≠ V.heap.size := fun k hk => by rw [hS] at hk; exact hk.2
      have HS := Aside0.mk hS
      clear hS
      refine wpIn_rangeFunc_ownG rfl (by omega) (gf := 48) (lb := #[.pointer (some ⟨V.heap.size + 1, 0, none⟩)]) rfl trivial (enters_of Try.func48 (by kernel_rfl) rfl)
        (All_stops S _ (V.heap.size + 1) b q3 t W0 hbcl.cell m2 m3 hSin hSl (by omega)) keepS_t (keepS_b hSl) (Below.refl _ _) (fun _ => rfl)
        (fun pre W => Boxed W V.heap.size 3 (.int .i64 (pre.length : Int)) ∧ (W0.heap.size ≤ W.heap.size ∧ Below V.heap.size V W))
        (fun cd pre W => ¬ (pre <+: idx 0 l))
        (OwnFrom.and (Own.from (boxed_own V.heap.size 3 (fun (pre : List (Int × Int)) => .int .i64 (pre.length : Int))) _) (OwnFrom.and own_size (ownFrom_below (Nat.le_refl _) (by omega))))
        (fun cd s X Y row hs hg hr => hs)
        ⟨hbnn, Nat.le_refl _, hb0⟩
        (fun y => { tmps := #[Value.pointer (some ⟨b, 0, none⟩), Value.slice A n c, undef, Value.pointer (some ⟨w.heap.size, 0, none⟩), Value.pointer (some ⟨w.heap.size + 1, 0, none⟩), Value.pointer (some ⟨V.heap.size, 0, none⟩), Value.int IntKind.i64 y.1, Value.int IntKind.i32 y.2, u8, u9, u10, u11, u12, u13, u14, u15, u16, u17, u18, u19, u20, u21, u22, u23, u24, u25, u26, u27, Value.bool false, Value.pointer (some ⟨b, 0, none⟩), Value.func (.func 48) #[] #[Value.pointer (some ⟨V.heap.size + 1, 0, none⟩)], Value.int IntKind.i64 y.1, Value.int IntKind.i32 y.2, undef, undef, undef, undef, undef, undef, undef, undef, undef, undef, undef, undef, undef, undef, undef, undef, undef, undef, undef, undef, undef, undef, undef], defers := [] }) ?assign ?body ?done ?stop
      case assign =>
        intro lp y W K hK
        dsimp only [encR]
        gi_wp2
        exact hK
      case body =>
        rintro lp pre ⟨y1, y2⟩ W ⟨hb, hsz, hB⟩ hlt
        have hpn : pre.length < n := by rw [← htl]; exact hlt
        have hBa := below_step hbW hB
        have c1 := hb.cell
        have z1 := hb.frozen
        have g1 := (hBa.block _ X0.out.lt).trans X0.out
        have g2 := (hBa.block _ Y0.out.lt).trans Y0.out
        have c2 := Boxed.cell g1
        have c3 := Boxed.cell g2
        have z3 := Boxed.frozen g2
        obtain ⟨ad, rfl, hcl⟩ := num_read32 (n := n) (by have := Kd.C_below L1.out hBa; rw [HN.out] at this; exact this) HN.out pre.length hpn
        obtain ⟨v, hv⟩ : ∃ v, l.getD pre.length 0 = v := ⟨_, rfl⟩
        rw [hv] at hcl
        have HV := Aside0.mk hv
        clear hv
        have hkeep : ∀ u, KeepS S W (W.setCell ⟨V.heap.size, 0, none⟩ u) := fun u j hj => Below.heap_setCell W _ u j (hSb j hj)
        by_cases hy1 : y1 = (pre.length : Int)
        · subst hy1
          by_cases hy2 : y2 = v
          · have hy3 : (y2 != v) = false := by simpa using hy2
            gi_wp2
            refine ⟨(KeepsOthers.setCell _ _ _).from _, hkeep _, ?_, by simp; omega, hB.setCell (p := ⟨V.heap.size, 0, none⟩) (Nat.le_refl _) _⟩
            have := hb.set (.int .i64 ((pre.length : Int) + 1))
            rw [List.length_append, List.length_singleton]
            exact this
          · have hy3 : (y2 != v) = true := by simpa using hy2
            gi_wp2
            refine ⟨(KeepsOthers.setCell _ _ _).from _, fun hp => ?_⟩
            obtain ⟨h1, h2⟩ := idx_prefix hp
            have h3 : y2 = l[pre.length] := by injection h2
            exact hy2 (by rw [h3, ← HV.out]; simp [h1])
        · have hy3 : (y1 == (pre.length : Int)) = false := by simpa using hy1
          gi_wp2
          refine ⟨(KeepsOthers.setCell _ _ _).from _, fun hp => ?_⟩
          obtain ⟨h1, h2⟩ := idx_prefix hp
          exact hy1 (by injection h2)
      case stop =>
        rintro D cd pre W hD hpre hx hK
        rw [ht] at hpre
        exact absurd hpre hx
      rintro D ys W hD rfl ⟨hb, hsz, hB⟩ hK
      rw [ht, idx_len, HN.out] at hb
      have hBa := below_step hbW hB
      have c1 := hb.cell
      have g1 := (hBa.block _ X0.out.lt).trans X0.out
      have f2 : Boxed W (w.heap.size + 1) 4 (.bool false) := (hBa.block _ Y0.out.lt).trans Y0.out
      have c2 := Boxed.cell g1
      have c3 := Boxed.cell f2
      have z3 := Boxed.frozen f2
      have f2s := Boxed.set (.bool true) f2
      have hBe := below_step B1.out hBa
      have f6s := hBe.setCell (p := ⟨w.heap.size + 1, 0, none⟩) (by simp) (.bool true)
      have HM : Marks w.heap.size W [{ target := .collected D, args := #[] }] := ⟨⟨D, rfl, by have := B1.out.size; have := hbW.size; omega, hK, fun D' hD' => by cases hD'⟩, trivial⟩
      gi_wp2
      refine marks_leave (b := w.heap.size) (Φ := fun W => Below w.heap.size w W ∧ Boxed W (w.heap.size + 1) 4 (.bool true)) ?_ ?_ _ _ (HM.box f2 _) ⟨f6s, f2s⟩
      · exact fun W D h hD hd => ⟨h.1.trans (belowK_b (w := w) (Nat.le_refl _) W D _ _ hD hd rfl rfl), Boxed.putObj h.2 hd rfl⟩
      · intro W h
        have hc := Boxed.cell h.2
        exact ⟨.bool true, by simp [results, Try.results29, go_sem, hc], rfl, h.1⟩
    | _ => exact h.elim
end Go.Proofs.Ytenjldfflkinkaa.Rop
