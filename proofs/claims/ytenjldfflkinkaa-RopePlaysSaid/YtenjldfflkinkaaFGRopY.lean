/- The law RopeNobody, walked. -/
import Derived.Test.YtenjldfflkinkaaFGRopV
namespace Go.Proofs.Ytenjldfflkinkaa.Rop
set_option linter.unusedVariables false
set_option linter.unusedSimpArgs false
open Go.RowKit Go.Shelf Go.Proofs.Ytenjldfflkinkaa.F Go.Proofs.YtenjldfflkinkaaW.PrintWords Go.Proofs.YtenjldfflkinkaaW.PrintLast Go.Proofs.YtenjldfflkinkaaW.PrintMore
attribute [local go_sem] Oper.semAt_some
set_option maxRecDepth 100000 in
set_option maxHeartbeats 2000000 in
theorem Slice_bad {w : World} {p : Option Addr} {a b : Int} {x : Int} (hx : x ≠ 0) (hsp : Calls Try.prog 41 #[.pointer p, .int .i64 a, .int .i64 b] w fun e w' => e = .returned (.int .i64 x) ∧ w = w') :
    Calls Try.prog 16 #[.pointer p, .int .i64 a, .int .i64 b] w fun e w' => e = .returned (.tuple #[.slice none 0 0, .int .i64 x]) ∧ w = w' := by
  have hx1 : (x != 0) = true := by simpa using hx
  go_enter Try.func16, Try.ntmps16
  go_wp2_with (go_at_call 41; (with_reducible refine hsp.mono ?_); rintro e w' ⟨rfl, rfl⟩)
  go_ret2
  exact ⟨rfl, rfl⟩
set_option maxRecDepth 100000 in
set_option maxHeartbeats 8000000 in
theorem nobody_walk {w : World} {A : Option Addr} {l : List Int} {c : Nat} {x y : Int} (hC0 : Kd.C (Kd.int .i32) w A l.length l) (hc0 : l.length ≤ c) (hm0 : c ≤ 9223372036854775807) (hl : l.length ≤ 40000000000000) :
    Calls Try.prog 9 #[.int .i64 x, .int .i64 y, .slice A l.length c] w fun e w' => e = .returned (.bool true) ∧ Below w.heap.size w w' := by
  obtain ⟨n, hn⟩ : ∃ n, l.length = n := ⟨_, rfl⟩
  have CNew := Aside0.mk (fun W (h : Kd.C (Kd.int .i32) W A l.length l) => (by have := New_L (c := c) h hc0 hm0 (by omega); rw [hn] at this; exact this : Calls Try.prog 10 #[.slice A n c] W (OneR l W)))
  have HC0 := Aside0.mk hC0
  have HN := Aside0.mk hn
  rw [hn]
  clear hC0 hn hc0 hm0 hl
  have b0 : Below w.heap.size w (w.alloc (.cells #[.bool false] 4)) := (Below.refl _ _).alloc (Nat.le_refl _) _
  have B1 := Aside0.mk b0
  have L1 := Aside0.mk (Kd.C_below HC0.out b0)
  clear b0
  have Y0 := Aside0.mk (Boxed.new w 4 (.bool false))
  have hnf := fun (W : World) f x y => run_seq_nil (w := W) f x y
  refine (callsIn_wide (n := 5)).1 ?_
  refine callsIn_of_wp_marks Try.func9 rfl trivial ?_ rfl
  simp only [Try.ntmps9, List.size_toArray, List.length_cons, List.length_nil, Nat.reduceAdd, Nat.reduceSub, Array.replicate_succ, Array.replicate_zero, List.push_toArray, List.append_toArray, List.nil_append, List.cons_append]
  gi_wp2_with ((try refine ⟨trivial, ?_⟩); gi_at_call 10; (with_reducible refine (callsIn_wide.2 (CNew.out _ L1.out)).mono ?_); rintro e w1 ⟨bt, rfl, ht, hb⟩; have T1 := Aside0.mk ht; have B2 := Aside0.mk (below_step B1.out hb); have D1 := Aside0.mk hb; clear ht hb)
  obtain ⟨W3, hW3⟩ : ∃ W3, (w1.alloc (.cells #[.bool false, .pointer none] 74)).alloc (.cells #[.pointer none, .pointer (some ⟨w1.heap.size, 0, none⟩)] 27) = W3 := ⟨_, rfl⟩
  have hb3 : Below w1.heap.size w1 W3 := by rw [← hW3]; exact below_alloc ((Below.refl _ _).alloc (Nat.le_refl _) _) _
  have z0 : W3.cell? ⟨w1.heap.size, 0, none⟩ = some (.bool false) := by
    have h1 : (w1.alloc (.cells #[.bool false, .pointer none] 74)).cell? ⟨w1.heap.size, 0, none⟩ = some (.bool false) := by rw [new_cell]; rfl
    rw [← hW3]
    exact (Below.cell ((Below.refl _ _).alloc (Nat.le_refl _) _) (World.block_lt_of_cell? _ _ h1)).trans h1
  have g0 : W3.cell? ⟨w1.heap.size + 1, 0, none⟩ = some (.pointer none) := by
    have h1 := new_cell (W := w1.alloc (.cells #[.bool false, .pointer none] 74)) (cs := #[.pointer none, .pointer (some ⟨w1.heap.size, 0, none⟩)]) (t := 27) (j := 0)
    rw [World.size_alloc, hW3] at h1
    exact h1
  have g1 : W3.cell? ⟨w1.heap.size + 1, 1, none⟩ = some (.pointer (some ⟨w1.heap.size, 0, none⟩)) := by
    have h1 := new_cell (W := w1.alloc (.cells #[.bool false, .pointer none] 74)) (cs := #[.pointer none, .pointer (some ⟨w1.heap.size, 0, none⟩)]) (t := 27) (j := 1)
    rw [World.size_alloc, hW3] at h1
    exact h1
  have T3 := Aside0.mk (T1.out.below hb3)
  have B3 := Aside0.mk (below_step B2.out hb3)
  have hy1 := (D1.out.block _ (Boxed.lt Y0.out)).trans Y0.out
  have Y3 := Aside0.mk (show Boxed W3 w.heap.size 4 (.bool false) from (hb3.block _ (Boxed.lt hy1)).trans hy1)
  rw [hW3]
  have zlt := World.block_lt_of_cell? _ _ z0
  have glt := World.block_lt_of_cell? _ _ g0
  generalize w1.heap.size + 1 = G at g0 g1 glt ⊢
  generalize w1.heap.size = Z at z0 g1 zlt ⊢
  clear hW3 hb3 hy1 Y0 D1 B1 B2 T1 L1 HC0 CNew
  have NP : Aside0 (∀ W, Below W3.heap.size W3 W → NoR W none) := ⟨fun W h => .inl rfl⟩
  have CC2 : Aside0 (∀ W, Below W3.heap.size W3 W → Calls Try.prog 26 #[.pointer (some ⟨bt, 0, none⟩), .pointer none] W fun e w' => e = .returned (.tuple #[.pointer none, .int .i64 1]) ∧ W = w') := ⟨fun W h => by obtain ⟨t, h1, _, _⟩ := T3.out.below h; exact Concat_no2 h1 (NP.out _ h)⟩
  refine wpIn_loop_rounds 3 ?_
  rw [roundsIn_succ]
  gi_wp2_with (first
    | ((try refine ⟨trivial, ?_⟩); gi_at_call 32; (with_reducible refine (callsIn_wide.2 (At_no (NP.out _ (by (first | assumption | exact Below.refl _ _ | exact below_alloc (Below.refl _ _) _ | exact below_alloc (by assumption) _))) _)).mono ?_); rintro e w' ⟨rfl, rfl⟩)
    | ((try refine ⟨trivial, ?_⟩); gi_at_call 16; (with_reducible refine (callsIn_wide.2 (Slice_bad (x := 1) (by decide) (span_no (NP.out _ (by (first | assumption | exact Below.refl _ _ | exact below_alloc (Below.refl _ _) _ | exact below_alloc (by assumption) _))) _ _))).mono ?_); rintro e w' ⟨rfl, rfl⟩)
    | ((try refine ⟨trivial, ?_⟩); gi_at_call 14; (with_reducible refine (callsIn_wide.2 (Insert_bad (x := 1) (by decide) (span_no (NP.out _ (by (first | assumption | exact Below.refl _ _ | exact below_alloc (Below.refl _ _) _ | exact below_alloc (by assumption) _))) _ _))).mono ?_); rintro e w' ⟨rfl, rfl⟩)
    | ((try refine ⟨trivial, ?_⟩); gi_at_call 13; (with_reducible refine (callsIn_wide.2 (Delete_bad (x := 1) (by decide) (span_no (NP.out _ (by (first | assumption | exact Below.refl _ _ | exact below_alloc (Below.refl _ _) _ | exact below_alloc (by assumption) _))) _ _))).mono ?_); rintro e w' ⟨rfl, rfl⟩)
    | ((try refine ⟨trivial, ?_⟩); gi_at_call 27; (with_reducible refine (callsIn_wide.2 (Split_bad (x := 1) (by decide) (span_no (NP.out _ (by (first | assumption | exact Below.refl _ _ | exact below_alloc (Below.refl _ _) _ | exact below_alloc (by assumption) _))) _ _))).mono ?_); rintro e w' ⟨rfl, rfl⟩)
    | ((try refine ⟨trivial, ?_⟩); gi_at_call 26; (with_reducible refine (callsIn_wide.2 (Concat_no1 (NP.out _ (by (first | assumption | exact Below.refl _ _ | exact below_alloc (Below.refl _ _) _ | exact below_alloc (by assumption) _))))).mono ?_); rintro e w' ⟨rfl, rfl⟩)
    | ((try refine ⟨trivial, ?_⟩); gi_at_call 26; (with_reducible refine (callsIn_wide.2 (CC2.out _ (by (first | assumption | exact Below.refl _ _ | exact below_alloc (Below.refl _ _) _ | exact below_alloc (by assumption) _)))).mono ?_); rintro e w' ⟨rfl, rfl⟩)
    | ((try refine ⟨trivial, ?_⟩); gi_at_call 24; (with_reducible refine (callsIn_wide.2 (Para_bad (x := 1) (by decide) (span_no (NP.out _ (by (first | assumption | exact Below.refl _ _ | exact below_alloc (Below.refl _ _) _ | exact below_alloc (by assumption) _))) _ _))).mono ?_); rintro e w' ⟨rfl, rfl⟩)
    | ((try refine ⟨trivial, ?_⟩); gi_at_call 17; (with_reducible refine (callsIn_wide.2 (Len_no (NP.out _ (by (first | assumption | exact Below.refl _ _ | exact below_alloc (Below.refl _ _) _ | exact below_alloc (by assumption) _))))).mono ?_); rintro e w' ⟨rfl, rfl⟩)
    | ((try refine ⟨trivial, ?_⟩); gi_at_call 23; (with_reducible refine (callsIn_wide.2 (Breaks_no (NP.out _ (by (first | assumption | exact Below.refl _ _ | exact below_alloc (Below.refl _ _) _ | exact below_alloc (by assumption) _))))).mono ?_); rintro e w' ⟨rfl, rfl⟩)
    | ((try refine ⟨trivial, ?_⟩); gi_at_call 25; (with_reducible refine (callsIn_wide.2 (Deep_no (NP.out _ (by (first | assumption | exact Below.refl _ _ | exact below_alloc (Below.refl _ _) _ | exact below_alloc (by assumption) _))))).mono ?_); rintro e w' ⟨rfl, rfl⟩)
    | ((try refine ⟨trivial, ?_⟩); gi_at_call 21; refine (All_in _ _ _).mono ?_; rintro e w' ⟨rfl, rfl⟩))
  obtain ⟨W4_1, hW4⟩ : ∃ W4, (W3.alloc (.cells #[.pointer none] 27)).alloc (.cells #[.pointer none] 27) = W4 := ⟨_, rfl⟩
  have hbt : Boxed W4_1 (W3.heap.size + 1) 27 (.pointer none) := by
    have := Boxed.new (W3.alloc (.cells #[.pointer none] 27)) 27 (.pointer none)
    rw [World.size_alloc, hW4] at this
    exact this
  have hB4 : Below W3.heap.size W3 W4_1 := by rw [← hW4]; exact below_alloc ((Below.refl _ _).alloc (Nat.le_refl _) _) _
  rw [hW4]
  clear hW4
  refine wpIn_rangeFunc_ownH rfl (by omega) (gf := 48) (lb := #[.pointer (some ⟨W3.heap.size + 1, 0, none⟩)]) rfl trivial (enters_of Try.func48 (by kernel_rfl) rfl)
    (All_none (fun _ => False) _ (W3.heap.size + 1) none W4_1 (NP.out _ hB4) hbt.cell) keepS_t (keepS_b (fun _ h => h.elim)) (Below.refl _ _) (fun _ => rfl)
    (fun _ W => Below W4_1.heap.size W4_1 W) (fun _ _ _ => False) (ownFrom_below (Nat.le_refl _) (Nat.le_refl _)) (fun _ _ _ _ _ h _ _ => h) (Below.refl _ _) (fun _ _ _ => True) (fun _ _ _ _ _ _ h _ _ => h) ?assign1 ?body1 ?done1 ?stop1
  case assign1 =>
    intro lp pre x W K hI hK
    gi_wp2
    exact hK _ _ (KeepsFrom.refl _ _) (KeepS.refl _ _) hI trivial
  case body1 =>
    intro lp pre x a' W _ _ _ _ hlt
    exact absurd hlt (Nat.not_lt_zero _)
  case stop1 =>
    intro D cd pre W _ _ h _
    exact h.elim
  rintro D1 ys V1 hD1 hys hBV hK1
  have hBW : Below W3.heap.size W3 V1 := below_step hB4 hBV
  gi_wp2
  obtain ⟨W5_1, hW5⟩ : ∃ W5, V1.alloc (.cells #[.int .i64 1, .int .i64 1, .int .i64 1, .int .i64 1, .int .i64 1, .int .i64 1, .int .i64 1, .int .i64 1] 33) = W5 := ⟨_, rfl⟩
  have hc8 : ∀ j, j < 8 → W5_1.cell? ⟨V1.heap.size, j, none⟩ = some (.int .i64 1) := fun j hj => by
    rw [← hW5, new_cell]
    have : j = 0 ∨ j = 1 ∨ j = 2 ∨ j = 3 ∨ j = 4 ∨ j = 5 ∨ j = 6 ∨ j = 7 := by omega
    rcases this with rfl | rfl | rfl | rfl | rfl | rfl | rfl | rfl <;> rfl
  have hB5 : Below W3.heap.size W3 W5_1 := by rw [← hW5]; exact below_alloc hBW _
  have hK5_1 : W5_1.heap[D1]? = some (.deferred (some [])) := by
    rw [← hW5]
    exact (Below.heap_alloc _ _ _ ((Array.getElem?_eq_some_iff.1 hK1).1)).trans hK1
  have hD5_1 : W3.heap.size ≤ D1 := Nat.le_trans hB4.size hD1
  rw [hW5]
  have H8 := Aside0.mk hc8
  have B5_1 := Aside0.mk hB5
  clear hW5 hc8 hBW hBV hB4 hbt hys hB5 NP CC2
  gi_loopw [172] (fun v W => ∃ j : Nat, v = .int .i64 (j : Int) ∧ j ≤ 8 ∧ W = W5_1) (fun v _ => 8 - (intOf v).toNat)
  case atStart => exact ⟨0, rfl, by omega, rfl⟩
  obtain ⟨j, rfl, hj8, hwr⟩ := hrel
  rw [hwr]
  clear hwr
  by_cases hj : j < 8
  · have hj' : (j : Int) < 8 := by omega
    have hcj := H8.out j hj
    gi_wp2
    go_roundw
    case rel => exact ⟨j + 1, by go_num, by omega, trivial⟩
    case measure => simp [intOf]; omega
  have hj' : ¬ (j : Int) < 8 := by omega
  gi_wp2
  have hb5 := B5_1.out
  have z5 := (hb5.cell (p := ⟨Z, 0, none⟩) zlt).trans z0
  have zlt5 : Z < W5_1.heap.size := Nat.lt_of_lt_of_le zlt hb5.size
  have g15 := (hb5.cell (p := ⟨G, 1, none⟩) glt).trans g1
  have T5 := Aside0.mk (T3.out.below hb5)
  have NP : Aside0 (∀ W, Below W5_1.heap.size W5_1 W → NoR W (some ⟨Z, 0, none⟩)) := ⟨fun W h => .inr ⟨Z, rfl, Nat.lt_of_lt_of_le zlt5 h.size, (h.cell (p := ⟨Z, 0, none⟩) zlt5).trans z5⟩⟩
  have CC2 : Aside0 (∀ W, Below W5_1.heap.size W5_1 W → Calls Try.prog 26 #[.pointer (some ⟨bt, 0, none⟩), .pointer (some ⟨Z, 0, none⟩)] W fun e w' => e = .returned (.tuple #[.pointer none, .int .i64 1]) ∧ W = w') := ⟨fun W h => by obtain ⟨t, h1, _, _⟩ := T5.out.below h; exact Concat_no2 h1 (NP.out _ h)⟩
  rw [roundsIn_succ]
  gi_wp2_with (first
    | ((try refine ⟨trivial, ?_⟩); gi_at_call 32; (with_reducible refine (callsIn_wide.2 (At_no (NP.out _ (by (first | assumption | exact Below.refl _ _ | exact below_alloc (Below.refl _ _) _ | exact below_alloc (by assumption) _))) _)).mono ?_); rintro e w' ⟨rfl, rfl⟩)
    | ((try refine ⟨trivial, ?_⟩); gi_at_call 16; (with_reducible refine (callsIn_wide.2 (Slice_bad (x := 1) (by decide) (span_no (NP.out _ (by (first | assumption | exact Below.refl _ _ | exact below_alloc (Below.refl _ _) _ | exact below_alloc (by assumption) _))) _ _))).mono ?_); rintro e w' ⟨rfl, rfl⟩)
    | ((try refine ⟨trivial, ?_⟩); gi_at_call 14; (with_reducible refine (callsIn_wide.2 (Insert_bad (x := 1) (by decide) (span_no (NP.out _ (by (first | assumption | exact Below.refl _ _ | exact below_alloc (Below.refl _ _) _ | exact below_alloc (by assumption) _))) _ _))).mono ?_); rintro e w' ⟨rfl, rfl⟩)
    | ((try refine ⟨trivial, ?_⟩); gi_at_call 13; (with_reducible refine (callsIn_wide.2 (Delete_bad (x := 1) (by decide) (span_no (NP.out _ (by (first | assumption | exact Below.refl _ _ | exact below_alloc (Below.refl _ _) _ | exact below_alloc (by assumption) _))) _ _))).mono ?_); rintro e w' ⟨rfl, rfl⟩)
    | ((try refine ⟨trivial, ?_⟩); gi_at_call 27; (with_reducible refine (callsIn_wide.2 (Split_bad (x := 1) (by decide) (span_no (NP.out _ (by (first | assumption | exact Below.refl _ _ | exact below_alloc (Below.refl _ _) _ | exact below_alloc (by assumption) _))) _ _))).mono ?_); rintro e w' ⟨rfl, rfl⟩)
    | ((try refine ⟨trivial, ?_⟩); gi_at_call 26; (with_reducible refine (callsIn_wide.2 (Concat_no1 (NP.out _ (by (first | assumption | exact Below.refl _ _ | exact below_alloc (Below.refl _ _) _ | exact below_alloc (by assumption) _))))).mono ?_); rintro e w' ⟨rfl, rfl⟩)
    | ((try refine ⟨trivial, ?_⟩); gi_at_call 26; (with_reducible refine (callsIn_wide.2 (CC2.out _ (by (first | assumption | exact Below.refl _ _ | exact below_alloc (Below.refl _ _) _ | exact below_alloc (by assumption) _)))).mono ?_); rintro e w' ⟨rfl, rfl⟩)
    | ((try refine ⟨trivial, ?_⟩); gi_at_call 24; (with_reducible refine (callsIn_wide.2 (Para_bad (x := 1) (by decide) (span_no (NP.out _ (by (first | assumption | exact Below.refl _ _ | exact below_alloc (Below.refl _ _) _ | exact below_alloc (by assumption) _))) _ _))).mono ?_); rintro e w' ⟨rfl, rfl⟩)
    | ((try refine ⟨trivial, ?_⟩); gi_at_call 17; (with_reducible refine (callsIn_wide.2 (Len_no (NP.out _ (by (first | assumption | exact Below.refl _ _ | exact below_alloc (Below.refl _ _) _ | exact below_alloc (by assumption) _))))).mono ?_); rintro e w' ⟨rfl, rfl⟩)
    | ((try refine ⟨trivial, ?_⟩); gi_at_call 23; (with_reducible refine (callsIn_wide.2 (Breaks_no (NP.out _ (by (first | assumption | exact Below.refl _ _ | exact below_alloc (Below.refl _ _) _ | exact below_alloc (by assumption) _))))).mono ?_); rintro e w' ⟨rfl, rfl⟩)
    | ((try refine ⟨trivial, ?_⟩); gi_at_call 25; (with_reducible refine (callsIn_wide.2 (Deep_no (NP.out _ (by (first | assumption | exact Below.refl _ _ | exact below_alloc (Below.refl _ _) _ | exact below_alloc (by assumption) _))))).mono ?_); rintro e w' ⟨rfl, rfl⟩)
    | ((try refine ⟨trivial, ?_⟩); gi_at_call 21; refine (All_in _ _ _).mono ?_; rintro e w' ⟨rfl, rfl⟩))
  obtain ⟨W4_2, hW4⟩ : ∃ W4, (W5_1.alloc (.cells #[.pointer (some ⟨Z, 0, none⟩)] 27)).alloc (.cells #[.pointer (some ⟨Z, 0, none⟩)] 27) = W4 := ⟨_, rfl⟩
  have hbt : Boxed W4_2 (W5_1.heap.size + 1) 27 (.pointer (some ⟨Z, 0, none⟩)) := by
    have := Boxed.new (W5_1.alloc (.cells #[.pointer (some ⟨Z, 0, none⟩)] 27)) 27 (.pointer (some ⟨Z, 0, none⟩))
    rw [World.size_alloc, hW4] at this
    exact this
  have hB4 : Below W5_1.heap.size W5_1 W4_2 := by rw [← hW4]; exact below_alloc ((Below.refl _ _).alloc (Nat.le_refl _) _) _
  rw [hW4]
  clear hW4
  refine wpIn_rangeFunc_ownH rfl (by omega) (gf := 48) (lb := #[.pointer (some ⟨W5_1.heap.size + 1, 0, none⟩)]) rfl trivial (enters_of Try.func48 (by kernel_rfl) rfl)
    (All_none (fun _ => False) _ (W5_1.heap.size + 1) (some ⟨Z, 0, none⟩) W4_2 (NP.out _ hB4) hbt.cell) keepS_t (keepS_b (fun _ h => h.elim)) (Below.refl _ _) (fun _ => rfl)
    (fun _ W => Below W4_2.heap.size W4_2 W) (fun _ _ _ => False) (ownFrom_below (Nat.le_refl _) (Nat.le_refl _)) (fun _ _ _ _ _ h _ _ => h) (Below.refl _ _) (fun _ _ _ => True) (fun _ _ _ _ _ _ h _ _ => h) ?assign2 ?body2 ?done2 ?stop2
  case assign2 =>
    intro lp pre x W K hI hK
    gi_wp2
    exact hK _ _ (KeepsFrom.refl _ _) (KeepS.refl _ _) hI trivial
  case body2 =>
    intro lp pre x a' W _ _ _ _ hlt
    exact absurd hlt (Nat.not_lt_zero _)
  case stop2 =>
    intro D cd pre W _ _ h _
    exact h.elim
  rintro D2 ys V2 hD2 hys hBV hK2
  have hBW : Below W5_1.heap.size W5_1 V2 := below_step hB4 hBV
  gi_wp2
  obtain ⟨W5_2, hW5⟩ : ∃ W5, V2.alloc (.cells #[.int .i64 1, .int .i64 1, .int .i64 1, .int .i64 1, .int .i64 1, .int .i64 1, .int .i64 1, .int .i64 1] 33) = W5 := ⟨_, rfl⟩
  have hc8 : ∀ j, j < 8 → W5_2.cell? ⟨V2.heap.size, j, none⟩ = some (.int .i64 1) := fun j hj => by
    rw [← hW5, new_cell]
    have : j = 0 ∨ j = 1 ∨ j = 2 ∨ j = 3 ∨ j = 4 ∨ j = 5 ∨ j = 6 ∨ j = 7 := by omega
    rcases this with rfl | rfl | rfl | rfl | rfl | rfl | rfl | rfl <;> rfl
  have hB5 : Below W5_1.heap.size W5_1 W5_2 := by rw [← hW5]; exact below_alloc hBW _
  have hK5_2 : W5_2.heap[D2]? = some (.deferred (some [])) := by
    rw [← hW5]
    exact (Below.heap_alloc _ _ _ ((Array.getElem?_eq_some_iff.1 hK2).1)).trans hK2
  have hD5_2 : W5_1.heap.size ≤ D2 := Nat.le_trans hB4.size hD2
  rw [hW5]
  have H8 := Aside0.mk hc8
  have B5_2 := Aside0.mk hB5
  clear hW5 hc8 hBW hBV hB4 hbt hys hB5 NP CC2
  gi_loopw [172] (fun v W => ∃ j : Nat, v = .int .i64 (j : Int) ∧ j ≤ 8 ∧ W = W5_2) (fun v _ => 8 - (intOf v).toNat)
  case atStart => exact ⟨0, rfl, by omega, rfl⟩
  obtain ⟨j, rfl, hj8, hwr⟩ := hrel
  rw [hwr]
  clear hwr
  by_cases hj : j < 8
  · have hj' : (j : Int) < 8 := by omega
    have hcj := H8.out j hj
    gi_wp2
    go_roundw
    case rel => exact ⟨j + 1, by go_num, by omega, trivial⟩
    case measure => simp [intOf]; omega
  have hj' : ¬ (j : Int) < 8 := by omega
  gi_wp2
  rw [roundsIn_succ]
  have hb6 := B5_2.out
  have T6 := Aside0.mk (T5.out.below hb6)
  have hBa := below_step B3.out hb5
  have hBe := below_step hBa hb6
  have f2 : Boxed W5_2 w.heap.size 4 (.bool false) := by
    have h1 := (hb5.block _ (Boxed.lt Y3.out)).trans Y3.out
    exact (hb6.block _ (Boxed.lt h1)).trans h1
  have c2 := Boxed.cell f2
  have q2 := Boxed.frozen f2
  have f2s := Boxed.set (.bool true) f2
  have f6s := hBe.setCell (p := ⟨w.heap.size, 0, none⟩) (Nat.le_refl _) (.bool true)
  have hkD1 : W5_2.heap[D1]? = some (.deferred (some [])) := (hb6.block _ ((Array.getElem?_eq_some_iff.1 hK5_1).1)).trans hK5_1
  have hD1lt := (Array.getElem?_eq_some_iff.1 hK5_1).1
  have HM : Marks w.heap.size W5_2 [{ target := .collected D2, args := #[] }, { target := .collected D1, args := #[] }] := ⟨⟨D2, rfl, by have := hBa.size; omega, hK5_2, fun D' hD' => by have e := List.mem_singleton.1 hD'; injection e with e1; injection e1 with e2; omega⟩, ⟨D1, rfl, by have := B3.out.size; omega, hkD1, fun D' hD' => by cases hD'⟩, trivial⟩
  gi_wp2_with ((try refine ⟨trivial, ?_⟩); gi_at_call 17; (with_reducible refine (callsIn_wide.2 (Len_Q T6.out HN.out)).mono ?_); rintro e w' ⟨rfl, rfl⟩)
  refine marks_leave (b := w.heap.size) (Φ := fun W => Below w.heap.size w W ∧ Boxed W w.heap.size 4 (.bool true)) ?_ ?_ _ _ (HM.box f2 _) ⟨f6s, f2s⟩
  · exact fun W D h hD hd => ⟨h.1.trans (belowK_b (w := w) (Nat.le_refl _) W D _ _ hD hd rfl rfl), Boxed.putObj h.2 hd rfl⟩
  · intro W h
    have hc := Boxed.cell h.2
    exact ⟨.bool true, by simp [results, Try.results9, go_sem, hc], rfl, h.1⟩
theorem walk_RopeNobody {W : World} {a2 : Option Addr} {len2 cap2 : Nat} {z2 : List Int} {a0 a1 : Int} (w0 : (Lit.int .i64 a0).wf = true) (w1 : (Lit.int .i64 a1).wf = true) (w2 : InRow W a2 len2 cap2 z2) (y2 : len2 * 4 ≤ 140737488351232) :
    Calls Try.prog 9 #[.int .i64 a0, .int .i64 a1, .slice a2 len2 cap2] W fun e w' => e = .returned (.bool true) ∧ Below W.heap.size W w' := by
  obtain ⟨l, rfl, hC0, hc0, hm0, _⟩ := w2.list
  exact nobody_walk hC0 hc0 hm0 (by omega)
end Go.Proofs.Ytenjldfflkinkaa.Rop
