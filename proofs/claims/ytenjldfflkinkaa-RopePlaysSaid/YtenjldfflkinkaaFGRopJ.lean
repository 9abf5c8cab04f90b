/- The law RopeJoins, walked. -/
import Derived.Test.YtenjldfflkinkaaFGRopN
namespace Go.Proofs.Ytenjldfflkinkaa.Rop
set_option linter.unusedVariables false
set_option linter.unusedSimpArgs false
open Go.RowKit Go.Proofs.Ytenjldfflkinkaa.F Go.Proofs.YtenjldfflkinkaaW.PrintWords Go.Proofs.YtenjldfflkinkaaW.PrintLast Go.Proofs.YtenjldfflkinkaaW.PrintMore

theorem joins_big {w : World} {A0 A2 : Option Addr} {n0 c0 n2 c2 : Nat} {x : Int} (h : 2000 < n0 ∨ 2000 < n2) (hn0 : n0 ≤ 9223372036854775807) (hn2 : n2 ≤ 9223372036854775807) :
    Calls Try.prog 7 #[.slice A0 n0 c0, .int .i64 x, .slice A2 n2 c2] w fun e w' => e = .returned (.bool true) ∧ Below w.heap.size w w' := by
  by_cases h0 : 2000 < n0
  · have h0' : (2000 : Int) < (n0 : Int) := by omega
    go_enter Try.func7, Try.ntmps7
    go_wp2_with (go_at_call 20; refine (works_calls _).mono ?_; rintro e w1 ⟨rfl, hb1⟩)
    go_ret
    exact ⟨rfl, hb1⟩
  · have h0' : decide ((2000 : Int) < (n0 : Int)) = false := decide_eq_false (by omega)
    have h2' : (2000 : Int) < (n2 : Int) := by omega
    go_enter Try.func7, Try.ntmps7
    go_wp2_with (go_at_call 20; refine (works_calls _).mono ?_; rintro e w1 ⟨rfl, hb1⟩)
    go_ret
    exact ⟨rfl, hb1⟩
set_option maxRecDepth 100000 in
set_option maxHeartbeats 8000000 in
theorem joins_small {w : World} {A0 A2 : Option Addr} {l more : List Int} {c0 c2 : Nat} {x : Int} (hC0 : Kd.C (Kd.int .i32) w A0 l.length l) (hc0 : l.length ≤ c0) (hm0 : c0 ≤ 9223372036854775807) (hC2 : Kd.C (Kd.int .i32) w A2 more.length more) (hc2 : more.length ≤ c2) (hm2 : c2 ≤ 9223372036854775807)
    (h0 : l.length ≤ 2000) (h2 : more.length ≤ 2000) (hx : -9223372036854775808 ≤ x ∧ x ≤ 9223372036854775807) :
    Calls Try.prog 7 #[.slice A0 l.length c0, .int .i64 x, .slice A2 more.length c2] w fun e w' => e = .returned (.bool true) ∧ Below w.heap.size w w' := by
  obtain ⟨n, hn⟩ : ∃ n, l.length = n := ⟨_, rfl⟩
  obtain ⟨m, hm⟩ : ∃ m, more.length = m := ⟨_, rfl⟩
  have HN := Aside0.mk hn
  have HM := Aside0.mk hm
  -- what each call gives, at any world
  have CNew := Aside0.mk (fun W (h : Kd.C (Kd.int .i32) W A0 l.length l) => (by have := New_L (c := c0) h hc0 hm0 (by omega); rw [hn] at this; exact this : Calls Try.prog 10 #[.slice A0 n c0] W (OneR l W)))
  have CAmong := Aside0.mk (fun W => (by have := among_calls (w := W) x (n + 1) (by omega) (by omega) hx; rw [Int.natCast_add] at this; exact this : Calls Try.prog 22 #[.int .i64 x, .int .i64 ((n : Int) + 1)] W (Below1 (n + 1) W)))
  have CSplit := Aside0.mk (fun W b (h : RL W b l) k (hk : k < n + 1) => Split_L h k (by omega) (by omega))
  have CCat := Aside0.mk (fun W b c k (hk : k < n + 1) (h : RL W b (l.take k)) (h2 : RL W c (l.drop k)) => (by have := Concat_L h h2 (by simp; omega); rw [List.take_append_drop] at this; exact this : Calls Try.prog 26 #[.pointer (some ⟨b, 0, none⟩), .pointer (some ⟨c, 0, none⟩)] W (OneE l W)))
  have CIns := Aside0.mk (fun W b (h : RL W b l) (hC : Kd.C (Kd.int .i32) W A2 more.length more) k (hk : k < n + 1) => (by have := Insert_L (c := c2) h hC hc2 hm2 k (by omega) (by omega); rw [hm] at this; exact this : Calls Try.prog 14 #[.pointer (some ⟨b, 0, none⟩), .int .i64 (k : Int), .slice A2 m c2] W (OneE (l.take k ++ more ++ l.drop k) W)))
  have CDel := Aside0.mk (fun W b k (hk : k < n + 1) (h : RL W b (l.take k ++ more ++ l.drop k)) => (by
    have := Delete_L h k (k + m) (by omega) (by simp; omega) (by simp; omega)
    have e1 : (l.take k).length = k := by simp; omega
    have e2 : (l.take k ++ more).length = k + m := by simp; omega
    have e3 : (l.take k ++ more ++ l.drop k).take k = l.take k := by
      rw [List.append_assoc, List.take_append_of_le_length (by omega), List.take_of_length_le (by omega)]
    have e4 : (l.take k ++ more ++ l.drop k).drop (k + m) = l.drop k := by
      rw [← e2, List.drop_left]
    rw [e3, e4, List.take_append_drop, Int.natCast_add] at this
    exact this : Calls Try.prog 13 #[.pointer (some ⟨b, 0, none⟩), .int .i64 (k : Int), .int .i64 ((k : Int) + (m : Int))] W (OneE l W)))
  have CDel0 := Aside0.mk (fun W b (h : RL W b l) k (hk : k < n + 1) => (by
    have := Delete_L h 0 k (by omega) (by omega) (by omega)
    rw [List.take_zero, List.nil_append, Int.natCast_zero] at this
    exact this : Calls Try.prog 13 #[.pointer (some ⟨b, 0, none⟩), .int .i64 0, .int .i64 (k : Int)] W (OneE (l.drop k) W)))
  have CIns0 := Aside0.mk (fun W b k (hk : k < n + 1) (h : RL W b (l.drop k)) (hC : Kd.C (Kd.int .i32) W A0 l.length l) => (by
    have e1 : (l.take k).length = k := by simp; omega
    have := Insert_L (c := c0) h (Kd.C_take hC (m := k) (by omega)) (by omega) hm0 0 (by omega) (by simp; omega)
    rw [e1, List.take_zero, List.nil_append, List.drop_zero, List.take_append_drop, Int.natCast_zero] at this
    exact this : Calls Try.prog 14 #[.pointer (some ⟨b, 0, none⟩), .int .i64 0, .slice A0 k c0] W (OneE l W)))
  have CAll := Aside0.mk (fun W b (h : RL W b l) => (by have := all_L h (by omega); unfold RowOf at this; rw [hn] at this; exact this : Calls Try.prog 28 #[.pointer (some ⟨b, 0, none⟩)] W fun e w' => ∃ A c, e = .returned (.slice A n c) ∧ Kd.C (Kd.int .i32) w' A n l ∧ n ≤ c ∧ Below W.heap.size W w'))
  have CSame := Aside0.mk (fun W B d (hB : Kd.C (Kd.int .i32) W B n l) (hd : n ≤ d) (h : Kd.C (Kd.int .i32) W A0 l.length l) => (by have := Same_calls (c := d) (d := c0) (by rw [hn]; exact hB) (by omega) h hc0 (by omega); rw [hn] at this; exact this : Calls Try.prog 18 #[.slice B n d, .slice A0 n c0] W fun e w' => e = .returned (.bool true) ∧ Below W.heap.size W w'))
  have CLenA := Aside0.mk (fun W b k (hk : k < n + 1) (h : RL W b (l.take k)) => (by have := Len_L h; rw [show (l.take k).length = k by simp; omega] at this; exact this : Calls Try.prog 17 #[.pointer (some ⟨b, 0, none⟩)] W fun e w' => e = .returned (.int .i64 (k : Int)) ∧ W = w'))
  have CCut := Aside0.mk (fun k (hk : k < n + 1) W => (by
    obtain ⟨i0, hi, hz0, hz1, hz2⟩ := info_parts info21
    have := cut_to 23 21 .i64 Try.underlying23 hi A0 n c0 (k : Int) (by omega) (by omega) (by omega) W
    simpa using this : (Instr.slice 23 (.slice A0 n c0) none (some (.int .i64 (k : Int))) none).run Try.prog W = .ok (.slice A0 k c0) W))
  have CSum := Aside0.mk (fun k => (by rw [← List.countP_append, List.take_append_drop] : (l.take k).countP sep + (l.drop k).countP sep = l.countP sep))
  have CLe := Aside0.mk (fun k => (⟨Nat.le_trans List.countP_le_length (by simp; omega), Nat.le_trans List.countP_le_length (by simp; omega)⟩ : (l.take k).countP sep ≤ 2000 ∧ (l.drop k).countP sep ≤ 2000))
  have HC0 := Aside0.mk hC0
  have HC2 := Aside0.mk hC2
  have h0' : (n : Int) ≤ 2000 := by omega
  have h2' : (m : Int) ≤ 2000 := by omega
  rw [hn, hm]
  clear hC0 hC2 hn hm hc0 hc2 h0 h2 hm0 hm2
  go_enter Try.func7, Try.ntmps7
  go_wp2_with (first
    | (go_at_call 20; refine (works_calls _).mono ?_; rintro e w0 ⟨rfl, hb⟩; have L0 := Aside0.mk (Kd.C_below HC0.out hb); have M0 := Aside0.mk (Kd.C_below HC2.out hb); have B0 := Aside0.mk hb; clear hb)
    | (go_at_call 10; (with_reducible refine (CNew.out _ L0.out).mono ?_); rintro e w1 ⟨bt, rfl, ht, hb⟩; have L1 := Aside0.mk (Kd.C_below L0.out hb); have M1 := Aside0.mk (Kd.C_below M0.out hb); have T1 := Aside0.mk ht; have B1 := Aside0.mk (below_step B0.out hb); clear ht hb)
    | (go_at_call 22; (with_reducible refine (CAmong.out _).mono ?_); rintro e w' ⟨k, rfl, hk, rfl⟩; have K := Aside0.mk hk; have hkb : (k : Int) ≤ 2000 := (by omega); have hcutk := CCut.out k hk; obtain ⟨ba, hba⟩ : ∃ ba, (l.take k).countP sep = ba := ⟨_, rfl⟩; obtain ⟨bb, hbb⟩ : ∃ bb, (l.drop k).countP sep = bb := ⟨_, rfl⟩; have BA := Aside0.mk hba; have BB := Aside0.mk hbb; have hle := CLe.out k; rw [hba, hbb] at hle; have hla : (ba : Int) ≤ 2000 := (by omega); have hlb : (bb : Int) ≤ 2000 := (by omega); clear hk hba hbb hle)
    | (go_at_call 27; (with_reducible refine (CSplit.out _ _ T1.out k K.out).mono ?_); rintro e w2 ⟨xa, xb, rfl, ha, hbr, hb⟩; have L2 := Aside0.mk (Kd.C_below L1.out hb); have M2 := Aside0.mk (Kd.C_below M1.out hb); have T2 := Aside0.mk (T1.out.below hb); have A2 := Aside0.mk ha; have R2 := Aside0.mk hbr; have B2 := Aside0.mk (below_step B1.out hb); clear ha hbr hb)
    | (go_at_call 17; (with_reducible refine (CLenA.out _ _ k K.out A2.out).mono ?_); rintro e w' ⟨rfl, rfl⟩)
    | (go_at_call 23; (with_reducible refine (Breaks_L A2.out).mono ?_); rintro e w' ⟨rfl, rfl⟩; rw [BA.out])
    | (go_at_call 23; (with_reducible refine (Breaks_L R2.out).mono ?_); rintro e w' ⟨rfl, rfl⟩; rw [BB.out])
    | (go_at_call 23; (with_reducible refine (Breaks_L T2.out).mono ?_); rintro e w' ⟨rfl, rfl⟩; rw [← CSum.out k, BA.out, BB.out, Int.natCast_add])
    | (go_at_call 26; (with_reducible refine (CCat.out _ _ _ k K.out A2.out R2.out).mono ?_); rintro e w3 ⟨xc, rfl, hc, hb⟩; have L3 := Aside0.mk (Kd.C_below L2.out hb); have M3 := Aside0.mk (Kd.C_below M2.out hb); have T3 := Aside0.mk (T2.out.below hb); have C3 := Aside0.mk hc; have B3 := Aside0.mk (below_step B2.out hb); clear hc hb)
    | (go_at_call 14; (with_reducible refine (CIns.out _ _ T3.out M3.out k K.out).mono ?_); rintro e w4 ⟨xd, rfl, hd, hb⟩; have L4 := Aside0.mk (Kd.C_below L3.out hb); have T4 := Aside0.mk (T3.out.below hb); have C4 := Aside0.mk (C3.out.below hb); have D4 := Aside0.mk hd; have B4 := Aside0.mk (below_step B3.out hb); clear hd hb)
    | (go_at_call 13; (with_reducible refine (CDel.out _ _ k K.out D4.out).mono ?_); rintro e w5 ⟨xx, rfl, hx5, hb⟩; have L5 := Aside0.mk (Kd.C_below L4.out hb); have T5 := Aside0.mk (T4.out.below hb); have C5 := Aside0.mk (C4.out.below hb); have X5 := Aside0.mk hx5; have B5 := Aside0.mk (below_step B4.out hb); clear hx5 hb)
    | (go_at_call 13; (with_reducible refine (CDel0.out _ _ T5.out k K.out).mono ?_); rintro e w6 ⟨xy, rfl, hy, hb⟩; have L6 := Aside0.mk (Kd.C_below L5.out hb); have T6 := Aside0.mk (T5.out.below hb); have C6 := Aside0.mk (C5.out.below hb); have X6 := Aside0.mk (X5.out.below hb); have Y6 := Aside0.mk hy; have B6 := Aside0.mk (below_step B5.out hb); clear hy hb)
    | (go_at_call 14; (with_reducible refine (CIns0.out _ _ k K.out Y6.out L6.out).mono ?_); rintro e w7 ⟨xz, rfl, hz, hb⟩; have L7 := Aside0.mk (Kd.C_below L6.out hb); have T7 := Aside0.mk (T6.out.below hb); have C7 := Aside0.mk (C6.out.below hb); have X7 := Aside0.mk (X6.out.below hb); have Z7 := Aside0.mk hz; have B7 := Aside0.mk (below_step B6.out hb); clear hz hb)
    | (go_at_call 28; (with_reducible refine (CAll.out _ _ C7.out).mono ?_); rintro e w8 ⟨P8, d8, rfl, hr, hd, hb⟩; have L8 := Aside0.mk (Kd.C_below L7.out hb); have T8 := Aside0.mk (T7.out.below hb); have X8 := Aside0.mk (X7.out.below hb); have Z8 := Aside0.mk (Z7.out.below hb); have R8 := Aside0.mk hr; have D8 := Aside0.mk hd; have B8 := Aside0.mk (below_step B7.out hb); clear hr hd hb)
    | (go_at_call 18; (with_reducible refine (CSame.out _ _ _ R8.out D8.out L8.out).mono ?_); rintro e w9 ⟨rfl, hb⟩; have L9 := Aside0.mk (Kd.C_below L8.out hb); have T9 := Aside0.mk (T8.out.below hb); have X9 := Aside0.mk (X8.out.below hb); have Z9 := Aside0.mk (Z8.out.below hb); have B9 := Aside0.mk (below_step B8.out hb); clear hb)
    | (go_at_call 28; (with_reducible refine (CAll.out _ _ X9.out).mono ?_); rintro e w10 ⟨P10, d10, rfl, hr, hd, hb⟩; have L10 := Aside0.mk (Kd.C_below L9.out hb); have T10 := Aside0.mk (T9.out.below hb); have Z10 := Aside0.mk (Z9.out.below hb); have R10 := Aside0.mk hr; have D10 := Aside0.mk hd; have B10 := Aside0.mk (below_step B9.out hb); clear hr hd hb)
    | (go_at_call 18; (with_reducible refine (CSame.out _ _ _ R10.out D10.out L10.out).mono ?_); rintro e w11 ⟨rfl, hb⟩; have L11 := Aside0.mk (Kd.C_below L10.out hb); have T11 := Aside0.mk (T10.out.below hb); have Z11 := Aside0.mk (Z10.out.below hb); have B11 := Aside0.mk (below_step B10.out hb); clear hb)
    | (go_at_call 28; (with_reducible refine (CAll.out _ _ Z11.out).mono ?_); rintro e w12 ⟨P12, d12, rfl, hr, hd, hb⟩; have L12 := Aside0.mk (Kd.C_below L11.out hb); have T12 := Aside0.mk (T11.out.below hb); have R12 := Aside0.mk hr; have D12 := Aside0.mk hd; have B12 := Aside0.mk (below_step B11.out hb); clear hr hd hb)
    | (go_at_call 18; (with_reducible refine (CSame.out _ _ _ R12.out D12.out L12.out).mono ?_); rintro e w13 ⟨rfl, hb⟩; have L13 := Aside0.mk (Kd.C_below L12.out hb); have T13 := Aside0.mk (T12.out.below hb); have B13 := Aside0.mk (below_step B12.out hb); clear hb)
    | (go_at_call 28; (with_reducible refine (CAll.out _ _ T13.out).mono ?_); rintro e w14 ⟨P14, d14, rfl, hr, hd, hb⟩; have L14 := Aside0.mk (Kd.C_below L13.out hb); have R14 := Aside0.mk hr; have D14 := Aside0.mk hd; have B14 := Aside0.mk (below_step B13.out hb); clear hr hd hb)
    | (go_at_call 18; (with_reducible refine (CSame.out _ _ _ R14.out D14.out L14.out).mono ?_); rintro e w15 ⟨rfl, hb⟩; have B15 := Aside0.mk (below_step B14.out hb); clear hb))
  go_ret
  exact ⟨rfl, B15.out⟩
end Go.Proofs.Ytenjldfflkinkaa.Rop
