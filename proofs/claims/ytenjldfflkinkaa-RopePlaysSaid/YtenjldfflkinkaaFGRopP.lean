/- The law RopeParas, walked. -/
import Derived.Test.YtenjldfflkinkaaFGRopWJ
namespace Go.Proofs.Ytenjldfflkinkaa.Rop
set_option linter.unusedVariables false
set_option linter.unusedSimpArgs false
open Go.RowKit Go.Proofs.Ytenjldfflkinkaa.F Go.Proofs.YtenjldfflkinkaaW.PrintWords Go.Proofs.YtenjldfflkinkaaW.PrintLast Go.Proofs.YtenjldfflkinkaaW.PrintMore

/-! ### paragraphs, in plain Lean -/
/-- Paragraph k begins at e (one behind the last paragraph: at the text's end). -/
structure Begins (l : List Int) (k e : Nat) : Prop where
  le : e ≤ l.length
  lt : ∀ m, m < e → cnt l m < k
  ge : e < l.length → k ≤ cnt l e
theorem cnt_zero (l : List Int) : cnt l 0 = 0 := rfl
theorem cnt_all (l : List Int) : cnt l l.length = l.countP sep := by unfold cnt; rw [List.take_length]
theorem cnt_add (l : List Int) (i j : Nat) : cnt l (i + j) = cnt l i + ((l.drop i).take j).countP sep := by
  unfold cnt
  rw [List.take_add, List.countP_append]
theorem cnt_succ (l : List Int) (i : Nat) : cnt l (i + 1) ≤ cnt l i + 1 := by
  rw [cnt_add]
  have : ((l.drop i).take 1).countP sep ≤ ((l.drop i).take 1).length := List.countP_le_length
  have h2 : ((l.drop i).take 1).length ≤ 1 := by simp; omega
  omega
theorem Begins.zero (l : List Int) : Begins l 0 0 := ⟨Nat.zero_le _, fun m h => by omega, fun _ => Nat.zero_le _⟩
theorem Begins.cnt {l : List Int} {k e : Nat} (h : Begins l k e) (hk : k ≤ l.countP sep) : cnt l e = k := by
  have h1 : k ≤ Rop.cnt l e := by
    by_cases he : e < l.length
    · exact h.ge he
    · have : e = l.length := by have := h.le; omega
      rw [this, cnt_all]
      exact hk
  have h2 : Rop.cnt l e ≤ k := by
    cases e with
    | zero => rw [cnt_zero]; omega
    | succ e =>
      have := h.lt e (by omega)
      have := cnt_succ l e
      omega
  omega
theorem para_at {l : List Int} {k e n a b : Nat} (h : Begins l k e) (hk : k ≤ l.countP sep) (hp : IsPara l e n a b) :
    n = k ∧ a = e ∧ Begins l (k + 1) b ∧ e ≤ b ∧ (k < l.countP sep → e < b) := by
  have hc := h.cnt hk
  obtain ⟨h1, h2, h3, h4, h5, h6, h7⟩ := hp
  rw [hc] at h1
  subst h1
  have hb : Begins l (n + 1) b := ⟨h5, fun m hm => by have := h6 m hm; omega, h7⟩
  have heb : e ≤ b := by
    rcases Nat.lt_or_ge b e with hlt | hge
    · have := h.lt b hlt
      have := h7 (by have := h.le; omega)
      omega
    · exact hge
  refine ⟨rfl, ?_, hb, heb, fun hlt => ?_⟩
  · rcases Nat.lt_trichotomy a e with hl | he | hl
    · have := h.lt a hl
      have := h4 (by have := h.le; omega)
      omega
    · exact he
    · have := h3 e hl
      omega
  · rcases Nat.lt_or_ge e b with hl | hge
    · exact hl
    · obtain rfl : e = b := by omega
      have := hb.cnt (by omega)
      omega
theorem para_in {l : List Int} {k e b i n a c : Nat} (h : Begins l k e) (hb : Begins l (k + 1) b) (hk : k ≤ l.countP sep) (h1 : e ≤ i) (h2 : i < b) (hp : IsPara l i n a c) :
    n = k ∧ a = e ∧ c = b := by
  have hc := h.cnt hk
  have hi : Rop.cnt l i = k := by
    have := cnt_mono l h1
    have := hb.lt i h2
    omega
  have := para_exact hp h.le (fun m hm => by rw [hi]; exact h.lt m hm) (fun _ => by omega) hb.le (fun m hm => by have := hb.lt m hm; omega) (fun hl => by have := hb.ge hl; omega)
  rw [hi] at this
  exact this
theorem para_cut {l : List Int} {k e b : Nat} (h : Begins l k e) (hb : Begins l (k + 1) b) (hk : k ≤ l.countP sep) (he : e ≤ b) :
    ((l.drop e).take (b - e)).countP sep = if k < l.countP sep then 1 else 0 := by
  have h1 := cnt_add l e (b - e)
  rw [show e + (b - e) = b by omega, h.cnt hk] at h1
  by_cases hlt : k < l.countP sep
  · rw [if_pos hlt]
    have := hb.cnt (by omega)
    omega
  · rw [if_neg hlt]
    have : b = l.length := by
      rcases Nat.lt_or_ge b l.length with h2 | h2
      · have := hb.ge h2
        have := cnt_mono l (Nat.le_of_lt h2)
        rw [cnt_all] at this
        omega
      · have := hb.le
        omega
    have hb2 : Rop.cnt l b = l.countP sep := by rw [this, cnt_all]
    omega
theorem Begins.last {l : List Int} {e : Nat} (h : Begins l (l.countP sep + 1) e) : e = l.length := by
  rcases Nat.lt_or_ge e l.length with h2 | h2
  · have := h.ge h2
    have := cnt_mono l (Nat.le_of_lt h2)
    rw [cnt_all] at this
    omega
  · have := h.le
    omega

/-! ### the walk -/
theorem R_cap {w : World} {e base : Nat} {A : Option Addr} {n c : Nat} {xs : List Int} {ok : Nat → Prop} (h : Kd.R (Kd.int .i32) e w base ok (.slice A n c) xs) : c ≤ 9223372036854775807 := by
  obtain ⟨inner, ho⟩ := Kd.R_own h
  rcases ho.2 with ⟨h1, _⟩ | ⟨g, cap, cur, h1, _, _, _, h2, _⟩
  · injection h1 with _ _ h3
    omega
  · injection h1 with _ _ h3
    subst h3
    simpa [maxLen] using h2
theorem Slice_row {w : World} {l : List Int} {b : Nat} (h : RL w b l) (x y : Nat) (h1 : x ≤ y) (h2 : y ≤ l.length) (hs : l.length ≤ 1000000) :
    Calls Try.prog 16 #[.pointer (some ⟨b, 0, none⟩), .int .i64 (x : Int), .int .i64 (y : Int)] w fun e w' => ∃ A c, e = .returned (.tuple #[.slice A (y - x) c, .int .i64 0]) ∧ Kd.C (Kd.int .i32) w' A (y - x) ((l.drop x).take (y - x)) ∧ y - x ≤ c ∧ c ≤ 9223372036854775807 ∧ Below w.heap.size w w' := by
  refine (Slice_L h x y h1 h2 hs).mono fun e w' ⟨v, he, hr, hb⟩ => ?_
  obtain ⟨A, c, rfl⟩ := Kd.R_slice hr
  have hl : ((l.drop x).take (y - x)).length = y - x := by simp; omega
  have hC := (Kd.R_reads' hr).2.2
  have hc := (Kd.R_reads' hr).2.1
  have hm := R_cap hr
  rw [hl] at hC hc he
  exact ⟨A, c, he, hC, hc, hm, hb⟩
theorem paras_big {w : World} {A0 : Option Addr} {n0 c0 : Nat} (h : 500 < n0) :
    Calls Try.prog 5 #[.slice A0 n0 c0] w fun e w' => e = .returned (.bool true) ∧ Below w.heap.size w w' := by
  have h0' : (500 : Int) < (n0 : Int) := by omega
  go_enter Try.func5, Try.ntmps5
  go_wp2_with (go_at_call 20; refine (works_calls _).mono ?_; rintro e w1 ⟨rfl, hb1⟩)
  go_ret
  exact ⟨rfl, hb1⟩
set_option maxRecDepth 100000 in
set_option maxHeartbeats 8000000 in
theorem paras_small {w : World} {A0 : Option Addr} {l : List Int} {c0 : Nat} (hC0 : Kd.C (Kd.int .i32) w A0 l.length l) (hc0 : l.length ≤ c0) (hm0 : c0 ≤ 9223372036854775807)
    (h0 : l.length ≤ 500) :
    Calls Try.prog 5 #[.slice A0 l.length c0] w fun e w' => e = .returned (.bool true) ∧ Below w.heap.size w w' := by
  obtain ⟨n, hn⟩ : ∃ n, l.length = n := ⟨_, rfl⟩
  obtain ⟨B, hB⟩ : ∃ B, l.countP sep = B := ⟨_, rfl⟩
  have HN := Aside0.mk hn
  have HBK := Aside0.mk hB
  have hBn : B ≤ n := by rw [← hn, ← hB]; exact List.countP_le_length
  have CNew := Aside0.mk (fun W (h : Kd.C (Kd.int .i32) W A0 l.length l) => (by have := New_L (c := c0) h hc0 hm0 (by omega); rw [hn] at this; exact this : Calls Try.prog 10 #[.slice A0 n c0] W (OneR l W)))
  have CBrk := Aside0.mk (fun W b (h : RL W b l) => (by have := Breaks_L h; rw [hB] at this; exact this : Calls Try.prog 23 #[.pointer (some ⟨b, 0, none⟩)] W fun e w' => e = .returned (.int .i64 (B : Int)) ∧ W = w'))
  have CPara := Aside0.mk (fun W bt (h : RL W bt l) k e (hk : k ≤ B) (hbg : Begins l k e) => (Para_L h e hbg.le (by omega)).mono (R' := fun e' w' => ∃ b : Nat, e' = .returned (.tuple #[.int .i64 (k : Int), .int .i64 (e : Int), .int .i64 (b : Int), .int .i64 0]) ∧ Begins l (k + 1) b ∧ e ≤ b ∧ (k < B → e < b) ∧ b ≤ n ∧ Below W.heap.size W w')
    (fun e' w' ⟨m, a, b, he, hp, hb⟩ => by
      obtain ⟨rfl, rfl, h1, h2, h3⟩ := para_at hbg (by omega) hp
      exact ⟨b, he, h1, h2, fun hh => h3 (by omega), by have := h1.le; omega, hb⟩))
  have CIn := Aside0.mk (fun W bt (h : RL W bt l) k e b i (hk : k ≤ B) (hbg : Begins l k e) (hbb : Begins l (k + 1) b) (h1 : e ≤ i) (h2 : i < b) => (Para_L h i (by have := hbb.le; omega) (by omega)).mono (R' := fun e' w' => e' = .returned (.tuple #[.int .i64 (k : Int), .int .i64 (e : Int), .int .i64 (b : Int), .int .i64 0]) ∧ Below W.heap.size W w')
    (fun e' w' ⟨m, a, c, he, hp, hb⟩ => by
      obtain ⟨rfl, rfl, rfl⟩ := para_in hbg hbb (by omega) h1 h2 hp
      exact ⟨he, hb⟩))
  have CSl := Aside0.mk (fun W bt (h : RL W bt l) (e b : Nat) (h1 : e ≤ b) (h2 : b ≤ n) => Slice_row h e b h1 (by omega) (by omega))
  have CNew2 := Aside0.mk (fun W A c e b (h1 : e ≤ b) (h2 : b ≤ n) (hC : Kd.C (Kd.int .i32) W A (b - e) ((l.drop e).take (b - e))) (hc : b - e ≤ c) (hm : c ≤ 9223372036854775807) => (by
    have hl : ((l.drop e).take (b - e)).length = b - e := by simp; omega
    have := New_L (c := c) (l := (l.drop e).take (b - e)) (A := A) (by rw [hl]; exact hC) (by omega) hm (by omega)
    rw [hl] at this
    exact this : Calls Try.prog 10 #[.slice A (b - e) c] W (OneR ((l.drop e).take (b - e)) W)))
  have CCut := Aside0.mk (fun k e b (hk : k ≤ B) (hbg : Begins l k e) (hbb : Begins l (k + 1) b) (h1 : e ≤ b) => (by have := para_cut hbg hbb (by omega) h1; rw [hB] at this; exact this : ((l.drop e).take (b - e)).countP sep = if k < B then 1 else 0))
  have CLast := Aside0.mk (fun e (h : Begins l (B + 1) e) => (by rw [← hB] at h; rw [← hn]; exact h.last : e = n))
  have HZ := Aside0.mk (Begins.zero l)
  have HC0 := Aside0.mk hC0
  have h0' : ¬ (500 : Int) < (n : Int) := by omega
  have hnb : n ≤ 500 := by omega
  rw [hn]
  clear hC0 hn hB hc0 hm0 h0
  go_enter Try.func5, Try.ntmps5
  go_wp2_with (first
    | (go_at_call 20; refine (works_calls _).mono ?_; rintro e w0 ⟨rfl, hb⟩; have L0 := Aside0.mk (Kd.C_below HC0.out hb); have B0 := Aside0.mk hb; clear hb)
    | (go_at_call 10; (with_reducible refine (CNew.out _ L0.out).mono ?_); rintro e w1 ⟨bt, rfl, ht, hb⟩; have T1 := Aside0.mk ht; have B1 := Aside0.mk (below_step B0.out hb); clear ht hb))
  go_loopw [4, 5] (fun ve vk wr => ∃ e k : Nat, ve = .int .i64 (e : Int) ∧ vk = .int .i64 (k : Int) ∧ k ≤ B + 1 ∧ e ≤ n ∧ Aside0 (Begins l k e) ∧ Aside0 (Below w.heap.size w wr) ∧ Aside0 (RL wr bt l)) (fun _ k _ => B + 1 - (intOf k).toNat)
  case atStart => exact ⟨0, 0, rfl, rfl, by omega, by omega, HZ, B1, T1⟩
  case round =>
    obtain ⟨e, k, rfl, rfl, hk1, hen, HG, HW, HT⟩ := hrel
    have heb : (e : Int) ≤ 500 := by omega
    have hkb : (k : Int) ≤ 501 := by omega
    by_cases hkB : k ≤ B
    · have hkB' : (k : Int) ≤ (B : Int) := by omega
      have hcase : ((k : Int) < (B : Int)) ∨ (¬ (k : Int) < (B : Int) ∧ k = B) := by omega
      rcases hcase with hlB | ⟨hlB, hkeq⟩
      all_goals go_wp2_with (first
        | (go_at_call 23; (first | (with_reducible refine (CBrk.out _ _ HT.out).mono ?_) | (with_reducible refine (CBrk.out _ _ T2.out).mono ?_)); rintro e' w' ⟨rfl, rfl⟩)
        | (go_at_call 24; (with_reducible refine (CPara.out _ _ HT.out k e hkB HG.out).mono ?_); rintro e' w2 ⟨b, rfl, hbb, hle, hlt, hbn, hb⟩; have GB := Aside0.mk hbb; have T2 := Aside0.mk (HT.out.below hb); have B2 := Aside0.mk (below_step HW.out hb); have hge : ¬ (b : Int) < (e : Int) := (by omega); have hge2 : decide (b < e) = false := decide_eq_false (by omega); (try have hne : ((b : Int) == (e : Int)) = false := (by have := hlt (by omega); simp; omega)); clear hb hbb hlt))
      all_goals go_loopw [10] (fun vi wx => ∃ i : Nat, vi = .int .i64 (i : Int) ∧ e ≤ i ∧ i ≤ b ∧ Aside0 (Below w.heap.size w wx) ∧ Aside0 (RL wx bt l)) (fun i _ => b - (intOf i).toNat)
      case atStart => exact ⟨e, rfl, Nat.le_refl _, hle, B2, T2⟩
      case atStart => exact ⟨e, rfl, Nat.le_refl _, hle, B2, T2⟩
      all_goals
        obtain ⟨i, rfl, hi1, hi2, HWx, HTx⟩ := hrel
        have hib : (i : Int) ≤ 500 := by omega
        by_cases hib2 : i < b
        · have hib3 : (i : Int) < (b : Int) := by omega
          go_wp2_with (go_at_call 24; (with_reducible refine (CIn.out _ _ HTx.out k e b i hkB HG.out GB.out hi1 hib2).mono ?_); rintro e' w3 ⟨rfl, hb⟩; have T3 := Aside0.mk (HTx.out.below hb); have B3 := Aside0.mk (below_step HWx.out hb); clear hb)
          go_roundw
          case rel => exact ⟨i + 1, by go_num, by omega, by omega, B3, T3⟩
          case measure => simp [intOf]; omega
        · have hib3 : ¬ (i : Int) < (b : Int) := by omega
          obtain ⟨bs, hbs⟩ : ∃ bs, ((l.drop e).take (b - e)).countP sep = bs := ⟨_, rfl⟩
          have hbs2 := CCut.out k e b hkB HG.out GB.out hle
          rw [hbs] at hbs2
          have HBS := Aside0.mk hbs
          clear hbs
          have hbs3 : bs = if k < B then 1 else 0 := hbs2
          clear hbs2
          go_wp2_with (first
            | (go_at_call 16; (with_reducible refine (CSl.out _ _ HTx.out e b hle hbn).mono ?_); rintro e' w4 ⟨P4, c4, rfl, hr4, hc4, hm4, hb⟩; have R4 := Aside0.mk hr4; have T4 := Aside0.mk (HTx.out.below hb); have B4 := Aside0.mk (below_step HWx.out hb); have C4 := Aside0.mk hc4; have M4 := Aside0.mk hm4; clear hb hr4 hc4 hm4)
            | (go_at_call 10; (with_reducible refine (CNew2.out _ _ _ e b hle hbn R4.out C4.out M4.out).mono ?_); rintro e' w5 ⟨bx, rfl, ht, hb⟩; have X5 := Aside0.mk ht; have T5 := Aside0.mk (T4.out.below hb); have B5 := Aside0.mk (below_step B4.out hb); clear ht hb)
            | (go_at_call 23; (with_reducible refine (CBrk.out _ _ T5.out).mono ?_); rintro e' w' ⟨rfl, rfl⟩)
            | (go_at_call 23; (with_reducible refine (Breaks_L X5.out).mono ?_); rintro e' w' ⟨rfl, rfl⟩; rw [HBS.out]))
          go_roundw
          case rel => exact ⟨b, k + 1, rfl, by first | go_num | (simp; omega), by omega, hbn, GB, B5, T5⟩
          case measure => simp [intOf]; omega
    · have hk : k = B + 1 := by omega
      subst hk
      have hlast := CLast.out e HG.out
      subst hlast
      have hgt : ¬ ((B : Int) + 1) ≤ (B : Int) := by omega
      go_wp2_with (go_at_call 23; (with_reducible refine (CBrk.out _ _ HT.out).mono ?_); rintro e' w' ⟨rfl, rfl⟩)
      go_ret
      exact ⟨rfl, HW.out⟩
theorem walk_RopeParas {W : World} {a0 : Option Addr} {len0 cap0 : Nat} {z0 : List Int} (w0 : InRow W a0 len0 cap0 z0) (y0 : len0 * 4 ≤ 140737488351232) :
    Calls Try.prog 5 #[.slice a0 len0 cap0] W fun e w' => e = .returned (.bool true) ∧ Below W.heap.size W w' := by
  obtain ⟨l, rfl, hC0, hc0, hm0, _⟩ := w0.list
  by_cases h : 500 < l.length
  · exact paras_big h
  · exact paras_small hC0 hc0 hm0 (by omega)
end Go.Proofs.Ytenjldfflkinkaa.Rop
