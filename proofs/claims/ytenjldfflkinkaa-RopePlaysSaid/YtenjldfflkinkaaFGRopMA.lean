/- YtenjldfflkinkaaFGRopRP, YtenjldfflkinkaaFGRopS, YtenjldfflkinkaaFGRopAS: in one text. -/
import Derived.Test.YtenjldfflkinkaaFGRopZ
import Derived.Test.YtenjldfflkinkaaFx5w
namespace Go.Proofs.Ytenjldfflkinkaa.Rop
set_option linter.unusedVariables false
set_option linter.unusedSimpArgs false
open Go.RowKit Go.Proofs.Ytenjldfflkinkaa.F Go.Proofs.YtenjldfflkinkaaW.PrintWords Go.Proofs.YtenjldfflkinkaaW.PrintLast Go.Proofs.YtenjldfflkinkaaW.PrintMore
theorem cnt_step {l : List Int} {i : Nat} (h : i < l.length) : cnt l (i + 1) = cnt l i + if sep l[i] = true then 1 else 0 := by
  rw [cnt_add, List.drop_eq_getElem_cons h]
  simp only [List.take_succ_cons, List.take_zero, List.countP_cons, List.countP_nil, Nat.zero_add]
theorem rd_get {l : List Int} {j : Nat} (h : j < l.length) : rd l (j : Int) = l[j] := by simp [rd, h]
theorem wrap_succ {l : List Int} {j : Nat} (h : j < l.length) (hl : l.length ≤ 1000000) : wrap64 ((j : Int) + 1) = ((j + 1 : Nat) : Int) := by unfold wrap64; omega
theorem wrap_pred {l : List Int} {j : Nat} (h : j < l.length) (hl : l.length ≤ 1000000) : wrap64 (((j + 1 : Nat) : Int) - 1) = (j : Int) := by unfold wrap64; omega
theorem cnt_yes {l : List Int} {j : Nat} (h : j < l.length) (hs : sep l[j] = true) : cnt l (j + 1) = cnt l j + 1 := by rw [cnt_step h, if_pos hs]
theorem cnt_not {l : List Int} {j : Nat} (h : j < l.length) (hs : ¬ sep l[j] = true) : cnt l (j + 1) = cnt l j := by rw [cnt_step h, if_neg hs]; rfl
attribute [local irreducible] sep clsOf tabCls cnt rd
theorem l1_end {l : List Int} {i k : Nat} {a : Int} (hi : i ≤ l.length) : colophonref04_Para.l1 (k + 1) l (i : Int) a (l.length : Int) = (colophonref04_Breaks.f k (l.take i)).bind fun t => some (t, a, (l.length : Int)) := by
  simp only [colophonref04_Para.l1]
  rw [if_neg (by omega), if_pos (by omega), if_pos (by omega), show ((i : Int)).toNat = i from by omega]
theorem l1_sep {l : List Int} {i j k : Nat} {a : Int} (hl : l.length ≤ 1000000) (hr : Runes l) (hk : 147 < k) (hi : i ≤ l.length) (h : j < l.length) (hs : sep l[j] = true) : colophonref04_Para.l1 (k + 1) l (i : Int) a (j : Int) = (colophonref04_Breaks.f k (l.take i)).bind fun t => some (t, a, ((j + 1 : Nat) : Int)) := by
  have hb := ref_break hk (hr _ (List.getElem_mem h))
  simp only [colophonref04_Para.l1]
  rw [if_pos (by omega), if_pos (by omega), rd_get h, hb, hs, wrap_succ h hl]
  simp only [Option.bind_some]
  rw [if_pos trivial, if_pos (by omega), if_pos (by omega), show ((i : Int)).toNat = i from by omega]
theorem l1_go {l : List Int} {i j k : Nat} {a : Int} (hl : l.length ≤ 1000000) (hr : Runes l) (hk : 147 < k) (h : j < l.length) (hs : ¬ sep l[j] = true) : colophonref04_Para.l1 (k + 1) l (i : Int) a (j : Int) = colophonref04_Para.l1 k l (i : Int) a ((j + 1 : Nat) : Int) := by
  have hb := ref_break hk (hr _ (List.getElem_mem h))
  have hs' : sep l[j] = false := by simpa using hs
  simp only [colophonref04_Para.l1]
  rw [if_pos (by omega), if_pos (by omega), rd_get h, hb, hs', wrap_succ h hl]
  simp only [Option.bind_some]
  rw [if_neg (by decide)]
theorem l0_end {l : List Int} {i k : Nat} : colophonref04_Para.l0 (k + 1) l (i : Int) 0 = colophonref04_Para.j1 k l (i : Int) 0 := by
  simp only [colophonref04_Para.l0]
  rw [if_neg (by omega)]
theorem l0_sep {l : List Int} {i j k : Nat} (hl : l.length ≤ 1000000) (hr : Runes l) (hk : 147 < k) (h : j < l.length) (hs : sep l[j] = true) : colophonref04_Para.l0 (k + 1) l (i : Int) ((j + 1 : Nat) : Int) = colophonref04_Para.j1 k l (i : Int) ((j + 1 : Nat) : Int) := by
  have hb := ref_break hk (hr _ (List.getElem_mem h))
  simp only [colophonref04_Para.l0]
  rw [if_pos (by omega), wrap_pred h hl, if_pos (by omega), if_pos (by omega), rd_get h, hb, hs]
  simp only [Option.bind_some]
  rw [if_pos trivial]
theorem l0_go {l : List Int} {i j k : Nat} (hl : l.length ≤ 1000000) (hr : Runes l) (hk : 147 < k) (h : j < l.length) (hs : ¬ sep l[j] = true) : colophonref04_Para.l0 (k + 1) l (i : Int) ((j + 1 : Nat) : Int) = colophonref04_Para.l0 k l (i : Int) (j : Int) := by
  have hb := ref_break hk (hr _ (List.getElem_mem h))
  have hs' : sep l[j] = false := by simpa using hs
  simp only [colophonref04_Para.l0]
  rw [if_pos (by omega), wrap_pred h hl, if_pos (by omega), if_pos (by omega), rd_get h, hb, hs']
  simp only [Option.bind_some]
  rw [if_neg (by decide)]
theorem breaks_take {l : List Int} (hl : l.length ≤ 1000000) (hr : Runes l) (i k : Nat) (hk : l.length + 149 ≤ k) : colophonref04_Breaks.f k (l.take i) = some ((cnt l i : Nat) : Int) := by
  have h0 : (l.take i).length ≤ l.length := by simp; omega
  have h1 := breaks_lp (l.take i) (by omega) (fun n hn => hr n (List.mem_of_mem_take hn)) (l.take i).length k 0 0 (by omega) (by omega) (by omega) (by omega)
  rw [List.drop_zero, Nat.zero_add] at h1
  rw [show cnt l i = (l.take i).countP sep from by unfold cnt; rfl]
  exact h1
theorem para_l1 (l : List Int) (hl : l.length ≤ 1000000) (hr : Runes l) (i : Nat) (hi : i ≤ l.length) (a : Int) : ∀ (d k j : Nat), l.length - j = d → i ≤ j → j ≤ l.length → cnt l j = cnt l i → d + l.length + 200 < k →
    ∃ e : Nat, colophonref04_Para.l1 k l (i : Int) a (j : Int) = some ((cnt l i : Int), a, (e : Int)) ∧ e ≤ l.length ∧ (∀ m, m < e → cnt l m ≤ cnt l i) ∧ (e < l.length → cnt l i + 1 ≤ cnt l e) := by
  intro d
  induction d with
  | zero =>
    intro k j hd hij hj hc hk
    obtain ⟨k, rfl⟩ : ∃ m, k = m + 1 := ⟨k - 1, by omega⟩
    obtain rfl : j = l.length := by omega
    refine ⟨l.length, ?_, hj, fun m hm => by have := cnt_mono l (Nat.le_of_lt hm); omega, fun h => by omega⟩
    rw [l1_end hi, breaks_take hl hr i k (by omega), Option.bind_some]
  | succ d ih =>
    intro k j hd hij hj hc hk
    obtain ⟨k, rfl⟩ : ∃ m, k = m + 1 := ⟨k - 1, by omega⟩
    have hlt : j < l.length := by omega
    by_cases h : sep l[j] = true
    · have hst := cnt_yes hlt h
      refine ⟨j + 1, ?_, by omega, fun m hm => by have := cnt_mono l (show m ≤ j by omega); omega, fun _ => by omega⟩
      rw [l1_sep hl hr (by omega) hi hlt h, breaks_take hl hr i k (by omega), Option.bind_some]
    · have hst := cnt_not hlt h
      obtain ⟨e, h1, h2⟩ := ih k (j + 1) (by omega) (by omega) (by omega) (by omega) (by omega)
      exact ⟨e, (l1_go hl hr (by omega) hlt h).trans h1, h2⟩
theorem para_l0 (l : List Int) (hl : l.length ≤ 1000000) (hr : Runes l) (i : Nat) (hi : i ≤ l.length) : ∀ (j k : Nat), j ≤ i → cnt l j = cnt l i → j + l.length + l.length + 300 < k →
    ∃ a e : Nat, colophonref04_Para.l0 k l (i : Int) (j : Int) = some ((cnt l i : Int), (a : Int), (e : Int)) ∧ IsPara l i (cnt l i) a e := by
  have fin : ∀ (j k : Nat), j ≤ i → (∀ m, m < j → cnt l m < cnt l i) → cnt l j = cnt l i → l.length + l.length + 300 ≤ k + 1 →
      ∃ a e : Nat, colophonref04_Para.j1 k l (i : Int) (j : Int) = some ((cnt l i : Int), (a : Int), (e : Int)) ∧ IsPara l i (cnt l i) a e := by
    intro j k hj hlo hc hk
    obtain ⟨k, rfl⟩ : ∃ m, k = m + 1 := ⟨k - 1, by omega⟩
    obtain ⟨e, h1, h2, h3, h4⟩ := para_l1 l hl hr i hi (j : Int) (l.length - i) k i rfl (Nat.le_refl _) hi rfl (by omega)
    exact ⟨j, e, h1, rfl, by omega, hlo, fun _ => by omega, h2, h3, h4⟩
  intro j
  induction j with
  | zero =>
    intro k hj hc hk
    obtain ⟨k, rfl⟩ : ∃ m, k = m + 1 := ⟨k - 1, by omega⟩
    obtain ⟨a, e, h1, h2⟩ := fin 0 k (by omega) (fun m hm => by omega) hc (by omega)
    exact ⟨a, e, l0_end.trans h1, h2⟩
  | succ j ih =>
    intro k hj hc hk
    obtain ⟨k, rfl⟩ : ∃ m, k = m + 1 := ⟨k - 1, by omega⟩
    have hlt : j < l.length := by omega
    by_cases h : sep l[j] = true
    · have hst := cnt_yes hlt h
      obtain ⟨a, e, h1, h2⟩ := fin (j + 1) k (by omega) (fun m hm => by have := cnt_mono l (show m ≤ j by omega); omega) hc (by omega)
      exact ⟨a, e, (l0_sep hl hr (by omega) hlt h).trans h1, h2⟩
    · have hst := cnt_not hlt h
      obtain ⟨a, e, h1, h2⟩ := ih k (by omega) (by omega) (by omega)
      exact ⟨a, e, (l0_go hl hr (by omega) hlt h).trans h1, h2⟩
theorem ref_para (l : List Int) (hl : l.length ≤ 1000000) (hr : Runes l) (i : Nat) (hi : i ≤ l.length) :
    ∃ a e : Nat, colophonref04_Para.f (3 * l.length + 400) l (i : Int) = some ((cnt l i : Int), (a : Int), (e : Int)) ∧ IsPara l i (cnt l i) a e :=
  para_l0 l hl hr i hi i _ (Nat.le_refl _) rfl (by omega)
theorem para_one {l : List Int} {i n a b n' a' b' : Nat} (h : IsPara l i n a b) (h' : IsPara l i n' a' b') : n = n' ∧ a = a' ∧ b = b' := by
  obtain ⟨k1, k2, k3, k4, k5, k6, k7⟩ := h'
  subst k1
  exact para_exact h k2 k3 k4 k5 k6 k7
theorem RefPara_L {w : World} {A : Option Addr} {c i n a b : Nat} {l : List Int} (hC : Kd.C (Kd.int .i32) w A l.length l) (hc : l.length ≤ c) (hl : l.length ≤ 1000000) (hr : Runes l) (hi : i ≤ l.length) (hp : IsPara l i n a b) :
    Calls Try.prog 56 #[.slice A l.length c, .int .i64 (i : Int)] w fun e w' => e = .returned (.tuple #[.int .i64 (n : Int), .int .i64 (a : Int), .int .i64 (b : Int)]) ∧ Below w.heap.size w w' := by
  obtain ⟨a', e', h1, h2⟩ := ref_para l hl hr i hi
  obtain ⟨rfl, rfl, rfl⟩ := para_one hp h2
  exact colophonref04_Para.calls _ A c l _ _ _ _ w hC hc h1
end Go.Proofs.Ytenjldfflkinkaa.Rop
namespace Go.Proofs.Ytenjldfflkinkaa.Rop
set_option linter.unusedVariables false
set_option linter.unusedSimpArgs false
open Go.RowKit Go.Proofs.Ytenjldfflkinkaa.F Go.Proofs.YtenjldfflkinkaaW.PrintWords Go.Proofs.YtenjldfflkinkaaW.PrintLast Go.Proofs.YtenjldfflkinkaaW.PrintMore
/-- the cuts of a slice of runes -/
theorem run_to {A : Option Addr} {n c x : Nat} (h : x ≤ n) (hc : n ≤ c) (W : World) : (Instr.slice 23 (.slice A n c) none (some (.int .i64 (x : Int))) none).run Try.prog W = .ok (.slice A x c) W := by
  obtain ⟨i0, hi, hz0, hz1, hz2⟩ := info_parts info21
  have := cut_to 23 21 .i64 Try.underlying23 hi A n c (x : Int) (by omega) (by omega) hc W
  rw [this, Int.toNat_natCast]
/-- where the rest of a slice lies -/
def restA (A : Option Addr) (c y : Nat) : Option Addr := if c = y then A else A.map (·.add y)
theorem run_from {A : Option Addr} {n c y : Nat} (h : y ≤ n) (W : World) : (Instr.slice 23 (.slice A n c) (some (.int .i64 (y : Int))) none none).run Try.prog W = .ok (.slice (restA A c y) (n - y) (c - y)) W := by
  obtain ⟨i0, hi, hz0, hz1, hz2⟩ := info_parts info21
  have := cut_from 23 21 .i64 Try.underlying23 hi 1 hz1 A n c (y : Int) (by omega) (by omega) W
  rw [this, Int.toNat_natCast, Nat.mul_one, restA]
theorem run_mid {A : Option Addr} {n c x y : Nat} (h : x ≤ y) (hy : y ≤ n) (hc : n ≤ c) (W : World) : (Instr.slice 23 (.slice A n c) (some (.int .i64 (x : Int))) (some (.int .i64 (y : Int))) none).run Try.prog W = .ok (.slice (restA A c x) (y - x) (c - x)) W := by
  obtain ⟨i0, hi, hz0, hz1, hz2⟩ := info_parts info21
  have := cut_mid 23 21 .i64 .i64 Try.underlying23 hi 1 hz1 A n c (x : Int) (y : Int) (by omega) (by omega) (by omega) hc W
  rw [this, Int.toNat_natCast, Int.toNat_natCast, Nat.mul_one, restA]
theorem C_take {w : World} {A : Option Addr} {l : List Int} (h : Kd.C (Kd.int .i32) w A l.length l) {x : Nat} (hx : x ≤ l.length) : Kd.C (Kd.int .i32) w A x (l.take x) := by
  have h1 := ReadsOf.take_ (Kd.reads_of_C (d := (0 : Int)) h) x hx
  exact Kd.C_of_reads (d := (0 : Int)) (h1 := fun _ => rfl) h1
theorem C_drop {w : World} {A : Option Addr} {l : List Int} {c : Nat} (h : Kd.C (Kd.int .i32) w A l.length l) (hc : l.length ≤ c) {y : Nat} (hy : y ≤ l.length) : Kd.C (Kd.int .i32) w (restA A c y) (l.length - y) (l.drop y) := by
  have h1 := ReadsOf.drop_ (c := c) (Kd.reads_of_C (d := (0 : Int)) h) y hy hc
  exact Kd.C_of_reads (d := (0 : Int)) (h1 := fun _ => rfl) h1
theorem C_mid {w : World} {A : Option Addr} {l : List Int} {c : Nat} (h : Kd.C (Kd.int .i32) w A l.length l) (hc : l.length ≤ c) {x y : Nat} (hx : x ≤ y) (hy : y ≤ l.length) : Kd.C (Kd.int .i32) w (restA A c x) (y - x) ((l.drop x).take (y - x)) := by
  have h1 := C_drop h hc (show x ≤ l.length by omega)
  have h2 : Kd.C (Kd.int .i32) w (restA A c x) (l.drop x).length (l.drop x) := by rw [List.length_drop]; exact h1
  exact C_take h2 (by rw [List.length_drop]; omega)
set_option maxRecDepth 100000 in
set_option maxHeartbeats 4000000 in
theorem Put_L {w : World} {A A3 : Option Addr} {c c3 x y : Nat} {l m : List Int} (hC : Kd.C (Kd.int .i32) w A l.length l) (hc : l.length ≤ c) (hC3 : Kd.C (Kd.int .i32) w A3 m.length m) (hx : x ≤ l.length) (hy : y ≤ l.length) (hl : l.length ≤ 1000000) (hm : m.length ≤ 1000000) :
    Calls Try.prog 57 #[.slice A l.length c, .int .i64 (x : Int), .int .i64 (y : Int), .slice A3 m.length c3] w (RowOf (l.take x ++ m ++ l.drop y) w) := by
  have hcut1 := fun W => run_to (A := A) hx hc W
  have hcut2 := fun W => run_from (A := A) (c := c) hy W
  have T1 := Aside0.mk (C_take hC hx)
  have T2 := Aside0.mk (C_drop hC hc hy)
  have T3 := Aside0.mk hC3
  have E1 := Aside0.mk (show (l.take x).length = x by simp; omega)
  have E2 := Aside0.mk (show (l.drop y).length = l.length - y by simp)
  obtain ⟨l1, hl1⟩ : ∃ l1, l.take x = l1 := ⟨_, rfl⟩
  obtain ⟨l2, hl2⟩ : ∃ l2, l.drop y = l2 := ⟨_, rfl⟩
  obtain ⟨n, hn⟩ : ∃ n, l.length = n := ⟨_, rfl⟩
  obtain ⟨n3, hn3⟩ : ∃ n, m.length = n := ⟨_, rfl⟩
  rw [hl1] at T1 E1 ⊢
  rw [hl2] at T2 E2 ⊢
  rw [hn] at T2 E2 hcut1 hcut2 hx hy hl ⊢
  rw [hn3] at hm T3 ⊢
  obtain ⟨B, hB⟩ : ∃ B, restA A c y = B := ⟨_, rfl⟩
  rw [hB] at hcut2 T2
  obtain ⟨k, hk⟩ : ∃ k, n - y = k := ⟨_, rfl⟩
  obtain ⟨k2, hk2⟩ : ∃ k, c - y = k := ⟨_, rfl⟩
  rw [hk] at hcut2 T2 E2
  rw [hk2] at hcut2
  have HK := Aside0.mk (show k ≤ 1000000 by omega)
  have N3 := Aside0.mk hn3
  clear hC hc hC3 hl1 hl2 hn hn3 hB hk hk2 hy
  go_enter Try.func57, Try.ntmps57
  go_wp2_with (first
    | ((with_reducible refine gate_dst (N := 10) rfl ?_); refine Kd.R_lit (Kd.int .i32) w.heap.size 21 rfl (N := 10) rfl (xs := ([] : List Int)) (inner := []) (ok := fun _ => True) (okp := fun _ => True) ?hr (Reps.none _ _) (fun _ hk => hk) trivial (Below.refl _ w) (Nat.le_refl _) (by simp) ?_; (case hr => first | (go_simp; done) | (go_simp; rfl)); intro v1 w1 ho1 hb1 hg1 hn1; have HO1 := Aside0.mk ho1; have HB1 := Aside0.mk hb1; clear hg1 hn1 ho1 hb1)
    | ((with_reducible refine gate_dst (N := 14) rfl ?_); at_builtin; refine Kd.R_append_rows (Kd.int .i32) (w0 := w) w.heap.size rfl (.tmp 10) (.tmp 13) 23 21 (.int .i32 0) 4 rfl Try.underlying23 info21 rfl (by decide) (by omega) v1 [] l1 _ _ _ (fun _ => True) (fun _ => False) rfl rfl HO1.out (Kd.C_below T1.out HB1.out) (fun _ _ h => h) (fun _ h => h.elim) (fun _ _ => trivial) HB1.out HB1.out.size (by have := E1.out; simp; omega) ?_; intro v2 w2 ho2 hb2 hg2 hn2; have HO2 := Aside0.mk ho2; have HB2 := Aside0.mk hb2; clear hg2 hn2 ho2 hb2)
    | ((with_reducible refine gate_dst (N := 17) rfl ?_); at_builtin; refine Kd.R_append_rows (Kd.int .i32) (w0 := w) w.heap.size rfl (.tmp 15) (.tmp 16) 23 21 (.int .i32 0) 4 rfl Try.underlying23 info21 rfl (by decide) (by omega) v2 ([] ++ l1) m _ _ _ (fun _ => True) (fun _ => False) rfl rfl HO2.out (Kd.C_below T3.out HB2.out) (fun _ _ h => h) (fun _ h => h.elim) (fun _ _ => trivial) HB2.out HB2.out.size (by have := E1.out; simp; omega) ?_; intro v3 w3 ho3 hb3 hg3 hn3; have HO3 := Aside0.mk ho3; have HB3 := Aside0.mk hb3; clear hg3 hn3 ho3 hb3)
    | ((with_reducible refine gate_dst (N := 22) rfl ?_); at_builtin; refine Kd.R_append_rows (Kd.int .i32) (w0 := w) w.heap.size rfl (.tmp 18) (.tmp 21) 23 21 (.int .i32 0) 4 rfl Try.underlying23 info21 rfl (by decide) (by omega) v3 ([] ++ l1 ++ m) l2 _ _ _ (fun _ => True) (fun _ => False) rfl rfl HO3.out (Kd.C_below T2.out HB3.out) (fun _ _ h => h) (fun _ h => h.elim) (fun _ _ => trivial) HB3.out HB3.out.size (by have := E1.out; have := HK.out; have := N3.out; simp; omega) ?_; intro v4 w4 ho4 hb4 hg4 hn4; have HO4 := Aside0.mk ho4; have HB4 := Aside0.mk hb4; clear hg4 hn4 ho4 hb4))
  go_ret
  obtain ⟨A', c', rfl⟩ := Kd.R_slice HO4.out
  exact ⟨A', c', rfl, (Kd.R_reads' HO4.out).2.2, (Kd.R_reads' HO4.out).2.1, HB4.out⟩
end Go.Proofs.Ytenjldfflkinkaa.Rop
namespace Go.Proofs.Ytenjldfflkinkaa.Rop
set_option linter.unusedVariables false
set_option linter.unusedSimpArgs false
open Go.RowKit Go.Proofs.Ytenjldfflkinkaa.F Go.Proofs.YtenjldfflkinkaaW.PrintWords Go.Proofs.YtenjldfflkinkaaW.PrintLast Go.Proofs.YtenjldfflkinkaaW.PrintMore
section
variable {w : World} {b n c : Nat} {l : List Int} {A : Option Addr}
theorem At_in (h : RL w b l) (hn : l.length = n) (i : Nat) (hi : i < n) (hs : n ≤ 100000) : Calls Try.prog 32 #[.pointer (some ⟨b, 0, none⟩), .int .i64 (i : Int)] w fun e w' => e = .returned (.tuple #[.int .i32 (l.getD i 0), .int .i64 0]) ∧ w = w' := by
  obtain ⟨t, h1, rfl, h3⟩ := h
  rw [RT.toL_len] at hn
  have := At_calls h1 (i : Int) (by omega)
  rw [if_pos ⟨by omega, by omega⟩, Int.toNat_natCast] at this
  exact this
theorem At_out (h : RL w b l) (hn : l.length = n) (i : Int) (hi : i < 0 ∨ (n : Int) ≤ i) (hs : n ≤ 100000) : Calls Try.prog 32 #[.pointer (some ⟨b, 0, none⟩), .int .i64 i] w fun e w' => e = .returned (.tuple #[.int .i32 0, .int .i64 4]) ∧ w = w' := by
  obtain ⟨t, h1, rfl, h3⟩ := h
  rw [RT.toL_len] at hn
  have := At_calls h1 i (by omega)
  rw [if_neg (by omega)] at this
  exact this
theorem Wrong_n {x y e : Int} (hC : Kd.C (Kd.int .i32) w A n l) (hn : l.length = n) (hc : n ≤ c) (he : spanE (n : Int) x y = e) : Calls Try.prog 55 #[.slice A n c, .int .i64 x, .int .i64 y] w fun e' w' => e' = .returned (.int .i64 e) ∧ Below w.heap.size w w' := by
  subst hn
  refine (colophonref04_Wrong.calls A c l x y e w hC hc ?_).mono fun _ _ ⟨h1, h2⟩ => ⟨h1, drawn_below h2⟩
  subst he
  unfold colophonref04_Wrong.f spanE
  by_cases h1 : x < 0
  · rw [if_pos h1, if_pos (.inl h1)]
  · rw [if_neg h1]
    by_cases h2 : y > (l.length : Int)
    · rw [if_pos h2, if_pos (.inr (.inl h2))]
    · rw [if_neg h2]
      by_cases h3 : x > y
      · rw [if_pos h3, if_pos (.inr (.inr h3))]
      · rw [if_neg h3, if_neg (by omega)]
theorem Slice_bad_L (h : RL w b l) (hn : l.length = n) {x y e : Int} (he : spanE (n : Int) x y = e) (he0 : e ≠ 0) : Calls Try.prog 16 #[.pointer (some ⟨b, 0, none⟩), .int .i64 x, .int .i64 y] w fun e' w' => e' = .returned (.tuple #[.slice none 0 0, .int .i64 e]) ∧ w = w' :=
  Slice_bad he0 (by have := span_L h x y; rw [hn, he] at this; exact this)
theorem Para_bad_L (h : RL w b l) (hn : l.length = n) {x e : Int} (he : spanE (n : Int) x x = e) (he0 : e ≠ 0) : Calls Try.prog 24 #[.pointer (some ⟨b, 0, none⟩), .int .i64 x] w fun e' w' => e' = .returned (.tuple #[.int .i64 0, .int .i64 0, .int .i64 0, .int .i64 e]) ∧ w = w' :=
  Para_bad he0 (by have := span_L h x x; rw [hn, he] at this; exact this)
theorem Para_n (h : RL w b l) (hn : l.length = n) {i p q r : Nat} (hp : IsPara l i p q r) (hi : i ≤ n) (hs : n ≤ 100000) : Calls Try.prog 24 #[.pointer (some ⟨b, 0, none⟩), .int .i64 (i : Int)] w fun e w' => e = .returned (.tuple #[.int .i64 (p : Int), .int .i64 (q : Int), .int .i64 (r : Int), .int .i64 0]) ∧ Below w.heap.size w w' :=
  (Para_L h i (by omega) (by omega)).mono fun e w' ⟨p', q', r', he, hp', hb⟩ => by
    obtain ⟨rfl, rfl, rfl⟩ := para_one hp hp'
    exact ⟨he, hb⟩
theorem RefPara_n (hC : Kd.C (Kd.int .i32) w A n l) (hn : l.length = n) (hc : n ≤ c) (hs : n ≤ 100000) (hr : Runes l) {i p q r : Nat} (hp : IsPara l i p q r) (hi : i ≤ n) :
    Calls Try.prog 56 #[.slice A n c, .int .i64 (i : Int)] w fun e w' => e = .returned (.tuple #[.int .i64 (p : Int), .int .i64 (q : Int), .int .i64 (r : Int)]) ∧ Below w.heap.size w w' := by
  subst hn
  exact RefPara_L hC hc (by omega) hr hi hp
theorem Same_n {B : Option Addr} {d : Nat} (hA : Kd.C (Kd.int .i32) w A n l) (hn : l.length = n) (hc : n ≤ c) (hB : Kd.C (Kd.int .i32) w B n l) (hd : n ≤ d) (hs : n ≤ 100000) :
    Calls Try.prog 18 #[.slice A n c, .slice B n d] w fun e w' => e = .returned (.bool true) ∧ Below w.heap.size w w' := by
  subst hn
  exact Same_calls hA hc hB hd (by omega)
theorem own_row {w1 : World} {base : Nat} {v : Value} (h : Kd.R (Kd.int .i32) 21 w1 base (fun _ => True) v ([] ++ l)) (hn : l.length = n) : ∃ A c, v = .slice A n c ∧ Kd.C (Kd.int .i32) w1 A n l ∧ n ≤ c ∧ c ≤ 9223372036854775807 := by
  subst hn
  obtain ⟨A, c, rfl⟩ := Kd.R_slice h
  exact ⟨A, c, rfl, (Kd.R_reads' h).2.2, (Kd.R_reads' h).2.1, R_cap h⟩

set_option maxRecDepth 100000 in
set_option maxHeartbeats 4000000 in
theorem asked_okmid {x y : Nat} (hT : RL w b l) (hC : Kd.C (Kd.int .i32) w A n l) (hc : n ≤ c) (hn : l.length = n) (hl : n ≤ 100000) (hr : Runes l) (hxy : x ≤ y) (hyn : y ≤ n) (hi : x < n) :
    Calls Try.prog 30 #[.pointer (some ⟨b, 0, none⟩), .slice A n c, .int .i64 (x : Int), .int .i64 (y : Int)] w fun e w' => e = .returned (.bool true) ∧ Below w.heap.size w w' := by
  have CSl := Aside0.mk (fun W (hW : Below w.heap.size w W) => Slice_row (hT.below hW) x y hxy (by omega) (by omega))
  have CW1 := Aside0.mk (fun W A' c' (h : Kd.C (Kd.int .i32) W A' n l) (h' : n ≤ c') => Wrong_n h hn h' (show spanE (n : Int) (x : Int) (y : Int) = 0 by unfold spanE; rw [if_neg (by omega)]))
  have hml : ((l.drop x).take (y - x)).length = y - x := by simp; omega
  have CSa := Aside0.mk (fun W A' c' B d (h : Kd.C (Kd.int .i32) W A' (y - x) ((l.drop x).take (y - x))) (h' : y - x ≤ c') (k : Kd.C (Kd.int .i32) W B (y - x) ((l.drop x).take (y - x))) (k' : y - x ≤ d) => Same_n h hml h' k k' (by omega))
  have CAt := Aside0.mk (fun W (hW : Below w.heap.size w W) => At_in (hT.below hW) hn x (by omega) hl)
  obtain ⟨q, r, -, hp⟩ := ref_para l (by omega) hr x (by omega)
  obtain ⟨p, hpp⟩ : ∃ p, cnt l x = p := ⟨_, rfl⟩
  rw [hpp] at hp
  clear hpp
  have CPa := Aside0.mk (fun W (hW : Below w.heap.size w W) => Para_n (hT.below hW) hn hp (by omega) hl)
  have CRp := Aside0.mk (fun W A' c' (h : Kd.C (Kd.int .i32) W A' n l) (h' : n ≤ c') => RefPara_n h hn h' hl hr hp (by omega))
  have CW2 := Aside0.mk (fun W A' c' (h : Kd.C (Kd.int .i32) W A' n l) (h' : n ≤ c') => Wrong_n h hn h' (show spanE (n : Int) (x : Int) (x : Int) = 0 by unfold spanE; rw [if_neg (by omega)]))
  have t1 : decide (((x : Int) : Int) < 0) = false := decide_eq_false (by omega)
  have t2 : decide ((n : Int) ≤ ((x : Int) : Int)) = false := decide_eq_false (by omega)
  obtain ⟨v, hv⟩ : ∃ v, l.getD x 0 = v := ⟨_, rfl⟩
  rw [hv] at CAt
  have HV := Aside0.mk hv
  clear hv
  have HC := Aside0.mk hC
  have HN := Aside0.mk hn
  have HI := Aside0.mk (show x < n by omega)
  have HX := Aside0.mk hxy
  have HY := Aside0.mk hyn
  have HS := Aside0.mk (show y ≤ l.length by omega)
  obtain ⟨m, hm⟩ : ∃ m, (l.drop x).take (y - x) = m := ⟨_, rfl⟩
  rw [hm] at CSl CSa
  have HM := Aside0.mk hm
  obtain ⟨k, hk⟩ : ∃ k, y - x = k := ⟨_, rfl⟩
  rw [hk] at CSl CSa
  have HK := Aside0.mk hk
  clear hml hm hk
  clear hT hC hn hr hc hxy hyn
  clear hp
  go_enter Try.func30, Try.ntmps30
  go_wp2_with (first
    | ((with_reducible refine gate_dst (N := 20) rfl ?_); refine Kd.R_lit (Kd.int .i32) w.heap.size 21 rfl (N := 20) rfl (xs := ([] : List Int)) (inner := []) (ok := fun _ => True) (okp := fun _ => True) ?hr (Reps.none _ _) (fun _ hk => hk) trivial (Below.refl _ w) (Nat.le_refl _) (by simp) ?_; (case hr => first | (go_simp; done) | (go_simp; rfl)); intro v1 w1 ho1 hb1 hg1 hn1; have HO1 := Aside0.mk ho1; have HB1 := Aside0.mk hb1; clear hg1 hn1 ho1 hb1)
    | ((with_reducible refine gate_dst (N := 22) rfl ?_); at_builtin; refine Kd.R_append_rows (Kd.int .i32) (w0 := w) w.heap.size rfl (.tmp 20) (.tmp 21) 23 21 (.int .i32 0) 4 rfl Try.underlying23 info21 rfl (by decide) (by omega) v1 [] l _ _ _ (fun _ => True) (fun _ => False) rfl rfl HO1.out (Kd.C_below HC.out HB1.out) (fun _ _ h => h) (fun _ h => h.elim) (fun _ _ => trivial) HB1.out HB1.out.size (by simp; omega) ?_; intro v2 w2 ho2 hb2 hg2 hn2; obtain ⟨A2, c2, rfl, hC2, hc2, _⟩ := own_row ho2 HN.out; have C2 := Aside0.mk hC2; have B2 := Aside0.mk hb2; have K2 := Aside0.mk hc2; clear hg2 hn2 ho2 hb2 hC2; have hmid := fun W => run_mid (A := A2) (c := c2) HX.out HY.out hc2 W; have C2m := Aside0.mk (C_mid (w := w2) (A := A2) (by have := C2.out; rw [HN.out]; exact this) (by rw [HN.out]; exact hc2) HX.out HS.out); rw [HM.out, HK.out] at C2m; rw [HK.out] at hmid; have K2m := Aside0.mk (show k ≤ c2 - x from by have := HK.out; have := HY.out; omega); clear hc2)
    | (go_at_call 16; (with_reducible refine (CSl.out _ B2.out).mono ?_); rintro e w3 ⟨A3, c3, rfl, hs3, hk3, _, hb⟩; have C3 := Aside0.mk (Kd.C_below C2.out hb); have B3 := Aside0.mk (below_step B2.out hb); have S3 := Aside0.mk hs3; have K3 := Aside0.mk hk3; have M3 := Aside0.mk (Kd.C_below C2m.out hb); clear hs3 hk3; clear hb)
    | (go_at_call 55; (with_reducible refine (CW1.out _ _ _ C3.out K2.out).mono ?_); rintro e w4 ⟨rfl, hb⟩; have C4 := Aside0.mk (Kd.C_below C3.out hb); have B4 := Aside0.mk (below_step B3.out hb); have S4 := Aside0.mk (Kd.C_below S3.out hb); have M4 := Aside0.mk (Kd.C_below M3.out hb); clear hb)
    | (go_at_call 18; (with_reducible refine (CSa.out _ _ _ _ _ S4.out K3.out M4.out K2m.out).mono ?_); rintro e w5 ⟨rfl, hb⟩; have C5 := Aside0.mk (Kd.C_below C4.out hb); have B5 := Aside0.mk (below_step B4.out hb); clear hb)
    | (go_at_call 32; (with_reducible refine (CAt.out _ B5.out).mono ?_); rintro e w' ⟨rfl, rfl⟩; obtain ⟨ad, rfl, hcl⟩ := num_read32 C5.out HN.out x HI.out; rw [HV.out] at hcl)
    | (go_at_call 24; (with_reducible refine (CPa.out _ B5.out).mono ?_); rintro e w6 ⟨rfl, hb⟩; have C6 := Aside0.mk (Kd.C_below C5.out hb); have B6 := Aside0.mk (below_step B5.out hb); clear hb)
    | (go_at_call 55; (with_reducible refine (CW2.out _ _ _ C6.out K2.out).mono ?_); rintro e w7 ⟨rfl, hb⟩; have C7 := Aside0.mk (Kd.C_below C6.out hb); have B7 := Aside0.mk (below_step B6.out hb); clear hb)
    | (go_at_call 56; (with_reducible refine (CRp.out _ _ _ C7.out K2.out).mono ?_); rintro e w8 ⟨rfl, hb⟩; have C8 := Aside0.mk (Kd.C_below C7.out hb); have B8 := Aside0.mk (below_step B7.out hb); clear hb))
  go_ret
  exact ⟨rfl, B8.out⟩
set_option maxRecDepth 100000 in
set_option maxHeartbeats 4000000 in
theorem asked_okend {x y : Nat} (hT : RL w b l) (hC : Kd.C (Kd.int .i32) w A n l) (hc : n ≤ c) (hn : l.length = n) (hl : n ≤ 100000) (hr : Runes l) (hxy : x ≤ y) (hyn : y ≤ n) (hi : n ≤ x) :
    Calls Try.prog 30 #[.pointer (some ⟨b, 0, none⟩), .slice A n c, .int .i64 (x : Int), .int .i64 (y : Int)] w fun e w' => e = .returned (.bool true) ∧ Below w.heap.size w w' := by
  have CSl := Aside0.mk (fun W (hW : Below w.heap.size w W) => Slice_row (hT.below hW) x y hxy (by omega) (by omega))
  have CW1 := Aside0.mk (fun W A' c' (h : Kd.C (Kd.int .i32) W A' n l) (h' : n ≤ c') => Wrong_n h hn h' (show spanE (n : Int) (x : Int) (y : Int) = 0 by unfold spanE; rw [if_neg (by omega)]))
  have hml : ((l.drop x).take (y - x)).length = y - x := by simp; omega
  have CSa := Aside0.mk (fun W A' c' B d (h : Kd.C (Kd.int .i32) W A' (y - x) ((l.drop x).take (y - x))) (h' : y - x ≤ c') (k : Kd.C (Kd.int .i32) W B (y - x) ((l.drop x).take (y - x))) (k' : y - x ≤ d) => Same_n h hml h' k k' (by omega))
  have CAt := Aside0.mk (fun W (hW : Below w.heap.size w W) => At_out (hT.below hW) hn (x : Int) (by omega) hl)
  obtain ⟨q, r, -, hp⟩ := ref_para l (by omega) hr x (by omega)
  obtain ⟨p, hpp⟩ : ∃ p, cnt l x = p := ⟨_, rfl⟩
  rw [hpp] at hp
  clear hpp
  have CPa := Aside0.mk (fun W (hW : Below w.heap.size w W) => Para_n (hT.below hW) hn hp (by omega) hl)
  have CRp := Aside0.mk (fun W A' c' (h : Kd.C (Kd.int .i32) W A' n l) (h' : n ≤ c') => RefPara_n h hn h' hl hr hp (by omega))
  have CW2 := Aside0.mk (fun W A' c' (h : Kd.C (Kd.int .i32) W A' n l) (h' : n ≤ c') => Wrong_n h hn h' (show spanE (n : Int) (x : Int) (x : Int) = 0 by unfold spanE; rw [if_neg (by omega)]))
  have t1 : decide (((x : Int) : Int) < 0) = false := decide_eq_false (by omega)
  have t2 : decide ((n : Int) ≤ ((x : Int) : Int)) = true := decide_eq_true (by omega)
  have HC := Aside0.mk hC
  have HN := Aside0.mk hn
  have HX := Aside0.mk hxy
  have HY := Aside0.mk hyn
  have HS := Aside0.mk (show y ≤ l.length by omega)
  obtain ⟨m, hm⟩ : ∃ m, (l.drop x).take (y - x) = m := ⟨_, rfl⟩
  rw [hm] at CSl CSa
  have HM := Aside0.mk hm
  obtain ⟨k, hk⟩ : ∃ k, y - x = k := ⟨_, rfl⟩
  rw [hk] at CSl CSa
  have HK := Aside0.mk hk
  clear hml hm hk
  clear hT hC hn hr hc hxy hyn
  clear hp
  go_enter Try.func30, Try.ntmps30
  go_wp2_with (first
    | ((with_reducible refine gate_dst (N := 20) rfl ?_); refine Kd.R_lit (Kd.int .i32) w.heap.size 21 rfl (N := 20) rfl (xs := ([] : List Int)) (inner := []) (ok := fun _ => True) (okp := fun _ => True) ?hr (Reps.none _ _) (fun _ hk => hk) trivial (Below.refl _ w) (Nat.le_refl _) (by simp) ?_; (case hr => first | (go_simp; done) | (go_simp; rfl)); intro v1 w1 ho1 hb1 hg1 hn1; have HO1 := Aside0.mk ho1; have HB1 := Aside0.mk hb1; clear hg1 hn1 ho1 hb1)
    | ((with_reducible refine gate_dst (N := 22) rfl ?_); at_builtin; refine Kd.R_append_rows (Kd.int .i32) (w0 := w) w.heap.size rfl (.tmp 20) (.tmp 21) 23 21 (.int .i32 0) 4 rfl Try.underlying23 info21 rfl (by decide) (by omega) v1 [] l _ _ _ (fun _ => True) (fun _ => False) rfl rfl HO1.out (Kd.C_below HC.out HB1.out) (fun _ _ h => h) (fun _ h => h.elim) (fun _ _ => trivial) HB1.out HB1.out.size (by simp; omega) ?_; intro v2 w2 ho2 hb2 hg2 hn2; obtain ⟨A2, c2, rfl, hC2, hc2, _⟩ := own_row ho2 HN.out; have C2 := Aside0.mk hC2; have B2 := Aside0.mk hb2; have K2 := Aside0.mk hc2; clear hg2 hn2 ho2 hb2 hC2; have hmid := fun W => run_mid (A := A2) (c := c2) HX.out HY.out hc2 W; have C2m := Aside0.mk (C_mid (w := w2) (A := A2) (by have := C2.out; rw [HN.out]; exact this) (by rw [HN.out]; exact hc2) HX.out HS.out); rw [HM.out, HK.out] at C2m; rw [HK.out] at hmid; have K2m := Aside0.mk (show k ≤ c2 - x from by have := HK.out; have := HY.out; omega); clear hc2)
    | (go_at_call 16; (with_reducible refine (CSl.out _ B2.out).mono ?_); rintro e w3 ⟨A3, c3, rfl, hs3, hk3, _, hb⟩; have C3 := Aside0.mk (Kd.C_below C2.out hb); have B3 := Aside0.mk (below_step B2.out hb); have S3 := Aside0.mk hs3; have K3 := Aside0.mk hk3; have M3 := Aside0.mk (Kd.C_below C2m.out hb); clear hs3 hk3; clear hb)
    | (go_at_call 55; (with_reducible refine (CW1.out _ _ _ C3.out K2.out).mono ?_); rintro e w4 ⟨rfl, hb⟩; have C4 := Aside0.mk (Kd.C_below C3.out hb); have B4 := Aside0.mk (below_step B3.out hb); have S4 := Aside0.mk (Kd.C_below S3.out hb); have M4 := Aside0.mk (Kd.C_below M3.out hb); clear hb)
    | (go_at_call 18; (with_reducible refine (CSa.out _ _ _ _ _ S4.out K3.out M4.out K2m.out).mono ?_); rintro e w5 ⟨rfl, hb⟩; have C5 := Aside0.mk (Kd.C_below C4.out hb); have B5 := Aside0.mk (below_step B4.out hb); clear hb)
    | (go_at_call 32; (with_reducible refine (CAt.out _ B5.out).mono ?_); rintro e w' ⟨rfl, rfl⟩)
    | (go_at_call 24; (with_reducible refine (CPa.out _ B5.out).mono ?_); rintro e w6 ⟨rfl, hb⟩; have C6 := Aside0.mk (Kd.C_below C5.out hb); have B6 := Aside0.mk (below_step B5.out hb); clear hb)
    | (go_at_call 55; (with_reducible refine (CW2.out _ _ _ C6.out K2.out).mono ?_); rintro e w7 ⟨rfl, hb⟩; have C7 := Aside0.mk (Kd.C_below C6.out hb); have B7 := Aside0.mk (below_step B6.out hb); clear hb)
    | (go_at_call 56; (with_reducible refine (CRp.out _ _ _ C7.out K2.out).mono ?_); rintro e w8 ⟨rfl, hb⟩; have C8 := Aside0.mk (Kd.C_below C7.out hb); have B8 := Aside0.mk (below_step B7.out hb); clear hb))
  go_ret
  exact ⟨rfl, B8.out⟩
set_option maxRecDepth 100000 in
set_option maxHeartbeats 4000000 in
theorem asked_badneg {f t : Int} (hT : RL w b l) (hC : Kd.C (Kd.int .i32) w A n l) (hc : n ≤ c) (hn : l.length = n) (hl : n ≤ 100000) (hr : Runes l) (hsp : spanE (n : Int) f t = 4) (hi : f < 0) :
    Calls Try.prog 30 #[.pointer (some ⟨b, 0, none⟩), .slice A n c, .int .i64 f, .int .i64 t] w fun e w' => e = .returned (.bool true) ∧ Below w.heap.size w w' := by
  have CSl := Aside0.mk (fun W (hW : Below w.heap.size w W) => Slice_bad_L (hT.below hW) hn hsp (by decide))
  have CW1 := Aside0.mk (fun W A' c' (h : Kd.C (Kd.int .i32) W A' n l) (h' : n ≤ c') => Wrong_n h hn h' (show spanE (n : Int) f t = 4 by exact hsp))
  have CAt := Aside0.mk (fun W (hW : Below w.heap.size w W) => At_out (hT.below hW) hn f (by omega) hl)
  have CPa := Aside0.mk (fun W (hW : Below w.heap.size w W) => Para_bad_L (hT.below hW) hn (show spanE (n : Int) f f = 4 by unfold spanE; rw [if_pos (by omega)]) (by decide))
  have CW2 := Aside0.mk (fun W A' c' (h : Kd.C (Kd.int .i32) W A' n l) (h' : n ≤ c') => Wrong_n h hn h' (show spanE (n : Int) f f = 4 by unfold spanE; rw [if_pos (by omega)]))
  have t1 : decide ((f : Int) < 0) = true := decide_eq_true (by omega)
  have HC := Aside0.mk hC
  have HN := Aside0.mk hn
  clear hT hC hn hr hc hsp
  go_enter Try.func30, Try.ntmps30
  go_wp2_with (first
    | ((with_reducible refine gate_dst (N := 20) rfl ?_); refine Kd.R_lit (Kd.int .i32) w.heap.size 21 rfl (N := 20) rfl (xs := ([] : List Int)) (inner := []) (ok := fun _ => True) (okp := fun _ => True) ?hr (Reps.none _ _) (fun _ hk => hk) trivial (Below.refl _ w) (Nat.le_refl _) (by simp) ?_; (case hr => first | (go_simp; done) | (go_simp; rfl)); intro v1 w1 ho1 hb1 hg1 hn1; have HO1 := Aside0.mk ho1; have HB1 := Aside0.mk hb1; clear hg1 hn1 ho1 hb1)
    | ((with_reducible refine gate_dst (N := 22) rfl ?_); at_builtin; refine Kd.R_append_rows (Kd.int .i32) (w0 := w) w.heap.size rfl (.tmp 20) (.tmp 21) 23 21 (.int .i32 0) 4 rfl Try.underlying23 info21 rfl (by decide) (by omega) v1 [] l _ _ _ (fun _ => True) (fun _ => False) rfl rfl HO1.out (Kd.C_below HC.out HB1.out) (fun _ _ h => h) (fun _ h => h.elim) (fun _ _ => trivial) HB1.out HB1.out.size (by simp; omega) ?_; intro v2 w2 ho2 hb2 hg2 hn2; obtain ⟨A2, c2, rfl, hC2, hc2, _⟩ := own_row ho2 HN.out; have C2 := Aside0.mk hC2; have B2 := Aside0.mk hb2; have K2 := Aside0.mk hc2; clear hg2 hn2 ho2 hb2 hC2; clear hc2)
    | (go_at_call 16; (with_reducible refine (CSl.out _ B2.out).mono ?_); rintro e w' ⟨rfl, rfl⟩)
    | (go_at_call 55; (with_reducible refine (CW1.out _ _ _ C2.out K2.out).mono ?_); rintro e w3 ⟨rfl, hb⟩; have C3 := Aside0.mk (Kd.C_below C2.out hb); have B3 := Aside0.mk (below_step B2.out hb); clear hb)
    | (go_at_call 32; (with_reducible refine (CAt.out _ B3.out).mono ?_); rintro e w' ⟨rfl, rfl⟩)
    | (go_at_call 24; (with_reducible refine (CPa.out _ B3.out).mono ?_); rintro e w' ⟨rfl, rfl⟩)
    | (go_at_call 55; (with_reducible refine (CW2.out _ _ _ C3.out K2.out).mono ?_); rintro e w4 ⟨rfl, hb⟩; have C4 := Aside0.mk (Kd.C_below C3.out hb); have B4 := Aside0.mk (below_step B3.out hb); clear hb))
  go_ret
  exact ⟨rfl, B4.out⟩
set_option maxRecDepth 100000 in
set_option maxHeartbeats 4000000 in
theorem asked_badmid {i : Nat} {t : Int} (hT : RL w b l) (hC : Kd.C (Kd.int .i32) w A n l) (hc : n ≤ c) (hn : l.length = n) (hl : n ≤ 100000) (hr : Runes l) (hsp : spanE (n : Int) (i : Int) t = 4) (hi : i < n) :
    Calls Try.prog 30 #[.pointer (some ⟨b, 0, none⟩), .slice A n c, .int .i64 (i : Int), .int .i64 t] w fun e w' => e = .returned (.bool true) ∧ Below w.heap.size w w' := by
  have CSl := Aside0.mk (fun W (hW : Below w.heap.size w W) => Slice_bad_L (hT.below hW) hn hsp (by decide))
  have CW1 := Aside0.mk (fun W A' c' (h : Kd.C (Kd.int .i32) W A' n l) (h' : n ≤ c') => Wrong_n h hn h' (show spanE (n : Int) (i : Int) t = 4 by exact hsp))
  have CAt := Aside0.mk (fun W (hW : Below w.heap.size w W) => At_in (hT.below hW) hn i (by omega) hl)
  obtain ⟨q, r, -, hp⟩ := ref_para l (by omega) hr i (by omega)
  obtain ⟨p, hpp⟩ : ∃ p, cnt l i = p := ⟨_, rfl⟩
  rw [hpp] at hp
  clear hpp
  have CPa := Aside0.mk (fun W (hW : Below w.heap.size w W) => Para_n (hT.below hW) hn hp (by omega) hl)
  have CRp := Aside0.mk (fun W A' c' (h : Kd.C (Kd.int .i32) W A' n l) (h' : n ≤ c') => RefPara_n h hn h' hl hr hp (by omega))
  have CW2 := Aside0.mk (fun W A' c' (h : Kd.C (Kd.int .i32) W A' n l) (h' : n ≤ c') => Wrong_n h hn h' (show spanE (n : Int) (i : Int) (i : Int) = 0 by unfold spanE; rw [if_neg (by omega)]))
  have t1 : decide (((i : Int) : Int) < 0) = false := decide_eq_false (by omega)
  have t2 : decide ((n : Int) ≤ ((i : Int) : Int)) = false := decide_eq_false (by omega)
  obtain ⟨v, hv⟩ : ∃ v, l.getD i 0 = v := ⟨_, rfl⟩
  rw [hv] at CAt
  have HV := Aside0.mk hv
  clear hv
  have HC := Aside0.mk hC
  have HN := Aside0.mk hn
  have HI := Aside0.mk (show i < n by omega)
  clear hT hC hn hr hc hsp
  clear hp
  go_enter Try.func30, Try.ntmps30
  go_wp2_with (first
    | ((with_reducible refine gate_dst (N := 20) rfl ?_); refine Kd.R_lit (Kd.int .i32) w.heap.size 21 rfl (N := 20) rfl (xs := ([] : List Int)) (inner := []) (ok := fun _ => True) (okp := fun _ => True) ?hr (Reps.none _ _) (fun _ hk => hk) trivial (Below.refl _ w) (Nat.le_refl _) (by simp) ?_; (case hr => first | (go_simp; done) | (go_simp; rfl)); intro v1 w1 ho1 hb1 hg1 hn1; have HO1 := Aside0.mk ho1; have HB1 := Aside0.mk hb1; clear hg1 hn1 ho1 hb1)
    | ((with_reducible refine gate_dst (N := 22) rfl ?_); at_builtin; refine Kd.R_append_rows (Kd.int .i32) (w0 := w) w.heap.size rfl (.tmp 20) (.tmp 21) 23 21 (.int .i32 0) 4 rfl Try.underlying23 info21 rfl (by decide) (by omega) v1 [] l _ _ _ (fun _ => True) (fun _ => False) rfl rfl HO1.out (Kd.C_below HC.out HB1.out) (fun _ _ h => h) (fun _ h => h.elim) (fun _ _ => trivial) HB1.out HB1.out.size (by simp; omega) ?_; intro v2 w2 ho2 hb2 hg2 hn2; obtain ⟨A2, c2, rfl, hC2, hc2, _⟩ := own_row ho2 HN.out; have C2 := Aside0.mk hC2; have B2 := Aside0.mk hb2; have K2 := Aside0.mk hc2; clear hg2 hn2 ho2 hb2 hC2; clear hc2)
    | (go_at_call 16; (with_reducible refine (CSl.out _ B2.out).mono ?_); rintro e w' ⟨rfl, rfl⟩)
    | (go_at_call 55; (with_reducible refine (CW1.out _ _ _ C2.out K2.out).mono ?_); rintro e w3 ⟨rfl, hb⟩; have C3 := Aside0.mk (Kd.C_below C2.out hb); have B3 := Aside0.mk (below_step B2.out hb); clear hb)
    | (go_at_call 32; (with_reducible refine (CAt.out _ B3.out).mono ?_); rintro e w' ⟨rfl, rfl⟩; obtain ⟨ad, rfl, hcl⟩ := num_read32 C3.out HN.out i HI.out; rw [HV.out] at hcl)
    | (go_at_call 24; (with_reducible refine (CPa.out _ B3.out).mono ?_); rintro e w4 ⟨rfl, hb⟩; have C4 := Aside0.mk (Kd.C_below C3.out hb); have B4 := Aside0.mk (below_step B3.out hb); clear hb)
    | (go_at_call 55; (with_reducible refine (CW2.out _ _ _ C4.out K2.out).mono ?_); rintro e w5 ⟨rfl, hb⟩; have C5 := Aside0.mk (Kd.C_below C4.out hb); have B5 := Aside0.mk (below_step B4.out hb); clear hb)
    | (go_at_call 56; (with_reducible refine (CRp.out _ _ _ C5.out K2.out).mono ?_); rintro e w6 ⟨rfl, hb⟩; have C6 := Aside0.mk (Kd.C_below C5.out hb); have B6 := Aside0.mk (below_step B5.out hb); clear hb))
  go_ret
  exact ⟨rfl, B6.out⟩
set_option maxRecDepth 100000 in
set_option maxHeartbeats 4000000 in
theorem asked_badend {t : Int} (hT : RL w b l) (hC : Kd.C (Kd.int .i32) w A n l) (hc : n ≤ c) (hn : l.length = n) (hl : n ≤ 100000) (hr : Runes l) (hsp : spanE (n : Int) (n : Int) t = 4) :
    Calls Try.prog 30 #[.pointer (some ⟨b, 0, none⟩), .slice A n c, .int .i64 (n : Int), .int .i64 t] w fun e w' => e = .returned (.bool true) ∧ Below w.heap.size w w' := by
  have CSl := Aside0.mk (fun W (hW : Below w.heap.size w W) => Slice_bad_L (hT.below hW) hn hsp (by decide))
  have CW1 := Aside0.mk (fun W A' c' (h : Kd.C (Kd.int .i32) W A' n l) (h' : n ≤ c') => Wrong_n h hn h' (show spanE (n : Int) (n : Int) t = 4 by exact hsp))
  have CAt := Aside0.mk (fun W (hW : Below w.heap.size w W) => At_out (hT.below hW) hn (n : Int) (by omega) hl)
  obtain ⟨q, r, -, hp⟩ := ref_para l (by omega) hr n (by omega)
  obtain ⟨p, hpp⟩ : ∃ p, cnt l n = p := ⟨_, rfl⟩
  rw [hpp] at hp
  clear hpp
  have CPa := Aside0.mk (fun W (hW : Below w.heap.size w W) => Para_n (hT.below hW) hn hp (by omega) hl)
  have CRp := Aside0.mk (fun W A' c' (h : Kd.C (Kd.int .i32) W A' n l) (h' : n ≤ c') => RefPara_n h hn h' hl hr hp (by omega))
  have CW2 := Aside0.mk (fun W A' c' (h : Kd.C (Kd.int .i32) W A' n l) (h' : n ≤ c') => Wrong_n h hn h' (show spanE (n : Int) (n : Int) (n : Int) = 0 by unfold spanE; rw [if_neg (by omega)]))
  have t1 : decide (((n : Int) : Int) < 0) = false := decide_eq_false (by omega)
  have t2 : decide ((n : Int) ≤ ((n : Int) : Int)) = true := decide_eq_true (by omega)
  have HC := Aside0.mk hC
  have HN := Aside0.mk hn
  clear hT hC hn hr hc hsp
  clear hp
  go_enter Try.func30, Try.ntmps30
  go_wp2_with (first
    | ((with_reducible refine gate_dst (N := 20) rfl ?_); refine Kd.R_lit (Kd.int .i32) w.heap.size 21 rfl (N := 20) rfl (xs := ([] : List Int)) (inner := []) (ok := fun _ => True) (okp := fun _ => True) ?hr (Reps.none _ _) (fun _ hk => hk) trivial (Below.refl _ w) (Nat.le_refl _) (by simp) ?_; (case hr => first | (go_simp; done) | (go_simp; rfl)); intro v1 w1 ho1 hb1 hg1 hn1; have HO1 := Aside0.mk ho1; have HB1 := Aside0.mk hb1; clear hg1 hn1 ho1 hb1)
    | ((with_reducible refine gate_dst (N := 22) rfl ?_); at_builtin; refine Kd.R_append_rows (Kd.int .i32) (w0 := w) w.heap.size rfl (.tmp 20) (.tmp 21) 23 21 (.int .i32 0) 4 rfl Try.underlying23 info21 rfl (by decide) (by omega) v1 [] l _ _ _ (fun _ => True) (fun _ => False) rfl rfl HO1.out (Kd.C_below HC.out HB1.out) (fun _ _ h => h) (fun _ h => h.elim) (fun _ _ => trivial) HB1.out HB1.out.size (by simp; omega) ?_; intro v2 w2 ho2 hb2 hg2 hn2; obtain ⟨A2, c2, rfl, hC2, hc2, _⟩ := own_row ho2 HN.out; have C2 := Aside0.mk hC2; have B2 := Aside0.mk hb2; have K2 := Aside0.mk hc2; clear hg2 hn2 ho2 hb2 hC2; clear hc2)
    | (go_at_call 16; (with_reducible refine (CSl.out _ B2.out).mono ?_); rintro e w' ⟨rfl, rfl⟩)
    | (go_at_call 55; (with_reducible refine (CW1.out _ _ _ C2.out K2.out).mono ?_); rintro e w3 ⟨rfl, hb⟩; have C3 := Aside0.mk (Kd.C_below C2.out hb); have B3 := Aside0.mk (below_step B2.out hb); clear hb)
    | (go_at_call 32; (with_reducible refine (CAt.out _ B3.out).mono ?_); rintro e w' ⟨rfl, rfl⟩)
    | (go_at_call 24; (with_reducible refine (CPa.out _ B3.out).mono ?_); rintro e w4 ⟨rfl, hb⟩; have C4 := Aside0.mk (Kd.C_below C3.out hb); have B4 := Aside0.mk (below_step B3.out hb); clear hb)
    | (go_at_call 55; (with_reducible refine (CW2.out _ _ _ C4.out K2.out).mono ?_); rintro e w5 ⟨rfl, hb⟩; have C5 := Aside0.mk (Kd.C_below C4.out hb); have B5 := Aside0.mk (below_step B4.out hb); clear hb)
    | (go_at_call 56; (with_reducible refine (CRp.out _ _ _ C5.out K2.out).mono ?_); rintro e w6 ⟨rfl, hb⟩; have C6 := Aside0.mk (Kd.C_below C5.out hb); have B6 := Aside0.mk (below_step B5.out hb); clear hb))
  go_ret
  exact ⟨rfl, B6.out⟩
set_option maxRecDepth 100000 in
set_option maxHeartbeats 4000000 in
theorem asked_badover {f t : Int} (hT : RL w b l) (hC : Kd.C (Kd.int .i32) w A n l) (hc : n ≤ c) (hn : l.length = n) (hl : n ≤ 100000) (hr : Runes l) (hsp : spanE (n : Int) f t = 4) (hi : (n : Int) < f) :
    Calls Try.prog 30 #[.pointer (some ⟨b, 0, none⟩), .slice A n c, .int .i64 f, .int .i64 t] w fun e w' => e = .returned (.bool true) ∧ Below w.heap.size w w' := by
  have CSl := Aside0.mk (fun W (hW : Below w.heap.size w W) => Slice_bad_L (hT.below hW) hn hsp (by decide))
  have CW1 := Aside0.mk (fun W A' c' (h : Kd.C (Kd.int .i32) W A' n l) (h' : n ≤ c') => Wrong_n h hn h' (show spanE (n : Int) f t = 4 by exact hsp))
  have CAt := Aside0.mk (fun W (hW : Below w.heap.size w W) => At_out (hT.below hW) hn f (by omega) hl)
  have CPa := Aside0.mk (fun W (hW : Below w.heap.size w W) => Para_bad_L (hT.below hW) hn (show spanE (n : Int) f f = 4 by unfold spanE; rw [if_pos (by omega)]) (by decide))
  have CW2 := Aside0.mk (fun W A' c' (h : Kd.C (Kd.int .i32) W A' n l) (h' : n ≤ c') => Wrong_n h hn h' (show spanE (n : Int) f f = 4 by unfold spanE; rw [if_pos (by omega)]))
  have t1 : decide ((f : Int) < 0) = false := decide_eq_false (by omega)
  have t2 : decide ((n : Int) ≤ (f : Int)) = true := decide_eq_true (by omega)
  have HC := Aside0.mk hC
  have HN := Aside0.mk hn
  clear hT hC hn hr hc hsp
  go_enter Try.func30, Try.ntmps30
  go_wp2_with (first
    | ((with_reducible refine gate_dst (N := 20) rfl ?_); refine Kd.R_lit (Kd.int .i32) w.heap.size 21 rfl (N := 20) rfl (xs := ([] : List Int)) (inner := []) (ok := fun _ => True) (okp := fun _ => True) ?hr (Reps.none _ _) (fun _ hk => hk) trivial (Below.refl _ w) (Nat.le_refl _) (by simp) ?_; (case hr => first | (go_simp; done) | (go_simp; rfl)); intro v1 w1 ho1 hb1 hg1 hn1; have HO1 := Aside0.mk ho1; have HB1 := Aside0.mk hb1; clear hg1 hn1 ho1 hb1)
    | ((with_reducible refine gate_dst (N := 22) rfl ?_); at_builtin; refine Kd.R_append_rows (Kd.int .i32) (w0 := w) w.heap.size rfl (.tmp 20) (.tmp 21) 23 21 (.int .i32 0) 4 rfl Try.underlying23 info21 rfl (by decide) (by omega) v1 [] l _ _ _ (fun _ => True) (fun _ => False) rfl rfl HO1.out (Kd.C_below HC.out HB1.out) (fun _ _ h => h) (fun _ h => h.elim) (fun _ _ => trivial) HB1.out HB1.out.size (by simp; omega) ?_; intro v2 w2 ho2 hb2 hg2 hn2; obtain ⟨A2, c2, rfl, hC2, hc2, _⟩ := own_row ho2 HN.out; have C2 := Aside0.mk hC2; have B2 := Aside0.mk hb2; have K2 := Aside0.mk hc2; clear hg2 hn2 ho2 hb2 hC2; clear hc2)
    | (go_at_call 16; (with_reducible refine (CSl.out _ B2.out).mono ?_); rintro e w' ⟨rfl, rfl⟩)
    | (go_at_call 55; (with_reducible refine (CW1.out _ _ _ C2.out K2.out).mono ?_); rintro e w3 ⟨rfl, hb⟩; have C3 := Aside0.mk (Kd.C_below C2.out hb); have B3 := Aside0.mk (below_step B2.out hb); clear hb)
    | (go_at_call 32; (with_reducible refine (CAt.out _ B3.out).mono ?_); rintro e w' ⟨rfl, rfl⟩)
    | (go_at_call 24; (with_reducible refine (CPa.out _ B3.out).mono ?_); rintro e w' ⟨rfl, rfl⟩)
    | (go_at_call 55; (with_reducible refine (CW2.out _ _ _ C3.out K2.out).mono ?_); rintro e w4 ⟨rfl, hb⟩; have C4 := Aside0.mk (Kd.C_below C3.out hb); have B4 := Aside0.mk (below_step B3.out hb); clear hb))
  go_ret
  exact ⟨rfl, B4.out⟩
theorem asked_L {f t : Int} (hT : RL w b l) (hC : Kd.C (Kd.int .i32) w A n l) (hc : n ≤ c) (hn : l.length = n) (hl : n ≤ 100000) (hr : Runes l) :
    Calls Try.prog 30 #[.pointer (some ⟨b, 0, none⟩), .slice A n c, .int .i64 f, .int .i64 t] w fun e w' => e = .returned (.bool true) ∧ Below w.heap.size w w' := by
  by_cases h : f < 0 ∨ (n : Int) < t ∨ t < f
  · have hsp : spanE (n : Int) f t = 4 := by unfold spanE; rw [if_pos h]
    by_cases h1 : f < 0
    · exact asked_badneg hT hC hc hn hl hr hsp h1
    · obtain ⟨i, rfl⟩ : ∃ i : Nat, f = (i : Int) := ⟨f.toNat, by omega⟩
      rcases Nat.lt_trichotomy i n with h2 | h2 | h2
      · exact asked_badmid hT hC hc hn hl hr hsp h2
      · subst h2
        exact asked_badend hT hC hc hn hl hr hsp
      · exact asked_badover hT hC hc hn hl hr hsp (by omega)
  · obtain ⟨x, rfl⟩ : ∃ i : Nat, f = (i : Int) := ⟨f.toNat, by omega⟩
    obtain ⟨y, rfl⟩ : ∃ i : Nat, t = (i : Int) := ⟨t.toNat, by omega⟩
    by_cases h2 : x < n
    · exact asked_okmid hT hC hc hn hl hr (by omega) (by omega) h2
    · exact asked_okend hT hC hc hn hl hr (by omega) (by omega) (by omega)
end
end Go.Proofs.Ytenjldfflkinkaa.Rop
