/- The contracts of Concat, find, At, ahead, least, Para. -/
import Derived.Test.YtenjldfflkinkaaFGRopE
namespace Go.Proofs.Ytenjldfflkinkaa.Rop
set_option linter.unusedVariables false
set_option linter.unusedSimpArgs false
open Go.RowKit Go.Proofs.Ytenjldfflkinkaa.F Go.Proofs.YtenjldfflkinkaaW.PrintWords Go.Proofs.YtenjldfflkinkaaW.PrintLast Go.Proofs.YtenjldfflkinkaaW.PrintMore

section
variable {w : World} {p : Option Addr} {t : RT}
set_option maxRecDepth 100000 in
set_option maxHeartbeats 2000000 in
theorem Concat_calls {p2 : Option Addr} {u : RT} (h : IsR w p t) (h2 : IsR w p2 u) (hs : t.sz + u.sz ≤ 800000000000000) : Calls Try.prog 26 #[.pointer p, .pointer p2] w (GivesE (RT.glue t u) w) := by
  have hno := none_no h
  have hno2 := none_no h2
  obtain ⟨b, q, rfl, k1, k2, k3, k4⟩ := h
  obtain ⟨b2, q2, rfl, l1, l2, l3, l4⟩ := h2
  have HN := Aside0.mk k4
  have HM := Aside0.mk l4
  clear k4 l4 k2 l2
  go_enter Try.func26, Try.ntmps26
  go_wp2_with (go_at_call 45; (first | (with_reducible refine hno.mono ?_) | (with_reducible refine hno2.mono ?_)); rintro e w' ⟨rfl, rfl⟩)
  go_region_held3 (fun W' => W'.cell? ⟨b, 1, none⟩ = some (.pointer q) ∧ W'.cell? ⟨b2, 1, none⟩ = some (.pointer q2) ∧ Below w.heap.size w W')
    (((try dsimp only); (repeat' apply And.intro); all_goals (first | assumption | exact Below.refl _ _ | exact below_drew1 (Below.refl _ _) | exact below_drew1 (by assumption) | exact below_step (by assumption) (by assumption) | go_keep)))
    (first
      | (go_at_call 43; (with_reducible refine (glue_calls (HN.out.below (by (first | assumption | exact Below.refl _ _ | exact pw_below_drewN (Below.refl _ _) _ | exact below_drew1 (pw_below_drewN (Below.refl _ _) _) | exact below_drew1 (Below.refl _ _) | exact pw_below_drewN (by assumption) _ | exact below_drew1 (by assumption)))) (HM.out.below (by (first | assumption | exact Below.refl _ _ | exact pw_below_drewN (Below.refl _ _) _ | exact below_drew1 (pw_below_drewN (Below.refl _ _) _) | exact below_drew1 (Below.refl _ _) | exact pw_below_drewN (by assumption) _ | exact below_drew1 (by assumption)))) hs).mono ?_); rintro e w1 ⟨p1, rfl, hn1, hb1⟩; have hbt1 := below_step (w := w) (by (first | assumption | exact Below.refl _ _ | exact pw_below_drewN (Below.refl _ _) _ | exact below_drew1 (pw_below_drewN (Below.refl _ _) _) | exact below_drew1 (Below.refl _ _) | exact pw_below_drewN (by assumption) _ | exact below_drew1 (by assumption))) hb1; have m1 := (hbt1.cell (p := ⟨b, 1, none⟩) k1).trans k3; have m2 := (hbt1.cell (p := ⟨b2, 1, none⟩) l1).trans l3)
      | (go_at_call 33; (with_reducible refine (of_calls hn1).mono ?_); rintro e w2 ⟨p3, rfl, hn2, hb2⟩; have hbt2 := below_step (w := w) hbt1 hb2; have m1 := (hbt2.cell (p := ⟨b, 1, none⟩) k1).trans k3; have m2 := (hbt2.cell (p := ⟨b2, 1, none⟩) l1).trans l3))
  go_wp2
  go_ret2
  exact ⟨p3, rfl, hn2, hbt2⟩
set_option maxRecDepth 100000 in
set_option maxHeartbeats 2000000 in
theorem Concat_no1 {p2 : Option Addr} (h : NoR w p) : Calls Try.prog 26 #[.pointer p, .pointer p2] w fun e w' => e = .returned (.tuple #[.pointer none, .int .i64 1]) ∧ w = w' := by
  have hno := none_yes h
  clear h
  go_enter Try.func26, Try.ntmps26
  go_wp2_with (go_at_call 45; (with_reducible refine hno.mono ?_); rintro e w' ⟨rfl, rfl⟩)
  go_ret2
  exact ⟨rfl, rfl⟩
set_option maxRecDepth 100000 in
set_option maxHeartbeats 2000000 in
theorem Concat_no2 {p2 : Option Addr} (h : IsR w p t) (h2 : NoR w p2) : Calls Try.prog 26 #[.pointer p, .pointer p2] w fun e w' => e = .returned (.tuple #[.pointer none, .int .i64 1]) ∧ w = w' := by
  have hno := none_no h
  have hno2 := none_yes h2
  clear h h2
  go_enter Try.func26, Try.ntmps26
  go_wp2_with (go_at_call 45; (first | (with_reducible refine hno.mono ?_) | (with_reducible refine hno2.mono ?_)); rintro e w' ⟨rfl, rfl⟩)
  go_ret2
  exact ⟨rfl, rfl⟩
/-! ### find, At -/
def Finds (x : Int) (w : World) (e : Ending) (w' : World) : Prop := ∃ b, e = .returned (.pointer (some ⟨b, 0, none⟩)) ∧ w.cell? ⟨b, 0, none⟩ = some (.int .i32 x) ∧ w = w'
theorem getD_left {l m : List Int} {c : Int} {j : Nat} (h : j < l.length) : (l ++ c :: m).getD j 0 = l.getD j 0 := by
  simp [List.getD_eq_getElem?_getD, List.getElem?_append_left h]
theorem getD_mid {l m : List Int} {c : Int} {j : Nat} (h : j = l.length) : (l ++ c :: m).getD j 0 = c := by
  subst h
  simp [List.getD_eq_getElem?_getD]
theorem getD_right {l m : List Int} {c : Int} {j k : Nat} (h : j = l.length + 1 + k) : (l ++ c :: m).getD j 0 = m.getD k 0 := by
  subst h
  simp only [List.getD_eq_getElem?_getD]
  rw [List.getElem?_append_right (by omega)]
  have e : l.length + 1 + k - l.length = k + 1 := by omega
  rw [e]
  rfl
set_option maxRecDepth 100000 in
set_option maxHeartbeats 2000000 in
theorem find_calls (h : IsR w p t) (i : Nat) (hi : i < t.sz) (hs : t.sz ≤ 800000000000000) : Calls Try.prog 58 #[.pointer p, .int .i64 (i : Int)] w (Finds (t.toL.getD i 0) w) := by
  obtain ⟨b, q, rfl, k1, k2, k3, k4⟩ := h
  have HN := Aside0.mk k4
  obtain ⟨x, hx⟩ : ∃ x, t.toL.getD i 0 = x := ⟨_, rfl⟩
  rw [hx]
  have HX := Aside0.mk hx
  clear k4 hx k2
  go_enter Try.func58, Try.ntmps58
  go_wp2
  go_loopg [5, 1] t.sz (fun kq v5 v1 w' => ∃ (u : RT) (q : Option Addr) (j : Nat), v5 = .pointer q ∧ v1 = .int .i64 (j : Int) ∧ Aside0 (Nd w q u) ∧ j < u.sz ∧ Aside0 (u.toL.getD j 0 = x) ∧ u.sz ≤ kq ∧ u.sz ≤ 800000000000000 ∧ w = w')
  case atStart => exact ⟨t, q, i, rfl, rfl, HN, hi, HX, Nat.le_refl _, hs, rfl⟩
  case round =>
    obtain ⟨u, q', j, rfl, rfl, HU, hj, HY, hk, hsu, rfl⟩ := hrel
    cases u with
    | nil => simp [RT.sz] at hj
    | node l c r =>
      have hl := RT.toL_len l
      have hy := HY.out
      obtain ⟨g, qa, qb, rfl, hg, c0, c1, c2, c3, c4, c5, hnl, hnr⟩ := HU.out
      have HL := Aside0.mk (show Nd w qa l from hnl)
      have HR := Aside0.mk (show Nd w qb r from hnr)
      have hsz := size_calls HL.out
      clear HU HY c3 c4 c5 hnl hnr
      simp only [RT.sz] at hj hk hsu
      simp only [RT.toL] at hy
      by_cases e1 : j = l.sz
      · subst e1
        rw [getD_mid hl.symm] at hy
        subst hy
        go_wp2_with (go_at_call 46; (with_reducible refine hsz.mono ?_); rintro e w' ⟨rfl, rfl⟩)
        go_ret
        exact ⟨g, rfl, c0, rfl⟩
      · have d1 : ((j : Int) == (l.sz : Int)) = false := by simp; omega
        by_cases e2 : j < l.sz
        · rw [getD_left (by omega)] at hy
          have HY := Aside0.mk hy
          have d2 : decide ((j : Int) < (l.sz : Int)) = true := decide_eq_true (by omega)
          clear hy
          go_wp2_with (go_at_call 46; (with_reducible refine hsz.mono ?_); rintro e w' ⟨rfl, rfl⟩)
          all_goals
            go_roundg (gk - 1)
            case measure => omega
            case rel => exact ⟨l, qa, j, rfl, rfl, HL, e2, HY, by omega, by omega, rfl⟩
        · obtain ⟨k, hk2⟩ : ∃ k, j = l.sz + 1 + k := ⟨j - l.sz - 1, by omega⟩
          rw [getD_right (k := k) (by omega)] at hy
          have HY := Aside0.mk hy
          have d2 : decide ((j : Int) < (l.sz : Int)) = false := decide_eq_false (by omega)
          clear hy
          have hjb : (j : Int) ≤ 800000000000000 := by omega
          have hlb : (l.sz : Int) ≤ 800000000000000 := by omega
          go_wp2_with (go_at_call 46; (with_reducible refine hsz.mono ?_); rintro e w' ⟨rfl, rfl⟩)
          all_goals
            go_roundg (gk - 1)
            case measure => omega
            case rel => exact ⟨r, qb, k, rfl, by congr 1; omega, HR, by omega, HY, by omega, by omega, rfl⟩
theorem At_calls (h : IsR w p t) (i : Int) (hs : t.sz ≤ 800000000000000) : Calls Try.prog 32 #[.pointer p, .int .i64 i] w fun e w' => e = .returned (.tuple (if 0 ≤ i ∧ i < (t.sz : Int) then #[.int .i32 (t.toL.getD i.toNat 0), .int .i64 0] else #[.int .i32 0, .int .i64 4])) ∧ w = w' := by
  have hno := none_no h
  have hlen := Len_calls h
  by_cases h1 : i < 0
  · have h1' : decide (i < 0) = true := decide_eq_true h1
    rw [if_neg (by omega)]
    clear h
    go_enter Try.func32, Try.ntmps32
    go_wp2_with (first
      | (go_at_call 45; (with_reducible refine hno.mono ?_); rintro e w' ⟨rfl, rfl⟩)
      | (go_at_call 17; (with_reducible refine hlen.mono ?_); rintro e w' ⟨rfl, rfl⟩))
    go_ret2
    exact ⟨rfl, rfl⟩
  · have h1' : decide (i < 0) = false := decide_eq_false h1
    by_cases h2 : (t.sz : Int) ≤ i
    · have h2' : decide ((t.sz : Int) ≤ i) = true := decide_eq_true h2
      rw [if_neg (by omega)]
      clear h
      go_enter Try.func32, Try.ntmps32
      go_wp2_with (first
        | (go_at_call 45; (with_reducible refine hno.mono ?_); rintro e w' ⟨rfl, rfl⟩)
        | (go_at_call 17; (with_reducible refine hlen.mono ?_); rintro e w' ⟨rfl, rfl⟩))
      go_ret2
      exact ⟨rfl, rfl⟩
    · have h2' : decide ((t.sz : Int) ≤ i) = false := decide_eq_false h2
      obtain ⟨j, rfl⟩ : ∃ j : Nat, i = (j : Int) := ⟨i.toNat, by omega⟩
      rw [if_pos (by omega), Int.toNat_natCast]
      have hf := find_calls h j (by omega) hs
      clear h
      go_enter Try.func32, Try.ntmps32
      go_wp2_with (first
        | (go_at_call 45; (with_reducible refine hno.mono ?_); rintro e w' ⟨rfl, rfl⟩)
        | (go_at_call 17; (with_reducible refine hlen.mono ?_); rintro e w' ⟨rfl, rfl⟩)
        | (go_at_call 58; (with_reducible refine hf.mono ?_); rintro e w' ⟨b, rfl, hcell, rfl⟩))
      go_ret2
      exact ⟨rfl, rfl⟩
theorem At_no (h : NoR w p) (i : Int) : Calls Try.prog 32 #[.pointer p, .int .i64 i] w fun e w' => e = .returned (.tuple #[.int .i32 0, .int .i64 1]) ∧ w = w' := by
  have hno := none_yes h
  clear h
  go_enter Try.func32, Try.ntmps32
  go_wp2_with (go_at_call 45; (with_reducible refine hno.mono ?_); rintro e w' ⟨rfl, rfl⟩)
  go_ret2
  exact ⟨rfl, rfl⟩
/-! ### ahead, least, Para -/
/-- how many separators stand ahead of a place -/
def cnt (l : List Int) (i : Nat) : Nat := (l.take i).countP sep
theorem cnt_mono (l : List Int) {i j : Nat} (h : i ≤ j) : cnt l i ≤ cnt l j := by
  unfold cnt
  have e : l.take i = (l.take j).take i := by rw [List.take_take, Nat.min_eq_left h]
  rw [e]
  exact List.Sublist.countP_le (List.take_sublist _ _)
theorem cnt_le (l : List Int) (i : Nat) : cnt l i ≤ l.length := by
  unfold cnt
  exact Nat.le_trans List.countP_le_length (by simp; omega)
def Counts (n : Nat) (w : World) (e : Ending) (w' : World) : Prop := e = .returned (.int .i64 (n : Int)) ∧ Below w.heap.size w w'
theorem ahead_calls (h : IsR w p t) (i : Nat) (hi : i ≤ t.sz) (hs : t.sz ≤ 800000000000000) : Calls Try.prog 51 #[.pointer p, .int .i64 (i : Int)] w (Counts (cnt t.toL i) w) := by
  obtain ⟨g, q, rfl, k1, k2, k3, k4⟩ := h
  have hcut := cut_calls t (i : Int) (by omega) (by omega) (by omega) k4
  have hc : cnt t.toL i = (RT.cut t (i : Int)).1.bk sep := by rw [RT.bk_count, (RT.cut_toL t i hi).1]; rfl
  rw [hc]
  generalize RT.cut t (i : Int) = xy at hcut ⊢
  obtain ⟨x, y⟩ := xy
  simp only at hcut ⊢
  clear k4 hc
  go_enter Try.func51, Try.ntmps51
  go_wp2_with (first
    | (go_at_call 42; (with_reducible refine hcut.mono ?_); rintro e w1 ⟨p1, q1, rfl, hn1, hm1, hb1⟩)
    | (go_at_call 50; (with_reducible refine (breaks_calls hn1).mono ?_); rintro e w2 ⟨rfl, rfl⟩))
  go_ret
  exact ⟨rfl, hb1⟩
def Leasts (l : List Int) (n : Nat) (want : Int) (w : World) (e : Ending) (w' : World) : Prop := ∃ k : Nat, e = .returned (.int .i64 (k : Int)) ∧ k ≤ n ∧ (∀ m, m < k → (cnt l m : Int) < want) ∧ (k < n → want ≤ (cnt l k : Int)) ∧ Below w.heap.size w w'
set_option maxRecDepth 100000 in
set_option maxHeartbeats 2000000 in
theorem least_calls (h : IsR w p t) (want : Int) (hs : t.sz ≤ 800000000000000) : Calls Try.prog 52 #[.int .i64 (t.sz : Int), .func (.func 51) #[.pointer p] #[], .int .i64 want] w (Leasts t.toL t.sz want w) := by
  have HR := Aside0.mk h
  clear h
  obtain ⟨n, hn⟩ : ∃ n, t.sz = n := ⟨_, rfl⟩
  rw [hn]
  rw [hn] at hs
  have HN := Aside0.mk hn
  clear hn
  go_enter Try.func52, Try.ntmps52
  go_wp2
  go_loopw [0, 7] (fun j i wr => ∃ lo hi : Nat, i = .int .i64 (lo : Int) ∧ j = .int .i64 (hi : Int) ∧ lo ≤ hi ∧ hi ≤ n ∧ Aside0 (∀ m, m < lo → (cnt t.toL m : Int) < want) ∧ Aside0 (hi < n → want ≤ (cnt t.toL hi : Int)) ∧ Aside0 (Below w.heap.size w wr)) (fun j i _ => (intOf j - intOf i).toNat)
  case atStart => exact ⟨0, n, rfl, rfl, by omega, by omega, ⟨fun m h => by omega⟩, ⟨fun h => by omega⟩, ⟨Below.refl _ _⟩⟩
  case round =>
    obtain ⟨lo, hi, rfl, rfl, h1, h2, A1, A2, HB⟩ := hrel
    by_cases hlt : lo < hi
    · have hb1 : ((lo : Int) + hi) / 2 < hi := by omega
      have hb2 : (lo : Int) ≤ ((lo : Int) + hi) / 2 := by omega
      obtain ⟨m, hm⟩ : ∃ m : Nat, ((lo : Int) + hi) / 2 = (m : Int) := ⟨(((lo : Int) + hi) / 2).toNat, by omega⟩
      have hm1 : m < hi := by omega
      have hm2 : lo ≤ m := by omega
      have hlt' : (lo : Int) < (hi : Int) := by omega
      have hlob : (lo : Int) ≤ 800000000000000 := by omega
      have hhib : (hi : Int) ≤ 800000000000000 := by omega
      have hcall := fun W (hW : Below w.heap.size w W) => ahead_calls (HR.out.below hW) m (by have := HN.out; omega) (by have := HN.out; omega)
      have HC := Aside0.mk hcall
      clear hcall hb1 hb2
      obtain ⟨k, hk⟩ : ∃ k, cnt t.toL m = k := ⟨_, rfl⟩
      have HK := Aside0.mk hk
      by_cases hw : want ≤ (k : Int)
      · have hw' : decide (want ≤ (k : Int)) = true := decide_eq_true hw
        clear hk
        go_wp2_with (first
          | (go_at_call 51; (with_reducible refine (HC.out _ HB.out).mono ?_); rintro e w2 ⟨rfl, hb2⟩; rw [HK.out]))
        go_roundw
        case rel => exact ⟨lo, m, rfl, rfl, hm2, by omega, A1, ⟨fun _ => by rw [HK.out]; exact hw⟩, ⟨below_step HB.out hb2⟩⟩
        case measure => simp [intOf] <;> omega
      · have hw' : decide (want ≤ (k : Int)) = false := decide_eq_false hw
        clear hk
        go_wp2_with (first
          | (go_at_call 51; (with_reducible refine (HC.out _ HB.out).mono ?_); rintro e w2 ⟨rfl, hb2⟩; rw [HK.out]))
        go_roundw
        case rel => exact ⟨m + 1, hi, by simp, rfl, by omega, h2, ⟨fun j hj => by
          have := cnt_mono t.toL (i := j) (j := m) (by omega)
          rw [HK.out] at this
          omega⟩, A2, ⟨below_step HB.out hb2⟩⟩
        case measure => simp [intOf] <;> omega
    · have hge : ¬ (lo : Int) < (hi : Int) := by omega
      obtain rfl : lo = hi := by omega
      go_wp2_with fail
      go_ret
      exact ⟨lo, rfl, h2, A1.out, A2.out, HB.out⟩
/-- the number and the places of a place's paragraph -/
def IsPara (l : List Int) (i : Nat) (n a b : Nat) : Prop := n = cnt l i ∧ a ≤ l.length ∧ (∀ m, m < a → cnt l m < n) ∧ (a < l.length → n ≤ cnt l a) ∧ b ≤ l.length ∧ (∀ m, m < b → cnt l m ≤ n) ∧ (b < l.length → n + 1 ≤ cnt l b)
def GivesP (l : List Int) (i : Nat) (w : World) (e : Ending) (w' : World) : Prop := ∃ n a b : Nat, e = .returned (.tuple #[.int .i64 (n : Int), .int .i64 (a : Int), .int .i64 (b : Int), .int .i64 0]) ∧ IsPara l i n a b ∧ Below w.heap.size w w'
set_option maxRecDepth 100000 in
set_option maxHeartbeats 2000000 in
theorem Para_calls (h : IsR w p t) (i : Nat) (hi : i ≤ t.sz) (hs : t.sz ≤ 800000000000000) : Calls Try.prog 24 #[.pointer p, .int .i64 (i : Int)] w (GivesP t.toL i w) := by
  have hsp := span_calls h (i : Int) (i : Int)
  have e0 : spanE (t.sz : Int) (i : Int) (i : Int) = 0 := by unfold spanE; rw [if_neg (by omega)]
  rw [e0] at hsp
  have hah := ahead_calls h i hi hs
  have hcb := cnt_le t.toL i
  rw [RT.toL_len] at hcb
  have HR := Aside0.mk h
  obtain ⟨n, hn⟩ : ∃ n, cnt t.toL i = n := ⟨_, rfl⟩
  rw [hn] at hah hcb
  have HN := Aside0.mk hn
  have hnb : (n : Int) ≤ 800000000000000 := by omega
  clear e0 h hn
  go_enter Try.func24, Try.ntmps24
  go_wp2_with (first
    | (go_at_call 41; (with_reducible refine hsp.mono ?_); rintro e w' ⟨rfl, rfl⟩)
    | (go_at_call 51; (with_reducible refine hah.mono ?_); rintro e w1 ⟨rfl, hb1⟩; have HR1 := Aside0.mk (HR.out.below hb1))
    | (go_at_call 17; (first | (with_reducible refine (Len_calls HR1.out).mono ?_) | (with_reducible refine (Len_calls HR2.out).mono ?_)); rintro e w' ⟨rfl, rfl⟩)
    | (go_at_call 52; (with_reducible refine (least_calls HR1.out (n : Int) hs).mono ?_); rintro e w2 ⟨a, rfl, ha1, ha2, ha3, hb2⟩; have HR2 := Aside0.mk (HR1.out.below hb2); have HA2 := Aside0.mk ha2; have HA3 := Aside0.mk ha3; clear ha2 ha3)
    | (go_at_call 52; (with_reducible refine (least_calls HR2.out ((n : Int) + 1) hs).mono ?_); rintro e w3 ⟨b, rfl, ha4, ha5, ha6, hb3⟩; have HA5 := Aside0.mk ha5; have HA6 := Aside0.mk ha6; clear ha5 ha6))
  refine bodyPost_ret (v := .tuple #[.int .i64 (n : Int), .int .i64 (a : Int), .int .i64 (b : Int), .int .i64 0]) (by simp [results, Try.results24, go_sem]) rfl ?_
  have ht := RT.toL_len t
  refine ⟨n, a, b, rfl, ⟨HN.out.symm, by omega, fun m hm => by have := HA2.out m hm; omega, fun h => by have := HA3.out (by omega); omega, by omega, fun m hm => by have := HA5.out m hm; omega, fun h => by have := HA6.out (by omega); omega⟩, below_step (below_step hb1 hb2) hb3⟩
set_option maxRecDepth 100000 in
set_option maxHeartbeats 2000000 in
theorem Para_bad {i : Int} {x : Int} (hx : x ≠ 0) (hsp : Calls Try.prog 41 #[.pointer p, .int .i64 i, .int .i64 i] w fun e w' => e = .returned (.int .i64 x) ∧ w = w') :
    Calls Try.prog 24 #[.pointer p, .int .i64 i] w fun e w' => e = .returned (.tuple #[.int .i64 0, .int .i64 0, .int .i64 0, .int .i64 x]) ∧ w = w' := by
  have hx1 : (x != 0) = true := by simpa using hx
  go_enter Try.func24, Try.ntmps24
  go_wp2_with (go_at_call 41; (with_reducible refine hsp.mono ?_); rintro e w' ⟨rfl, rfl⟩)
  exact bodyPost_ret (v := .tuple #[.int .i64 0, .int .i64 0, .int .i64 0, .int .i64 x]) (by simp [results, Try.results24, go_sem]) rfl ⟨rfl, rfl⟩
end
end Go.Proofs.Ytenjldfflkinkaa.Rop
