/- pick.Runs by its contract: the iterator over the stretches of marked columns, and the loop over it. -/
import Derived.RangeFuncNested
import Derived.RangeFuncBound
import Derived.RangeFuncCalls
import Derived.RangeFuncLeaves
import Derived.RangeFuncBox
import Derived.Shelf.Abstract
import Derived.WalkKit
import Derived.OwnWalkIn
import Derived.TacticsInMore
import Derived.LoopNIn
import Derived.LoopIn
import Derived.Maps.AppendAt
import Derived.Sort.BigQuietIn
import Derived.Test.YtccleelhheilnaaFGOrd
import Derived.Test.YtccleelhheilnaaOrdT
namespace Go.Proofs.Ytccleelhheilnaa.F
set_option linter.unusedVariables false
set_option linter.unusedSimpArgs false
open Go.RowKit Go.Shelf Go.Proofs.YtccleelhheilnaaW.PrintWords Go.Proofs.YtccleelhheilnaaW.PrintLast Go.Proofs.YtccleelhheilnaaW.PrintMore

attribute [local go_sem] Oper.semAt_some

/-! ### stretches, over lists -/
def inB (fr te x : Int) : Bool := decide (fr ≤ x ∧ x < te)
/-- after n rounds: the stretches told, and where the next one begins -/
def strF (l : List Int) (fr te : Int) : Nat → List S45 × Nat
  | 0 => ([], 0)
  | n + 1 => if n < l.length ∧ inB fr te (l.getD n 0) = true then strF l fr te n
    else (if (strF l fr te n).2 < n then (strF l fr te n).1 ++ [⟨((strF l fr te n).2 : Int), (n : Int)⟩] else (strF l fr te n).1, n + 1)
def strs (l : List Int) (fr te : Int) : List S45 := (strF l fr te (l.length + 1)).1
theorem str_in {l : List Int} {fr te : Int} {n : Nat} (h : n < l.length) (hi : inB fr te (l.getD n 0) = true) : strF l fr te (n + 1) = strF l fr te n := by
  rw [strF, if_pos ⟨h, hi⟩]
theorem str_out {l : List Int} {fr te : Int} {n : Nat} (h : ¬ (n < l.length ∧ inB fr te (l.getD n 0) = true)) (hb : (strF l fr te n).2 < n) : strF l fr te (n + 1) = ((strF l fr te n).1 ++ [⟨((strF l fr te n).2 : Int), (n : Int)⟩], n + 1) := by
  rw [strF, if_neg h, if_pos hb]
theorem str_skip {l : List Int} {fr te : Int} {n : Nat} (h : ¬ (n < l.length ∧ inB fr te (l.getD n 0) = true)) (hb : ¬ (strF l fr te n).2 < n) : strF l fr te (n + 1) = ((strF l fr te n).1, n + 1) := by
  rw [strF, if_neg h, if_neg hb]
theorem str_begin (l : List Int) (fr te : Int) : ∀ n, (strF l fr te n).2 ≤ n
  | 0 => Nat.le_refl _
  | n + 1 => by
    have := str_begin l fr te n
    rw [strF]
    split
    · omega
    · exact Nat.le_refl _
theorem str_len (l : List Int) (fr te : Int) : ∀ n, (strF l fr te n).1.length ≤ n
  | 0 => Nat.le_refl _
  | n + 1 => by
    have := str_len l fr te n
    rw [strF]
    split
    · omega
    · show (if _ then _ else _ : List S45).length ≤ _
      split
      · rw [List.length_append, List.length_singleton]; omega
      · omega
theorem str_half (l : List Int) (fr te : Int) : ∀ n, 2 * (strF l fr te n).1.length ≤ (strF l fr te n).2
  | 0 => Nat.le_refl _
  | n + 1 => by
    have ih := str_half l fr te n
    have hb2 := str_begin l fr te n
    by_cases h : n < l.length ∧ inB fr te (l.getD n 0) = true
    · rw [str_in h.1 h.2]
      exact ih
    · by_cases hb : (strF l fr te n).2 < n
      · rw [str_out h hb]
        show 2 * ((strF l fr te n).1 ++ [_]).length ≤ n + 1
        rw [List.length_append, List.length_singleton]
        omega
      · rw [str_skip h hb]
        show 2 * (strF l fr te n).1.length ≤ n + 1
        omega
theorem str_prefix (l : List Int) (fr te : Int) : ∀ {k m : Nat}, k ≤ m → ∃ r, (strF l fr te m).1 = (strF l fr te k).1 ++ r := by
  intro k m h
  obtain ⟨d, rfl⟩ : ∃ d, m = k + d := ⟨m - k, by omega⟩
  clear h
  induction d with
  | zero => exact ⟨[], by simp⟩
  | succ d ih =>
    obtain ⟨r, hr⟩ := ih
    rw [show k + (d + 1) = (k + d) + 1 from rfl]
    by_cases h : k + d < l.length ∧ inB fr te (l.getD (k + d) 0) = true
    · rw [str_in h.1 h.2]
      exact ⟨r, hr⟩
    · by_cases hb : (strF l fr te (k + d)).2 < k + d
      · rw [str_out h hb]
        exact ⟨r ++ [⟨((strF l fr te (k + d)).2 : Int), ((k + d : Nat) : Int)⟩], by rw [hr, List.append_assoc]⟩
      · rw [str_skip h hb]
        exact ⟨r, hr⟩

/-- what a round keeps: the three boxes behind the one that it writes -/
def Kpr (B : Nat) (A C : World) : Prop := Below B A C ∧ ∀ k, B < k → k ≤ B + 3 → C.heap[k]? = A.heap[k]?
theorem kpr_t {B : Nat} {A C D : World} (h : Kpr B A C) (k : Kpr B C D) : Kpr B A D := ⟨h.1.trans k.1, fun j h1 h2 => (k.2 j h1 h2).trans (h.2 j h1 h2)⟩
theorem kpr_cell {B : Nat} {A C : World} (h : Kpr B A C) {k : Nat} (h1 : B < k) (h2 : k ≤ B + 3) {v : Value} (hc : A.cell? ⟨k, 0, none⟩ = some v) : C.cell? ⟨k, 0, none⟩ = some v := by
  have := h.2 k h1 h2
  unfold World.cell? at hc ⊢
  simp only at hc ⊢
  rw [this]
  exact hc

set_option maxRecDepth 100000 in
set_option maxHeartbeats 4000000 in
theorem str1_in (n : Nat) (hn : 1 ≤ n) (lp B c : Nat) (A : Option Addr) (zs : List Int) (fr te : Int) (w0 W : World) (hw0 : w0.heap.size = B) (hC : Kd.C (Kd.int .i64) w0 A zs.length zs) (hlen : zs.length ≤ 17592186043904) (J Jx : List S45 → World → Prop) (hJ : AbidesFrom W.heap.size J)
    (hY : ∀ pre x W1, J pre W1 → pre.length < (zs.length + 1) / 2 → YieldAt Fence.wide (n - 1) Try.prog lp #[.int .i64 x.f0, .int .i64 x.f1] W1 fun e W' =>
      (e = .returned (.bool true) ∧ J (pre ++ [x]) W' ∧ Kpr B W1 W') ∨ (e = .returned (.bool false) ∧ Jx (pre ++ [x]) W'))
    (hB : Below B w0 W) (hBs : W.cell? ⟨B + 1, 0, none⟩ = some (.slice A zs.length c)) (hBf : W.cell? ⟨B + 2, 0, none⟩ = some (.int .i64 fr)) (hBt : W.cell? ⟨B + 3, 0, none⟩ = some (.int .i64 te)) (h0 : J [] W) :
    CallsIn Fence.wide n Try.prog 84 #[.func (.yield lp) #[] #[], .pointer (some ⟨B + 1, 0, none⟩), .pointer (some ⟨B + 2, 0, none⟩), .pointer (some ⟨B + 3, 0, none⟩)] W fun e W' => (∃ v, e = .returned v) ∧
      ((∃ ys, ys = strs zs fr te ∧ J ys W') ∨ (∃ pre, (∃ k, k ≤ zs.length + 1 ∧ pre = (strF zs fr te k).1) ∧ Jx pre W')) := by
  subst hw0
  refine callsIn_of_wp Try.func84 rfl trivial ?_ rfl
  simp only [Try.ntmps84, List.size_toArray, List.length_cons, List.length_nil, Nat.reduceAdd, Nat.reduceSub, Array.replicate_succ, Array.replicate_zero, List.push_toArray, List.append_toArray, List.nil_append, List.cons_append]
  gi_wp2
  gi_loopw [5, 6] (fun b i wr => ∃ k : Nat, k ≤ zs.length + 1 ∧ b = .int .i64 ((strF zs fr te k).2 : Nat) ∧ i = .int .i64 k ∧ Aside0 (J (strF zs fr te k).1 wr) ∧ Aside0 (Below w0.heap.size w0 wr) ∧ Aside0 (wr.cell? ⟨w0.heap.size + 1, 0, none⟩ = some (.slice A zs.length c)) ∧ Aside0 (wr.cell? ⟨w0.heap.size + 2, 0, none⟩ = some (.int .i64 fr)) ∧ Aside0 (wr.cell? ⟨w0.heap.size + 3, 0, none⟩ = some (.int .i64 te)))
    (fun _ i _ => zs.length + 1 - (intOf i).toNat)
  case atStart => exact ⟨0, Nat.zero_le _, rfl, rfl, ⟨h0⟩, ⟨hB⟩, ⟨hBs⟩, ⟨hBf⟩, ⟨hBt⟩⟩
  case round =>
    obtain ⟨k, hk, rfl, rfl, HJ, HB, H1, H2, H3⟩ := hrel
    by_cases hlt : k ≤ zs.length
    · have hbg := str_begin zs fr te k
      obtain ⟨bg, hbgv⟩ : ∃ bg, (strF zs fr te k).2 = bg := ⟨_, rfl⟩
      rw [hbgv] at hbg
      rw [hbgv]
      have h1 := H1.out
      have h2 := H2.out
      have h3 := H3.out
      have hkm : k ≤ 17592186043904 := by omega
      have HK := Aside0.mk hk
      clear hk
      by_cases hlt2 : k < zs.length
      · obtain ⟨ad, rfl, hcx⟩ := num_read64 (Kd.C_below hC HB.out) (k : Int) (by omega) (by omega)
        rw [Int.toNat_natCast] at hcx
        obtain ⟨x, hx⟩ : ∃ x, rd zs (k : Int) = x := ⟨_, rfl⟩
        rw [hx] at hcx
        have hx' : zs.getD k 0 = x := by rw [← hx]; simp only [rd, Int.toNat_natCast]
        have HX := Aside0.mk hx'
        clear hx hx'
        by_cases hx1 : x ≥ fr
        · by_cases hx2 : x < te
          · -- marked
            have hs := str_in (fr := fr) (te := te) hlt2 (by rw [HX.out]; unfold inB; exact decide_eq_true ⟨hx1, hx2⟩)
            have HS := Aside0.mk hs
            clear hs
            gi_wp2
            gi_big_quiet_th (skip)
            gi_wp2
            refine ⟨⟨k + 1, by omega, by rw [HS.out, hbgv], by go_num, ⟨?_⟩, ⟨pw_below_drewN HB.out _⟩, ⟨H1.out⟩, ⟨H2.out⟩, ⟨H3.out⟩⟩, by simp [intOf] <;> omega⟩
            rw [HS.out]
            exact hJ _ _ _ none HJ.out (grown_of_below (pw_below_drewN (Below.refl wr.heap.size wr) nq) none) (fun r e => by cases e)
          · -- not marked, by the upper bound
            have hs : Aside0 (strF zs fr te (k + 1) = if bg < k then ((strF zs fr te k).1 ++ [⟨(bg : Int), (k : Int)⟩], k + 1) else ((strF zs fr te k).1, k + 1)) := ⟨by
              have hnm : ¬ (k < zs.length ∧ inB fr te (zs.getD k 0) = true) := fun h => by rw [HX.out] at h; unfold inB at h; have := of_decide_eq_true h.2; omega
              by_cases hb : (strF zs fr te k).2 < k
              · rw [str_out hnm hb, hbgv, if_pos (by rw [← hbgv]; exact hb)]
              · rw [str_skip hnm hb, if_neg (by rw [← hbgv]; exact hb)]⟩
            have HBG := Aside0.mk hbgv
            clear hbgv
            gi_wp2
            gi_big_quiet_th (skip)
            have hJ2 := hJ _ _ _ none HJ.out (grown_of_below (pw_below_drewN (Below.refl wr.heap.size wr) nq) none) (fun r e => by cases e)
            have HB2 := Aside0.mk (pw_below_drewN HB.out nq)
            by_cases hbk : bg < k
            · have hst : strF zs fr te (k + 1) = ((strF zs fr te k).1 ++ [⟨(bg : Int), (k : Int)⟩], k + 1) := by rw [hs.out, if_pos hbk]
              have HST := Aside0.mk hst
              have hlen3 : (strF zs fr te k).1.length < (zs.length + 1) / 2 := by have := str_half zs fr te k; rw [HBG.out] at this; omega
              obtain ⟨fn, tmps, assign, body, hy, hR⟩ := hY (strF zs fr te k).1 ⟨(bg : Int), (k : Int)⟩ _ hJ2 hlen3
              clear hst hs
              gi_wp2
              refine hR.mono ?_
              rintro e W3 (⟨rfl, hJ3, hk3⟩ | ⟨rfl, hJx3⟩)
              · gi_wp2
                refine ⟨⟨k + 1, by omega, by rw [HST.out]; go_num, by go_num, ⟨by rw [HST.out]; exact hJ3⟩, ⟨HB2.out.trans hk3.1⟩, ⟨kpr_cell hk3 (by omega) (by omega) H1.out⟩, ⟨kpr_cell hk3 (by omega) (by omega) H2.out⟩, ⟨kpr_cell hk3 (by omega) (by omega) H3.out⟩⟩, by simp [intOf] <;> omega⟩
              · gi_wp2
                refine bodyPost_ret (results_none rfl _ _ _) rfl ?_
                exact ⟨⟨_, rfl⟩, .inr ⟨_, ⟨k + 1, by omega, by rw [HST.out]⟩, hJx3⟩⟩
            · have hst : strF zs fr te (k + 1) = ((strF zs fr te k).1, k + 1) := by rw [hs.out, if_neg hbk]
              have HST := Aside0.mk hst
              clear hst hs
              gi_wp2
              refine ⟨fun _ h => (by cases h), ?_⟩
              gi_wp2
              refine ⟨⟨k + 1, by omega, by rw [HST.out]; go_num, by go_num, ⟨by rw [HST.out]; exact hJ2⟩, HB2, ⟨H1.out⟩, ⟨H2.out⟩, ⟨H3.out⟩⟩, by simp [intOf] <;> omega⟩
        · -- not marked, by the lower bound
          have hx3 : x < fr := by omega
          have hx5 : decide (fr ≤ x) = false := decide_eq_false (by omega)
          have hx6 : decide (x ≥ fr) = false := decide_eq_false hx1
          have hs : Aside0 (strF zs fr te (k + 1) = if bg < k then ((strF zs fr te k).1 ++ [⟨(bg : Int), (k : Int)⟩], k + 1) else ((strF zs fr te k).1, k + 1)) := ⟨by
            have hnm : ¬ (k < zs.length ∧ inB fr te (zs.getD k 0) = true) := fun h => by rw [HX.out] at h; unfold inB at h; have := of_decide_eq_true h.2; omega
            by_cases hb : (strF zs fr te k).2 < k
            · rw [str_out hnm hb, hbgv, if_pos (by rw [← hbgv]; exact hb)]
            · rw [str_skip hnm hb, if_neg (by rw [← hbgv]; exact hb)]⟩
          have HBG := Aside0.mk hbgv
          clear hbgv
          gi_wp2
          gi_big_quiet_th (skip)
          have hJ2 := hJ _ _ _ none HJ.out (grown_of_below (pw_below_drewN (Below.refl wr.heap.size wr) nq) none) (fun r e => by cases e)
          have HB2 := Aside0.mk (pw_below_drewN HB.out nq)
          by_cases hbk : bg < k
          · have hst : strF zs fr te (k + 1) = ((strF zs fr te k).1 ++ [⟨(bg : Int), (k : Int)⟩], k + 1) := by rw [hs.out, if_pos hbk]
            have HST := Aside0.mk hst
            have hlen3 : (strF zs fr te k).1.length < (zs.length + 1) / 2 := by have := str_half zs fr te k; rw [HBG.out] at this; omega
            obtain ⟨fn, tmps, assign, body, hy, hR⟩ := hY (strF zs fr te k).1 ⟨(bg : Int), (k : Int)⟩ _ hJ2 hlen3
            clear hst hs
            gi_wp2
            refine hR.mono ?_
            rintro e W3 (⟨rfl, hJ3, hk3⟩ | ⟨rfl, hJx3⟩)
            · gi_wp2
              refine ⟨⟨k + 1, by omega, by rw [HST.out]; go_num, by go_num, ⟨by rw [HST.out]; exact hJ3⟩, ⟨HB2.out.trans hk3.1⟩, ⟨kpr_cell hk3 (by omega) (by omega) H1.out⟩, ⟨kpr_cell hk3 (by omega) (by omega) H2.out⟩, ⟨kpr_cell hk3 (by omega) (by omega) H3.out⟩⟩, by simp [intOf] <;> omega⟩
            · gi_wp2
              refine bodyPost_ret (results_none rfl _ _ _) rfl ?_
              exact ⟨⟨_, rfl⟩, .inr ⟨_, ⟨k + 1, by omega, by rw [HST.out]⟩, hJx3⟩⟩
          · have hst : strF zs fr te (k + 1) = ((strF zs fr te k).1, k + 1) := by rw [hs.out, if_neg hbk]
            have HST := Aside0.mk hst
            clear hst hs
            gi_wp2
            refine ⟨fun _ h => (by cases h), ?_⟩
            gi_wp2
            refine ⟨⟨k + 1, by omega, by rw [HST.out]; go_num, by go_num, ⟨by rw [HST.out]; exact hJ2⟩, HB2, ⟨H1.out⟩, ⟨H2.out⟩, ⟨H3.out⟩⟩, by simp [intOf] <;> omega⟩
      · -- behind the last column
        have hge : zs.length ≤ k := by omega
        have hge2 : ¬ (k : Int) < (zs.length : Int) := by omega
        have hs : Aside0 (strF zs fr te (k + 1) = if bg < k then ((strF zs fr te k).1 ++ [⟨(bg : Int), (k : Int)⟩], k + 1) else ((strF zs fr te k).1, k + 1)) := ⟨by
          have hnm : ¬ (k < zs.length ∧ inB fr te (zs.getD k 0) = true) := fun h => hlt2 h.1
          by_cases hb : (strF zs fr te k).2 < k
          · rw [str_out hnm hb, hbgv, if_pos (by rw [← hbgv]; exact hb)]
          · rw [str_skip hnm hb, if_neg (by rw [← hbgv]; exact hb)]⟩
        have HBG := Aside0.mk hbgv
        clear hbgv
        gi_wp2
        gi_big_quiet_th (skip)
        have hJ2 := hJ _ _ _ none HJ.out (grown_of_below (pw_below_drewN (Below.refl wr.heap.size wr) nq) none) (fun r e => by cases e)
        have HB2 := Aside0.mk (pw_below_drewN HB.out nq)
        by_cases hbk : bg < k
        · have hst : strF zs fr te (k + 1) = ((strF zs fr te k).1 ++ [⟨(bg : Int), (k : Int)⟩], k + 1) := by rw [hs.out, if_pos hbk]
          have HST := Aside0.mk hst
          have hlen3 : (strF zs fr te k).1.length < (zs.length + 1) / 2 := by have := str_half zs fr te k; rw [HBG.out] at this; omega
          obtain ⟨fn, tmps, assign, body, hy, hR⟩ := hY (strF zs fr te k).1 ⟨(bg : Int), (k : Int)⟩ _ hJ2 hlen3
          clear hst hs
          gi_wp2
          refine hR.mono ?_
          rintro e W3 (⟨rfl, hJ3, hk3⟩ | ⟨rfl, hJx3⟩)
          · gi_wp2
            refine ⟨⟨k + 1, by omega, by rw [HST.out]; go_num, by go_num, ⟨by rw [HST.out]; exact hJ3⟩, ⟨HB2.out.trans hk3.1⟩, ⟨kpr_cell hk3 (by omega) (by omega) H1.out⟩, ⟨kpr_cell hk3 (by omega) (by omega) H2.out⟩, ⟨kpr_cell hk3 (by omega) (by omega) H3.out⟩⟩, by simp [intOf] <;> omega⟩
          · gi_wp2
            refine bodyPost_ret (results_none rfl _ _ _) rfl ?_
            exact ⟨⟨_, rfl⟩, .inr ⟨_, ⟨k + 1, by omega, by rw [HST.out]⟩, hJx3⟩⟩
        · have hst : strF zs fr te (k + 1) = ((strF zs fr te k).1, k + 1) := by rw [hs.out, if_neg hbk]
          have HST := Aside0.mk hst
          clear hst hs
          gi_wp2
          refine ⟨fun _ h => (by cases h), ?_⟩
          gi_wp2
          refine ⟨⟨k + 1, by omega, by rw [HST.out]; go_num, by go_num, ⟨by rw [HST.out]; exact hJ2⟩, HB2, ⟨H1.out⟩, ⟨H2.out⟩, ⟨H3.out⟩⟩, by simp [intOf] <;> omega⟩
    · obtain rfl : k = zs.length + 1 := by omega
      have h1 := H1.out
      gi_wp2
      go_end0
      exact ⟨⟨_, rfl⟩, .inl ⟨_, rfl, HJ.out⟩⟩

/-- stretches hands back its closure over three boxes. -/
theorem stretches_calls (n : Nat) (A : Option Addr) (len c : Nat) (fr te : Int) (w : World) :
    CallsIn Fence.wide n Try.prog 69 #[.slice A len c, .int .i64 fr, .int .i64 te] w fun e w' => e = .returned (.func (.func 84) #[] #[.pointer (some ⟨w.heap.size, 0, none⟩), .pointer (some ⟨w.heap.size + 1, 0, none⟩), .pointer (some ⟨w.heap.size + 1 + 1, 0, none⟩)]) ∧
      w' = ((w.alloc (.cells #[.slice A len c] 22)).alloc (.cells #[.int .i64 fr] 3)).alloc (.cells #[.int .i64 te] 3) := by
  refine callsIn_of_wp Try.func69 rfl trivial ?_ rfl
  simp only [Try.ntmps69, List.size_toArray, List.length_cons, List.length_nil, Nat.reduceAdd, Nat.reduceSub, Array.replicate_succ, Array.replicate_zero, List.push_toArray, List.append_toArray, List.nil_append, List.cons_append]
  gi_wp2
  go_ret
  exact ⟨rfl, rfl⟩

theorem stretches_stops (n : Nat) (hn : 1 ≤ n) (B c : Nat) (A : Option Addr) (zs : List Int) (fr te : Int) (w0 w : World) (hw0 : w0.heap.size = B) (hC : Kd.C (Kd.int .i64) w0 A zs.length zs) (hlen : zs.length ≤ 17592186043904) (hlt : B + 3 < w.heap.size) (hB : Below B w0 w)
    (h1 : w.cell? ⟨B + 1, 0, none⟩ = some (.slice A zs.length c)) (h2 : w.cell? ⟨B + 2, 0, none⟩ = some (.int .i64 fr)) (h3 : w.cell? ⟨B + 3, 0, none⟩ = some (.int .i64 te)) :
    SeqStopsK Fence.wide n Try.prog 84 #[.pointer (some ⟨B + 1, 0, none⟩), .pointer (some ⟨B + 2, 0, none⟩), .pointer (some ⟨B + 3, 0, none⟩)] (fun x : S45 => #[Value.int .i64 x.f0, Value.int .i64 x.f1]) (Kpr B) (fun ys => ys = strs zs fr te)
      (fun pre => ∃ k, k ≤ zs.length + 1 ∧ pre = (strF zs fr te k).1) ((zs.length + 1) / 2) w := fun l J Jx W hW hJ _ hY h0 =>
  str1_in n hn l B c A zs fr te w0 W hw0 hC hlen J Jx hJ hY (hB.trans (hW.mono (by have := hB.size; omega))) ((hW.cell (p := ⟨B + 1, 0, none⟩) (by show B + 1 < w.heap.size; omega)).trans h1) ((hW.cell (p := ⟨B + 2, 0, none⟩) (by show B + 2 < w.heap.size; omega)).trans h2) ((hW.cell (p := ⟨B + 3, 0, none⟩) (by show B + 3 < w.heap.size; omega)).trans h3) h0

theorem kpr_b {B : Nat} {w : World} (hw : B + 3 < w.heap.size) (W : World) (l : Nat) (o o' : Obj) (hl : w.heap.size ≤ l) (h : W.heap[l]? = some o) (h1 : o.isCells = false) (h2 : o.isWalk = false) : Kpr B W (W.putObj l o') :=
  ⟨belowK_b (by omega) W l o o' hl h h1 h2, fun k hk hk2 => (grownBy_putObj' W l o').block k (by have := (Array.getElem?_eq_some_iff.1 h).1; omega) (by simp; omega)⟩
def cellsOf (l : List S45) : List Value := l.flatMap fun p => [.int .i64 p.f0, .int .i64 p.f1]
theorem cellsOf_snoc (l : List S45) (p : S45) : cellsOf (l ++ [p]) = cellsOf l ++ [.int .i64 p.f0, .int .i64 p.f1] := by simp [cellsOf]
theorem reps_from (W : World) (base : Nat) (ok : Nat → Prop) : ∀ (l pre : List S45) (cs : List Value), Reps (k45.M W base ok) 2 pre cs → Reps (k45.M W base ok) 2 (pre ++ l) (cs ++ cellsOf l)
  | [], pre, cs, h => by simpa [cellsOf] using h
  | x :: l, pre, cs, h => by
    have := reps_from W base ok l (pre ++ [x]) (cs ++ [.int .i64 x.f0, .int .i64 x.f1]) (h.snoc (k45_mkM W base ok x) rfl)
    simpa [cellsOf, List.append_assoc] using this
theorem reps_cells (W : World) (base : Nat) (ok : Nat → Prop) (l : List S45) : Reps (k45.M W base ok) 2 l (cellsOf l) := by
  have := reps_from W base ok l [] [] (Reps.none _ _)
  simpa using this
theorem rows2 {W : World} {base : Nat} {v : Value} {l : List S45} (h : W.ownsRow base 45 2 v l.length (cellsOf l)) : Kd.R k45 45 W base (fun _ => True) v l := ⟨fun _ _ => trivial, _, h, reps_cells _ _ _ _⟩
theorem cell_two_new (w : World) (x y : Value) (t : TypeId) : ∀ j u, [x, y][j]? = some u → (w.alloc (.cells #[x, y] t)).cell? ((⟨w.heap.size, 0, none⟩ : Addr).add j) = some u := by
  intro j u hj
  match j, hj with
  | 0, hj =>
    simp at hj
    subst hj
    simp [Addr.add]
  | 1, hj =>
    simp at hj
    subst hj
    simp [Addr.add]
  | j + 2, hj => simp at hj
theorem not_own {W : World} {base : Nat} {e : TypeId} {size : Nat} {v : Value} {k : Nat} {xs : List Value} (h : W.ownsRow base e size v k xs) {D : Nat} {o : Obj} (hD : W.heap[D]? = some o) (ho : o.isCells = false) : some D ≠ v.ownBlock := by
  rcases h.2 with ⟨rfl, _⟩ | ⟨g, cap, cur, rfl, _, hgb, _⟩
  · simp [Value.ownBlock]
  · intro e
    obtain rfl : g = D := by simpa [Value.ownBlock] using e.symm
    rw [hgb] at hD
    cases hD
    cases ho
def pick_Runs.f (l0 : List Int) (a1 a2 : Int) : Option (List S45 × Int) := if l0.length ≤ 17592186043904 then (if l0.all fineB = true then (if a1 < 0 ∨ (l0.length : Int) < a2 ∨ a2 < a1 then some ([], 4) else some (strs (ordered l0) a1 a2, 0)) else some ([], 2)) else none

set_option maxRecDepth 100000 in
set_option maxHeartbeats 8000000 in
theorem pick_Runs.calls (A0 : Option Addr) (c0 : Nat) (l0 : List Int) (a1 a2 : Int) (r1 : List S45) (r2 : Int) (w : World) (hr0 : Kd.C (Kd.int .i64) w A0 l0.length l0) (hc0 : l0.length ≤ c0) (h : pick_Runs.f l0 a1 a2 = some (r1, r2)) :
    Calls Try.prog 53 #[.slice A0 l0.length c0, .int .i64 a1, .int .i64 a2] w fun e w' => ∃ v0_ : Value, e = .returned (.tuple #[v0_, .int .i64 r2]) ∧ Kd.R k45 45 w' w.heap.size (fun _ => True) v0_ r1 ∧ Below w.heap.size w w' := by
  unfold pick_Runs.f at h
  by_cases hlen : l0.length ≤ 17592186043904
  · rw [if_pos hlen] at h
    obtain ⟨i0, hi, hz0, hz1, hz2⟩ := info_parts info45
    refine (callsIn_wide (n := 5)).1 ?_
    refine callsIn_of_wp_marks Try.func53 rfl trivial ?_ rfl
    simp only [Try.ntmps53, List.size_toArray, List.length_cons, List.length_nil, Nat.reduceAdd, Nat.reduceSub, Array.replicate_succ, Array.replicate_zero, List.push_toArray, List.append_toArray, List.nil_append, List.cons_append]
    by_cases hf : l0.all fineB = true
    · rw [if_pos hf] at h
      have hord : order_Order.f l0 = some (ordered l0, 0) := by
        unfold order_Order.f
        rw [if_pos (by omega), if_pos hf]
      have HORD := Aside0.mk hord
      clear hord hf
      by_cases hE : a1 < 0 ∨ (l0.length : Int) < a2 ∨ a2 < a1
      · rw [if_pos hE] at h
        obtain ⟨rfl, rfl⟩ := Prod.mk.inj (Option.some.inj h)
        clear h
        by_cases g1 : a1 < 0
        · clear hE
          gi_wp2_with (refine ⟨trivial, ?_⟩; gi_at_call 43; refine (callsIn_wide.2 (order_Order.calls A0 c0 l0 (ordered l0) 0 w hr0 hc0 HORD.out)).mono ?_; rintro e w1 ⟨v0, rfl, ho, hb⟩; have HB1 := Aside0.mk hb; clear ho hb)
          refine ⟨_, results_tmp2 rfl _ _ _, _, rfl, Kd.R_nil _ _ _ _ _, HB1.out⟩
        · by_cases g2 : (l0.length : Int) < a2
          · clear hE
            gi_wp2_with (refine ⟨trivial, ?_⟩; gi_at_call 43; refine (callsIn_wide.2 (order_Order.calls A0 c0 l0 (ordered l0) 0 w hr0 hc0 HORD.out)).mono ?_; rintro e w1 ⟨v0, rfl, ho, hb⟩; have HB1 := Aside0.mk hb; clear ho hb)
            refine ⟨_, results_tmp2 rfl _ _ _, _, rfl, Kd.R_nil _ _ _ _ _, HB1.out⟩
          · have g3 : a2 < a1 := by omega
            clear hE
            gi_wp2_with (refine ⟨trivial, ?_⟩; gi_at_call 43; refine (callsIn_wide.2 (order_Order.calls A0 c0 l0 (ordered l0) 0 w hr0 hc0 HORD.out)).mono ?_; rintro e w1 ⟨v0, rfl, ho, hb⟩; have HB1 := Aside0.mk hb; clear ho hb)
            refine ⟨_, results_tmp2 rfl _ _ _, _, rfl, Kd.R_nil _ _ _ _ _, HB1.out⟩
      · rw [if_neg hE] at h
        obtain ⟨h1, rfl⟩ := Prod.mk.inj (Option.some.inj h)
        have H := Aside0.mk h1
        have g1 : ¬ a1 < 0 := fun h => hE (.inl h)
        have g2 : ¬ (l0.length : Int) < a2 := fun h => hE (.inr (.inl h))
        have g3 : ¬ a2 < a1 := fun h => hE (.inr (.inr h))
        clear hE h h1
        have hol : (ordered l0).length ≤ 17592186043904 := by
          rw [Go.Proofs.Ytccleelhheilnaa.Pure.ordered_len]
          exact Nat.le_trans (seen_len _ _) hlen
        gi_wp2_with (first
          | (refine ⟨trivial, ?_⟩; gi_at_call 43; refine (callsIn_wide.2 (order_Order.calls A0 c0 l0 (ordered l0) 0 w hr0 hc0 HORD.out)).mono ?_; rintro e w1 ⟨v0, rfl, ho, hb⟩; obtain ⟨A1, c1, rfl⟩ := Kd.R_slice ho; have HRD := Aside0.mk (Kd.R_reads' ho).2.2; have HB1 := Aside0.mk hb; clear ho hb)
          | (refine ⟨trivial, ?_⟩; gi_at_call 69; refine (stretches_calls _ _ _ _ _ _ _).mono ?_; rintro e w' ⟨rfl, rfl⟩))
        have bO := Boxed.new w1 28 (.slice none 0 0)
        have bS := Boxed.new (w1.alloc (.cells #[.slice none 0 0] 28)) 22 (.slice A1 (ordered l0).length c1)
        have bF := Boxed.new ((w1.alloc (.cells #[.slice none 0 0] 28)).alloc (.cells #[.slice A1 (ordered l0).length c1] 22)) 3 (.int .i64 a1)
        have bT := Boxed.new (((w1.alloc (.cells #[.slice none 0 0] 28)).alloc (.cells #[.slice A1 (ordered l0).length c1] 22)).alloc (.cells #[.int .i64 a1] 3)) 3 (.int .i64 a2)
        simp only [World.size_alloc] at bS bF bT
        have hB0 : Below w1.heap.size w1 ((((w1.alloc (.cells #[.slice none 0 0] 28)).alloc (.cells #[.slice A1 (ordered l0).length c1] 22)).alloc (.cells #[.int .i64 a1] 3)).alloc (.cells #[.int .i64 a2] 3)) := (((((Below.refl _ w1).alloc (Nat.le_refl _) _).alloc (by simp) _).alloc (by simp; omega) _).alloc (by simp; omega) _)
        refine wpIn_rangeFunc_ownG rfl (by omega) (gf := 84) (lb := #[.pointer (some ⟨w1.heap.size + 1, 0, none⟩), .pointer (some ⟨w1.heap.size + 2, 0, none⟩), .pointer (some ⟨w1.heap.size + 3, 0, none⟩)]) rfl trivial (enters_of Try.func84 (by kernel_rfl) rfl)
          (stretches_stops _ (by omega) w1.heap.size c1 A1 (ordered l0) a1 a2 w1 _ rfl HRD.out hol (by simp) hB0 ((bS.alloc _).alloc _).cell (bF.alloc _).cell bT.cell) kpr_t (kpr_b (by simp)) (Below.refl _ _) (fun _ => rfl)
          (fun pre W => ((∃ v, Boxed W w1.heap.size 28 v ∧ W.ownsRow w1.heap.size 45 2 v pre.length (cellsOf pre) ∧ True) ∧ (Boxed W (w1.heap.size + 1) 22 (.slice A1 (ordered l0).length c1) ∧ (Boxed W (w1.heap.size + 2) 3 (.int .i64 a1) ∧ Boxed W (w1.heap.size + 3) 3 (.int .i64 a2)))) ∧ Below w1.heap.size w1 W)
          (fun _ _ _ => False)
          (OwnFrom.and (OwnFrom.and (Own.from (holdsRow_own w1.heap.size w1.heap.size 28 45 2 (fun pre => pre.length) (fun pre => cellsOf pre) (fun _ _ => True)) _) (OwnFrom.and (Own.from (boxed_own _ _ _) _) (OwnFrom.and (Own.from (boxed_own _ _ _) _) (Own.from (boxed_own _ _ _) _)))) (ownFrom_below (Nat.le_refl _) (by simp; omega)))
          (fun _ _ _ _ _ hs _ _ => hs)
          ⟨⟨⟨_, ((bO.alloc _).alloc _).alloc _, World.ownsRow_nil _ _ _ _, trivial⟩, (bS.alloc _).alloc _, bF.alloc _, bT⟩, hB0⟩
          (fun x => { tmps := #[.slice A0 l0.length c0, .int .i64 a1, .int .i64 a2, undef, undef, undef, .slice none 0 0, .int .i64 0, .slice A1 (ordered l0).length c1, .int .i64 0, .pointer (some ⟨w1.heap.size, 0, none⟩), .int .i64 x.f0, .int .i64 x.f1, .tuple #[.slice A1 (ordered l0).length c1, .int .i64 0], .slice A0 l0.length c0, .tuple #[.slice A1 (ordered l0).length c1, .int .i64 0], .slice A1 (ordered l0).length c1, .int .i64 0, .bool false, .int .i64 0, .bool false, undef, .bool (decide (a2 < a1)), .int .i64 a1, .bool (decide (a1 < 0)), .int .i64 a2, .slice A0 l0.length c0, .int .i64 (l0.length : Int), .bool (decide ((l0.length : Int) < a2)), .int .i64 a1, .int .i64 a2, .bool (decide (a2 < a1)), .slice A1 (ordered l0).length c1, .int .i64 a1, .int .i64 a2, .func (.func 84) #[] #[.pointer (some ⟨w1.heap.size + 1, 0, none⟩), .pointer (some ⟨w1.heap.size + 1 + 1, 0, none⟩), .pointer (some ⟨w1.heap.size + 1 + 1 + 1, 0, none⟩)], .int .i64 x.f0, .int .i64 x.f1, undef, undef, undef, undef, undef, undef, undef], defers := [] }) ?assign ?body ?done ?stop
        case assign =>
          intro l x W K hK
          gi_wp2
          exact hK
        case body =>
          rintro l pre x W ⟨⟨⟨v, hv, hrow, _⟩, hF1, hF2, hF3⟩, hB⟩ hlt
          have hcv := hv.cell
          have n1 := hF1.not_row (by decide) hrow
          have n2 := hF2.not_row (by decide) hrow
          have n3 := hF3.not_row (by decide) hrow
          have HF1 := Aside0.mk hF1
          have HF2 := Aside0.mk hF2
          have HF3 := Aside0.mk hF3
          clear hF1 hF2 hF3
          gi_wp2_with (gi_at_builtin; refine wpListIn_append_own _ rfl _ _ 28 rfl w1.heap.size 45 i0 (.agg #[.int .i64 0, .int .i64 0]) 2 16 Try.underlying28 hi hz0 hz1 hz2 rfl (by decide) _ _ _ rfl (hrow.alloc _) ⟨W.heap.size, 0, none⟩ 1 1 [.int .i64 x.f0, .int .i64 x.f1] rfl rfl (cell_two_new _ _ _ _) (by simp [Value.oneCell']) (by simp [maxLen]; omega) (by omega) (by have := hB.size; simp; omega) ?_; intro v' w2 hown' hgrow _; obtain ⟨g', cap', rfl⟩ := ownsRow_succ hown'; obtain ⟨hv1, hv2, hr2, hk2, hb2⟩ := hv.appended (by decide) hrow hB.size (Nat.le_refl _) hown' hgrow; have hc1 := hv1.cell; have hf1 := hv1.frozen; have k1 := ((HF1.out.alloc _).kept hgrow n1).other (B' := w1.heap.size) (by omega) (.slice (some ⟨g', 0, none⟩) (pre.length + 1) cap'); have k2 := ((HF2.out.alloc _).kept hgrow n2).other (B' := w1.heap.size) (by omega) (.slice (some ⟨g', 0, none⟩) (pre.length + 1) cap'); have k3 := ((HF3.out.alloc _).kept hgrow n3).other (B' := w1.heap.size) (by omega) (.slice (some ⟨g', 0, none⟩) (pre.length + 1) cap'))
          refine ⟨hk2.from _, ⟨hb2, fun k e1 e2 => ?_⟩, ⟨⟨_, hv2, ?_, trivial⟩, k1, k2, k3⟩, hB.trans hb2⟩
          · obtain rfl | rfl | rfl : k = w1.heap.size + 1 ∨ k = w1.heap.size + 2 ∨ k = w1.heap.size + 3 := by omega
            · exact Eq.trans k1 (Eq.symm HF1.out)
            · exact Eq.trans k2 (Eq.symm HF2.out)
            · exact Eq.trans k3 (Eq.symm HF3.out)
          · rw [cellsOf_snoc, List.length_append, List.length_singleton]
            exact hr2
        case done =>
          rintro D ys W hD rfl ⟨⟨⟨v, hv, hrow, _⟩, hF1, hF2, hF3⟩, hB⟩ hK
          have hcv := hv.cell
          clear hF1 hF2 hF3
          gi_wp2
          refine ⟨by simp, .inl ⟨_, _, rfl, run_takeDeferred hK, ?_⟩⟩
          refine ⟨_, results_tmp2 rfl _ _ _, _, rfl, ?_, ?_⟩
          · rw [← H.out]
            exact rows2 (ownsRow_putObj (own_weaken hrow HB1.out.size) _ hK rfl)
          · exact (HB1.out.trans (hB.mono HB1.out.size)).trans (belowK_b (w := w) (Nat.le_refl _) W D _ _ (by have := HB1.out.size; simp at hD; omega) hK rfl rfl)
        case stop =>
          rintro D c pre W _ _ h _
          exact h.elim
    · rw [if_neg hf] at h
      obtain ⟨rfl, rfl⟩ := Prod.mk.inj (Option.some.inj h)
      have hord : order_Order.f l0 = some ([], 2) := by
        unfold order_Order.f
        rw [if_pos (by omega), if_neg hf]
      have HORD := Aside0.mk hord
      clear hord hf h
      gi_wp2_with (refine ⟨trivial, ?_⟩; gi_at_call 43; refine (callsIn_wide.2 (order_Order.calls A0 c0 l0 [] 2 w hr0 hc0 HORD.out)).mono ?_; rintro e w1 ⟨v0, rfl, ho, hb⟩; have HB1 := Aside0.mk hb; clear ho hb)
      refine ⟨_, results_tmp2 rfl _ _ _, _, rfl, Kd.R_nil _ _ _ _ _, HB1.out⟩
  · rw [if_neg hlen] at h
    cases h
end Go.Proofs.Ytccleelhheilnaa.F
