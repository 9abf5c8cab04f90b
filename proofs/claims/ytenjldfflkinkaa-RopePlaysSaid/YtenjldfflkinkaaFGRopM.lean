/- among, all; the law RopeJoins, walked. -/
import Derived.Test.YtenjldfflkinkaaFGRopL
import Derived.Test.YtenjldfflkinkaaFx4
namespace Go.Proofs.Ytenjldfflkinkaa.Rop
set_option linter.unusedVariables false
set_option linter.unusedSimpArgs false
open Go.RowKit Go.Proofs.Ytenjldfflkinkaa.F Go.Proofs.YtenjldfflkinkaaW.PrintWords Go.Proofs.YtenjldfflkinkaaW.PrintLast Go.Proofs.YtenjldfflkinkaaW.PrintMore

def Below1 (n : Nat) (w : World) (e : Ending) (w' : World) : Prop := ∃ r : Nat, e = .returned (.int .i64 (r : Int)) ∧ r < n ∧ w = w'
theorem among_calls {w : World} (x : Int) (n : Nat) (h0 : 0 < n) (h1 : n ≤ 1000000) (hx : -9223372036854775808 ≤ x ∧ x ≤ 9223372036854775807) : Calls Try.prog 22 #[.int .i64 x, .int .i64 (n : Int)] w (Below1 n w) := by
  have hn0 : ((n : Int) == 0) = false := by simp; omega
  have hn1 : ¬ (n : Int) = 0 := by omega
  obtain ⟨y, hy⟩ : ∃ y, Int.tmod x (n : Int) = y := ⟨_, rfl⟩
  have b1 : -(n : Int) < y ∧ y < (n : Int) := by
    rw [← hy]
    have h2 := Int.natAbs_tmod x (n : Int)
    have h3 : x.natAbs % (n : Int).natAbs < (n : Int).natAbs := Nat.mod_lt _ (by omega)
    omega
  obtain ⟨z, hz⟩ : ∃ z : Nat, y + (n : Int) = (z : Int) := ⟨(y + (n : Int)).toNat, by omega⟩
  have hz2 : Int.tmod (z : Int) (n : Int) = ((z % n : Nat) : Int) := by rw [Int.tmod_eq_emod_of_nonneg (by omega)]; rfl
  have hyb : -1000000 < y ∧ y < 1000000 := by omega
  have hw1 : wrap64 y = y := by unfold wrap64; omega
  have hfin : (wrap64 (z : Int)).tmod (n : Int) = (z : Int) % (n : Int) := by
    have e : wrap64 (z : Int) = (z : Int) := by unfold wrap64; omega
    rw [e, Int.tmod_eq_emod_of_nonneg (by omega)]
  have HF := Aside0.mk hfin
  have hr : z % n < n := Nat.mod_lt _ h0
  have HR := Aside0.mk hr
  clear hr h1 hx hfin
  go_enter Try.func22, Try.ntmps22
  go_wp2
  go_ret
  exact ⟨z % n, by first | rfl | (simp [*, HF.out]), HR.out, rfl⟩
set_option maxRecDepth 100000 in
set_option maxHeartbeats 4000000 in
theorem all_calls {w : World} {p : Option Addr} {t : RT} (h : IsR w p t) (hs : t.sz ≤ 1000000) : Calls Try.prog 28 #[.pointer p] w fun e w' => ∃ v : Value, e = .returned v ∧ Kd.R (Kd.int .i32) 21 w' w.heap.size (fun _ => True) v t.toL ∧ Below w.heap.size w w' := by
  have hl := Len_calls h
  have hsl := Slice_calls h 0 t.sz (Nat.zero_le _) (Nat.le_refl _) hs
  have e : (t.toL.drop 0).take (t.sz - 0) = t.toL := by
    rw [List.drop_zero, Nat.sub_zero, ← RT.toL_len, List.take_length]
  rw [e] at hsl
  clear e h
  go_enter Try.func28, Try.ntmps28
  go_wp2_with (first
    | (go_at_call 17; (with_reducible refine hl.mono ?_); rintro e w' ⟨rfl, rfl⟩)
    | (go_at_call 16; refine hsl.mono ?_; rintro e w1 ⟨v, rfl, hr1, hb1⟩))
  go_ret
  exact ⟨v, rfl, hr1, hb1⟩
theorem same_lp (L : List Int) (hL : L.length ≤ 1000000) : ∀ (d k i : Nat), L.length - i = d → i ≤ L.length → d < k → colophonref01_Same.l0 k L L (i : Int) = some true := by
  intro d
  induction d with
  | zero =>
    intro k i hd hi hk
    obtain ⟨k, rfl⟩ : ∃ m, k = m + 1 := ⟨k - 1, by omega⟩
    simp only [colophonref01_Same.l0]
    rw [if_neg (by omega)]
  | succ d ih =>
    intro k i hd hi hk
    obtain ⟨k, rfl⟩ : ∃ m, k = m + 1 := ⟨k - 1, by omega⟩
    have hnext := ih k (i + 1) (by omega) (by omega) (by omega)
    have hw : wrap64 ((i : Int) + 1) = ((i + 1 : Nat) : Int) := by unfold wrap64; omega
    simp only [colophonref01_Same.l0, hw]
    rw [if_pos (by omega), if_pos (by omega), if_pos (by omega), if_pos trivial]
    exact hnext
theorem same_refl (L : List Int) (hL : L.length ≤ 1000000) : colophonref01_Same.f (L.length + 1) L L = some true := by
  unfold colophonref01_Same.f
  rw [if_pos rfl]
  exact same_lp L hL L.length _ 0 (by omega) (by omega) (by omega)
theorem drawn_below {w w' : World} (h : Drawn0 w w') : Below w.heap.size w w' := by
  obtain ⟨n, rfl⟩ := h.out
  exact pw_below_drewN (Below.refl _ _) n
/-- Same of a list and itself -/
theorem Same_calls {w : World} {A B : Option Addr} {c d : Nat} {l : List Int} (hA : Kd.C (Kd.int .i32) w A l.length l) (hc : l.length ≤ c) (hB : Kd.C (Kd.int .i32) w B l.length l) (hd : l.length ≤ d) (hl : l.length ≤ 1000000) :
    Calls Try.prog 18 #[.slice A l.length c, .slice B l.length d] w fun e w' => e = .returned (.bool true) ∧ Below w.heap.size w w' :=
  (colophonref01_Same.calls _ A c l B d l true w hA hc hB hd (same_refl l hl)).mono fun _ _ ⟨he, hw⟩ => ⟨he, drawn_below hw⟩
end Go.Proofs.Ytenjldfflkinkaa.Rop
