/- spot.at by its contract: the closure that it hands to slices.IndexFunc, the search, and the function itself. -/
import Derived.Test.YtccleelhheilnaaSx0
import Derived.WalkSpells
import Derived.WalkLawsBesides
import Derived.Shelf.Abstract
namespace Go.Proofs.Ytccleelhheilnaa.S
set_option linter.unusedVariables false
set_option linter.unusedSimpArgs false
open Go.RowKit Go.Proofs.YtccleelhheilnaaW.PrintWords Go.Proofs.YtccleelhheilnaaW.PrintLast Go.Proofs.YtccleelhheilnaaW.PrintMore Go.Proofs.Ytccleelhheilnaa.Flo
attribute [local go_sem] lit_f0 lit_f1 lit_fm1 flo_add flo_sub cx_add cx_sub ord_eq ord_ne sto_c sto_f

/-- is it a stop of this column? -/
def stopAt (c : Int) (z : Cx) : Bool := (z.im != 0) && (z.re == c)
def okAt (c : Int) (z : Cx) : Bool := smA z.im 0 && smA z.re c
/-- the first one, from place i on -/
def firstAt (c : Int) : List Cx → Int → Int × Int
  | [], _ => (0, 150)
  | z :: l, i => if stopAt c z = true then (i, 0) else firstAt c l (i + 1)
def spot_at.f (l : List Cx) (c : Int) : Option (Int × Int) := if l.length < 9223372036854775807 then (if l.all (okAt c) = true then some (firstAt c l 0) else none) else none

theorem drawn_tr {a b c : World} (h : Drawn0 a b) (k : Drawn0 b c) : Drawn0 a c := by
  obtain ⟨n, rfl⟩ := k.out
  exact h.step n
set_option maxHeartbeats 1000000 in
theorem atHit (z : Cx) (c : Int) (w : World) (b : Nat) (hc : w.cell? ⟨b, 0, none⟩ = some (.float .f64 (floatOfInt .f64 c))) (h1 : smA z.im 0 = true) (h2 : smA z.re c = true) :
    Calls Try.prog 74 #[.complex .f64 (floatOfInt .f64 z.re) (floatOfInt .f64 z.im), .pointer (some ⟨b, 0, none⟩)] w fun e w' => e = .returned (.bool (stopAt c z)) ∧ Drawn0 w w' := by
  obtain ⟨x, y⟩ := z
  by_cases hy : y = 0
  · have e1 : stopAt c ⟨x, y⟩ = false := by simp [stopAt, hy]
    rw [e1]
    clear e1
    have hy1 : (y != 0) = false := by simp [hy]
    go_enter Try.func74, Try.ntmps74
    (try rw [lit_f0])
    go_wp2
    go_ret
    exact ⟨rfl, by repeat (first | exact Drawn0.refl _ | apply Drawn0.step)⟩
  · have hy1 : (y != 0) = true := by simpa using hy
    have e1 : stopAt c ⟨x, y⟩ = (x == c) := by simp [stopAt, hy]
    rw [e1]
    clear e1
    go_enter Try.func74, Try.ntmps74
    (try rw [lit_f0])
    go_wp2
    go_ret
    exact ⟨rfl, by repeat (first | exact Drawn0.refl _ | apply Drawn0.step)⟩
/-- where the first one stands; -1: nowhere -/
def idxAt (c : Int) : List Cx → Int → Int
  | [], _ => -1
  | z :: l, i => if stopAt c z = true then i else idxAt c l (i + 1)
theorem idxAt_drop (c : Int) (l : List Cx) {i : Nat} (h : i < l.length) : idxAt c (l.drop i) (i : Int) = if stopAt c (rdOf zc l (i : Int)) = true then (i : Int) else idxAt c (l.drop (i + 1)) ((i + 1 : Nat) : Int) := by
  have e : l.drop i = l[i] :: l.drop (i + 1) := List.drop_eq_getElem_cons h
  have e2 : rdOf zc l (i : Int) = l[i] := by simp [rdOf, List.getD_eq_getElem?_getD, List.getElem?_eq_getElem h]
  rw [e, e2]
  rfl
theorem idxAt_end (c : Int) (l : List Cx) {i : Nat} (h : l.length ≤ i) (j : Int) : idxAt c (l.drop i) j = -1 := by
  rw [List.drop_eq_nil_of_le h]
  rfl
theorem ok_rd {c : Int} {l : List Cx} (h : l.all (okAt c) = true) {i : Nat} (hi : i < l.length) : smA (rdOf zc l (i : Int)).im 0 = true ∧ smA (rdOf zc l (i : Int)).re c = true := by
  have e2 : rdOf zc l (i : Int) = l[i] := by simp [rdOf, List.getD_eq_getElem?_getD, List.getElem?_eq_getElem hi]
  have := List.all_eq_true.1 h _ (List.getElem_mem hi)
  rw [e2]
  simpa [okAt] using this
theorem drawn_cell {w w' : World} (h : Drawn0 w w') {a : Addr} {v : Value} (hc : w.cell? a = some v) : w'.cell? a = some v := by
  obtain ⟨n, rfl⟩ := h.out
  simpa using hc
set_option maxHeartbeats 1000000 in
theorem idxF (l : List Cx) (c : Int) (A : Option Addr) (cap : Nat) (w : World) (b : Nat) (hl : l.length < 9223372036854775807) (hC : Kd.C Kd.c128 w A l.length l) (hc : w.cell? ⟨b, 0, none⟩ = some (.float .f64 (floatOfInt .f64 c))) (hok : l.all (okAt c) = true) :
    Calls Try.prog 73 #[.slice A l.length cap, .func (.func 74) #[] #[.pointer (some ⟨b, 0, none⟩)]] w fun e w' => e = .returned (.int .i64 (idxAt c l 0)) ∧ Drawn0 w w' := by
  have HC := Aside0.mk hC
  have HK := Aside0.mk hc
  have HO := Aside0.mk hok
  clear hC hc hok
  go_enter Try.func73, Try.ntmps73
  go_wp2
  go_loopw [8] (fun i wr => ∃ k : Nat, i = .int .i64 (k : Int) ∧ k ≤ l.length ∧ Aside0 (idxAt c (l.drop k) (k : Int) = idxAt c l 0) ∧ Drawn0 w wr) (fun i _ => ((l.length : Int) - intOf i).toNat)
  case atStart => exact ⟨0, rfl, by omega, ⟨rfl⟩, Drawn0.refl _⟩
  case round =>
    obtain ⟨i, rfl, h1, HI, hd⟩ := hrel
    have HD := Aside0.mk hd
    clear hd
    by_cases hlt : i < l.length
    · have hlt1 : decide (i < l.length) = true := decide_eq_true hlt
      obtain ⟨ad, e, c0⟩ := Kd.at_c128 HC.out (i : Int) (by omega) (by omega)
      cases e
      simp only [Int.toNat_natCast] at c0
      have HC0 := Aside0.mk (drawn_cell HD.out c0)
      clear c0
      have hcell := HC0.out
      go_wp2_with fail
      refine (atHit (rdOf zc l (i : Int)) c _ b (drawn_cell HD.out HK.out) (ok_rd HO.out hlt).1 (ok_rd HO.out hlt).2).mono ?_
      rintro e w2 ⟨rfl, hd2⟩
      have HD2 := Aside0.mk (drawn_tr HD.out hd2)
      clear hd2
      obtain ⟨v, hv⟩ : ∃ v, stopAt c (rdOf zc l (i : Int)) = v := ⟨_, rfl⟩
      rw [hv]
      have HE := Aside0.mk (idxAt_drop c l hlt)
      have HV := Aside0.mk hv
      clear hv
      cases v with
      | true =>
        go_wp2_with fail
        go_ret
        refine ⟨?_, HD2.out⟩
        rw [← HI.out, HE.out, if_pos HV.out]
        rfl
      | false =>
        go_wp2_with fail
        go_roundw
        case rel => exact ⟨i + 1, by simp, hlt, ⟨by rw [← HI.out, HE.out, if_neg (by rw [HV.out]; simp)]⟩, HD2.out⟩
        case measure => simp [intOf] <;> omega
    · have hlt1 : decide (i < l.length) = false := decide_eq_false hlt
      go_wp2_with fail
      go_ret
      refine ⟨?_, HD.out⟩
      rw [← HI.out, idxAt_end c l (by omega)]
      try rfl
theorem firstAt_of (c : Int) : ∀ (l : List Cx) (i : Int), 0 ≤ i → firstAt c l i = if idxAt c l i < 0 then (0, 150) else (idxAt c l i, 0)
  | [], i, h => rfl
  | z :: l, i, h => by
    unfold firstAt idxAt
    split
    · rw [if_neg (by omega)]
    · exact firstAt_of c l (i + 1) (by omega)
set_option maxHeartbeats 1000000 in
theorem spot_at.calls (A0 : Option Addr) (c0 : Nat) (l0 : List Cx) (a1 : Int) (r1 : Int) (r2 : Int) (w : World) (hr0 : Kd.C Kd.c128 w A0 l0.length l0) (hc0 : l0.length ≤ c0) (h : spot_at.f l0 a1 = some (r1, r2)) :
    Calls Try.prog 58 #[.slice A0 l0.length c0, .float .f64 (floatOfInt .f64 a1)] w fun e w' => e = .returned (.tuple #[.int .i64 r1, .int .i64 r2]) ∧ Below w.heap.size w w' := by
  unfold spot_at.f at h
  by_cases hl : l0.length < 9223372036854775807
  · rw [if_pos hl] at h
    by_cases hok : l0.all (okAt a1) = true
    · rw [if_pos hok] at h
      have h := Option.some.inj h
      rw [firstAt_of a1 l0 0 (Int.le_refl _)] at h
      have hC := Kd.C_alloc hr0 (.cells #[.float .f64 (floatOfInt .f64 a1)] 37)
      have hB := (Below.refl w.heap.size w).alloc (Nat.le_refl _) (.cells #[.float .f64 (floatOfInt .f64 a1)] 37)
      have HC := Aside0.mk hC
      have HOK := Aside0.mk hok
      have HBB := Aside0.mk hB
      have HH := Aside0.mk h
      clear hC hok hB h hr0
      go_enter Try.func58, Try.ntmps58
      go_wp2_with fail
      refine (idxF l0 a1 A0 c0 _ w.heap.size hl HC.out (by simp) HOK.out).mono ?_
      rintro e w2 ⟨rfl, hd⟩
      have HB2 : Aside0 (Below w.heap.size w w2) := ⟨by
        obtain ⟨n, rfl⟩ := hd.out
        exact pw_below_drewN HBB.out n⟩
      clear hd
      generalize idxAt a1 l0 0 = v at HH ⊢
      by_cases hv : v < 0
      · have hv1 : decide (v < 0) = true := decide_eq_true hv
        have := HH.out
        rw [if_pos hv] at this
        cases this
        go_wp2_with fail
        go_ret2
        exact ⟨rfl, HB2.out⟩
      · have hv1 : decide (v < 0) = false := decide_eq_false hv
        have := HH.out
        rw [if_neg hv] at this
        cases this
        go_wp2_with fail
        go_ret2
        exact ⟨rfl, HB2.out⟩
    · rw [if_neg hok] at h
      cases h
  · rw [if_neg hl] at h
    cases h
end Go.Proofs.Ytccleelhheilnaa.S
