/- ucd.Class by its contract: the closure that it hands to sort.Search, the search, and the function itself. -/
import Derived.Test.YtenjldfflkinkaaFGTable
import Derived.WalkSpells
import Derived.WalkLawsBesides
import Derived.Shelf.Abstract
import Derived.Test.YtenjldfflkinkaaFx1
namespace Go.Proofs.Ytenjldfflkinkaa.F
set_option linter.unusedVariables false
set_option linter.unusedSimpArgs false
open Go.RowKit Go.Proofs.YtenjldfflkinkaaW.PrintWords Go.Proofs.YtenjldfflkinkaaW.PrintLast Go.Proofs.YtenjldfflkinkaaW.PrintMore

/-- The closure: does range i end at the number, or behind it? -/
theorem clsHit (i : Int) (w : World) (bl br : Nat) (A : Option Addr) (c : Nat) (xs : List S128) (r : Int)
    (hcl : w.cell? ⟨bl, 0, none⟩ = some (.slice A xs.length c)) (hcr : w.cell? ⟨br, 0, none⟩ = some (.int .i32 r)) (hC : Kd.C k128 w A xs.length xs) (h0 : 0 ≤ i) (h1 : i < xs.length) :
    Calls Try.prog 79 #[.int .i64 i, .pointer (some ⟨bl, 0, none⟩), .pointer (some ⟨br, 0, none⟩)] w fun e w' => e = .returned (.bool (decide (r ≤ (rd_T128 xs i).f1))) ∧ Drawn0 w w' := by
  obtain ⟨ad, e, c0, c1, c2⟩ := at_T128 hC i h0 h1
  cases e
  go_enter Try.func79, Try.ntmps79
  go_wp2
  go_quiet (fail)
  go_wp2
  go_ret
  exact ⟨rfl, by repeat (first | exact Drawn0.refl _ | apply Drawn0.step)⟩

theorem drawn_trans {a b c : World} (h : Drawn0 a b) (k : Drawn0 b c) : Drawn0 a c := by
  obtain ⟨n, rfl⟩ := k.out
  exact h.step n

set_option maxHeartbeats 1000000 in
/-- sort.Search at a predicate that stays true. -/
theorem srch (n : Nat) (hn : n ≤ 1000000) (g : Nat) (lb : Array Value) (p : Nat → Bool) (hm : ∀ i j, i ≤ j → j < n → p i = true → p j = true) (w : World)
    (eg : ∀ args w, (callFunc g args).run Try.prog w = .ok (.enter g args) w)
    (hp : ∀ (i : Int) (W : World), 0 ≤ i → i < n → Drawn0 w W → Calls Try.prog g (#[.int .i64 i] ++ lb) W fun e w' => e = .returned (.bool (p i.toNat)) ∧ Drawn0 W w') :
    Calls Try.prog 78 #[.int .i64 (n : Int), .func (.func g) #[] lb] w fun e w' => ∃ k : Nat, e = .returned (.int .i64 (k : Int)) ∧ k ≤ n ∧ (∀ m, m < k → p m = false) ∧ (k < n → p k = true) ∧ Drawn0 w w' := by
  have HM := Aside0.mk hm
  have HP := Aside0.mk hp
  clear hm hp
  go_enter Try.func78, Try.ntmps78
  go_wp2
  go_loopw [5, 6] (fun i j wr => ∃ lo hi : Nat, i = .int .i64 (lo : Int) ∧ j = .int .i64 (hi : Int) ∧ lo ≤ hi ∧ hi ≤ n ∧ Aside0 (∀ m, m < lo → p m = false) ∧ Aside0 (hi < n → p hi = true) ∧ Drawn0 w wr) (fun i j _ => (intOf j - intOf i).toNat)
  case atStart => exact ⟨0, n, rfl, rfl, by omega, by omega, ⟨fun m h => by omega⟩, ⟨fun h => by omega⟩, Drawn0.refl _⟩
  case round =>
    obtain ⟨lo, hi, rfl, rfl, h1, h2, A1, A2, hd⟩ := hrel
    have HD := Aside0.mk hd
    clear hd
    by_cases hlt : lo < hi
    · have hb1 : ((lo : Int) + hi) / 2 < hi := by omega
      have hb2 : (lo : Int) ≤ ((lo : Int) + hi) / 2 := by omega
      go_wp2_with fail
      refine (HP.out (((lo : Int) + hi) / 2) _ (by omega) (by omega) HD.out).mono ?_
      rintro e w2 ⟨rfl, hd2⟩
      have HD2 := Aside0.mk (drawn_trans HD.out hd2)
      clear hd2
      obtain ⟨b, hb⟩ : ∃ b, p (((lo : Int) + hi) / 2).toNat = b := ⟨_, rfl⟩
      rw [hb]
      have HB := Aside0.mk hb
      clear hb
      cases b with
      | true =>
        go_wp2_with fail
        go_roundw
        case rel => exact ⟨lo, (((lo : Int) + hi) / 2).toNat, rfl, by congr 1 <;> omega, by omega, by omega, A1, ⟨fun _ => HB.out⟩, HD2.out⟩
        case measure => simp [intOf] <;> omega
      | false =>
        go_wp2_with fail
        go_roundw
        case rel =>
          refine ⟨(((lo : Int) + hi) / 2).toNat + 1, hi, by congr 1 <;> omega, rfl, by omega, by omega, ⟨fun m hm => ?_⟩, A2, HD2.out⟩
          cases hpm : p m with
          | false => rfl
          | true =>
            have := HM.out m (((lo : Int) + hi) / 2).toNat (by omega) (by omega) hpm
            rw [HB.out] at this
            cases this
        case measure => simp [intOf] <;> omega
    · obtain rfl : lo = hi := by omega
      go_wp2_with fail
      go_ret
      exact ⟨lo, rfl, h2, A1.out, A2.out, HD.out⟩

/-! ### The function -/
def scl (a0 : Int) : Bool := decide (0 ≤ a0 ∧ a0 < 55296 ∨ 57343 < a0 ∧ a0 ≤ 1114111)
theorem ucd_scalar_is (a0 : Int) : ucd_scalar.f a0 = some (scl a0) := by
  unfold ucd_scalar.f scl
  split
  · split
    · congr 1; rw [eq_comm, decide_eq_true_iff]; omega
    · split
      · congr 1; rw [decide_eq_decide]; omega
      · congr 1; rw [eq_comm, decide_eq_false_iff_not]; omega
  · split
    · congr 1; rw [decide_eq_decide]; omega
    · congr 1; rw [eq_comm, decide_eq_false_iff_not]; omega
def tabHas (a0 : Int) (x : S128) : Bool := decide (x.f0 ≤ a0) && decide (a0 ≤ x.f1)
def tabCls (a0 : Int) : Int := match rows_ucd_table.find? (tabHas a0) with | some x => x.f2 | none => 1
def clsOf (a0 : Int) : Int := if scl a0 = true then tabCls a0 else 0
def ucd_Class.f (a0 : Int) : Option Int := some (clsOf a0)
/-- rising: each row ends at or behind its begin, and the next begins behind it -/
def rises : List S128 → Bool
  | [] => true
  | [x] => decide (x.f0 ≤ x.f1)
  | x :: y :: l => decide (x.f0 ≤ x.f1) && decide (x.f1 < y.f0) && rises (y :: l)
theorem rises_rows : rises rows_ucd_table = true := by decide +kernel
theorem rises_tail {x : S128} {l : List S128} (h : rises (x :: l) = true) : rises l = true := by
  cases l with
  | nil => rfl
  | cons y l => simp only [rises, Bool.and_eq_true] at h; exact h.2
theorem rises_head {x : S128} {l : List S128} (h : rises (x :: l) = true) : x.f0 ≤ x.f1 := by
  cases l with
  | nil => simpa [rises] using h
  | cons y l => simp only [rises, Bool.and_eq_true, decide_eq_true_eq] at h; exact h.1.1
theorem rises_behind : ∀ {l : List S128} {x : S128}, rises (x :: l) = true → ∀ y ∈ l, x.f1 < y.f0
  | [], x, h, y, hy => by cases hy
  | z :: l, x, h, y, hy => by
    have h2 := rises_tail h
    simp only [rises, Bool.and_eq_true, decide_eq_true_eq] at h
    rcases List.mem_cons.1 hy with rfl | hy
    · exact h.1.2
    · have := rises_behind h2 y hy
      have := rises_head h2
      omega
theorem rises_mem : ∀ {l : List S128}, rises l = true → ∀ y ∈ l, y.f0 ≤ y.f1
  | [], h, y, hy => by cases hy
  | x :: l, h, y, hy => by
    rcases List.mem_cons.1 hy with rfl | hy
    · exact rises_head h
    · exact rises_mem (rises_tail h) y hy
theorem rises_le : ∀ {l : List S128}, rises l = true → ∀ i j, i ≤ j → j < l.length → (l.getD i z128).f1 ≤ (l.getD j z128).f1
  | [], h, i, j, _, hj => by simp at hj
  | x :: l, h, 0, 0, _, _ => Int.le_refl _
  | x :: l, h, i + 1, 0, hij, _ => by omega
  | x :: l, h, 0, j + 1, _, hj => by
    have hj' : j < l.length := by simpa using hj
    have h1 : l[j] ∈ l := List.getElem_mem hj'
    have h2 := rises_behind h _ h1
    have h3 := rises_mem (rises_tail h) _ h1
    have h4 : ((x :: l).getD (j + 1) z128) = l[j] := by simp [List.getD_eq_getElem?_getD, List.getElem?_eq_getElem hj']
    rw [h4]
    show x.f1 ≤ _
    omega
  | x :: l, h, i + 1, j + 1, hij, hj => by
    show (l.getD i z128).f1 ≤ (l.getD j z128).f1
    exact rises_le (rises_tail h) i j (by omega) (by simpa using hj)
/-- what the search finds is the row, if any has the number -/
theorem find_hit : ∀ {l : List S128} (a0 : Int) (k : Nat), (∀ m : Nat, m < k → (l.getD m z128).f1 < a0) → k < l.length → a0 ≤ (l.getD k z128).f1 → (l.getD k z128).f0 ≤ a0 → l.find? (tabHas a0) = some (l.getD k z128)
  | [], a0, k, _, hk, _, _ => by simp at hk
  | x :: l, a0, 0, h1, hk, h2, h3 => by
    have h2' : a0 ≤ x.f1 := h2
    have h3' : x.f0 ≤ a0 := h3
    have hf : tabHas a0 x = true := by simp [tabHas, h2', h3']
    rw [List.find?_cons, hf]
    rfl
  | x :: l, a0, k + 1, h1, hk, h2, h3 => by
    have h0 : x.f1 < a0 := h1 0 (by omega)
    have hf : tabHas a0 x = false := by simp [tabHas]; omega
    rw [List.find?_cons, hf]
    exact find_hit (l := l) a0 k (fun m hm => h1 (m + 1) (by omega)) (by simpa using hk) h2 h3
theorem find_miss : ∀ {l : List S128}, rises l = true → ∀ (a0 : Int) (k : Nat), (∀ m : Nat, m < k → (l.getD m z128).f1 < a0) → (k < l.length → a0 < (l.getD k z128).f0) → l.find? (tabHas a0) = none
  | [], h, a0, k, _, _ => rfl
  | x :: l, h, a0, 0, h1, h2 => by
    have h2' : a0 < x.f0 := h2 (by simp)
    rw [List.find?_eq_none]
    intro y hy
    have h4 := rises_head h
    rcases List.mem_cons.1 hy with rfl | hy
    · simp [tabHas]; omega
    · have := rises_behind h y hy
      simp [tabHas]; omega
  | x :: l, h, a0, k + 1, h1, h2 => by
    have h0 : x.f1 < a0 := h1 0 (by omega)
    have hf : tabHas a0 x = false := by simp [tabHas]; omega
    rw [List.find?_cons, hf]
    exact find_miss (rises_tail h) a0 k (fun m hm => h1 (m + 1) (by omega)) (fun hk => h2 (by simpa using hk))

theorem ret_cls {a0 r : Int} (h : clsOf a0 = r) : Ending.returned (.int .i64 r) = .returned (.int .i64 (clsOf a0)) := by rw [h]
theorem below_cls1 {w w2 : World} (h : Below w.heap.size w w2) {o : Obj} {n : Nat} : Below w.heap.size w ((w2.alloc o).drewN n) := pw_below_drewN (h.alloc h.size _) n
theorem below_cls {w w2 : World} (h : Below w.heap.size w w2) {o : Obj} {m n : Nat} : Below w.heap.size w (((w2.alloc o).drewN m).drewN n) := pw_below_drewN (pw_below_drewN (h.alloc h.size _) m) n
set_option maxHeartbeats 2000000 in
set_option maxRecDepth 10000 in
theorem ucd_Class.calls (a0 : Int) (r : Int) (w : World) (h : ucd_Class.f a0 = some r) :
    Calls Try.prog 67 #[.int .i32 a0] w fun e w' => e = .returned (.int .i64 r) ∧ Below w.heap.size w w' := by
  obtain rfl := Option.some.inj h
  clear h
  obtain ⟨b, hb⟩ : ∃ b, scl a0 = b := ⟨_, rfl⟩
  have hs : ucd_scalar.f a0 = some b := by rw [ucd_scalar_is, hb]
  have HB := Aside0.mk hb
  have HS := Aside0.mk hs
  clear hb hs
  go_enter Try.func67, Try.ntmps67
  go_wp2_with fail
  refine (ucd_scalar.calls a0 b _ HS.out).mono ?_
  rintro e w1 ⟨rfl, ⟨n1, rfl⟩⟩
  cases b with
  | false =>
    go_wp2_with fail
    go_ret
    exact ⟨by unfold clsOf; rw [if_neg (by rw [HB.out]; simp)]; rfl, by
      have := pw_below_drewN ((Below.refl w.heap.size w).alloc (Nat.le_refl _) (.cells #[.int .i32 a0] 21)) n1
      exact this⟩
  | true =>
    go_wp2_with fail
    refine (ucd_table.calls _ _ rfl).mono ?_
    rintro e w2 ⟨v, rfl, hR, hb2⟩
    have hlen : rows_ucd_table.length ≤ 1000 := by decide
    have hcl : clsOf a0 = (match rows_ucd_table.find? (tabHas a0) with | some x => x.f2 | none => 1) := by unfold clsOf tabCls; rw [if_pos HB.out]
    have HRI := Aside0.mk rises_rows
    have HCL := Aside0.mk hcl
    clear hcl
    revert hR hlen HRI HCL
    generalize rows_ucd_table = xs
    intro hR hlen HRI HCL
    obtain ⟨A, c, rfl, hlc, hC⟩ := Kd.R_reads hR
    have hcr : (w2.alloc (.cells #[.slice A xs.length c] 124)).cell? ⟨w.heap.size, 0, none⟩ = some (.int .i32 a0) := by
      have h1 : w.heap.size < w2.heap.size := by have := hb2.size; simp at this; omega
      rw [World.cell?_alloc_lt _ _ _ (by exact h1)]
      rw [hb2.cell (p := ⟨w.heap.size, 0, none⟩) (by simp)]
      simp
    have hcl : (w2.alloc (.cells #[.slice A xs.length c] 124)).cell? ⟨w2.heap.size, 0, none⟩ = some (.slice A xs.length c) := by simp
    have hB : Below w.heap.size w w2 := ((Below.refl w.heap.size w).alloc (Nat.le_refl _) (.cells #[.int .i32 a0] 21)).trans ((pw_below_drewN (Below.refl _ _) n1).trans (hb2.mono (by simp)))
    have hC' := Kd.C_alloc hC (.cells #[.slice A xs.length c] 124)
    have HC := Aside0.mk hC'
    have HBB := Aside0.mk hB
    have HCL2 := Aside0.mk hcl
    clear hC hC' hB hR hb2
    go_wp2_with fail
    refine (srch xs.length (by omega) 79 #[.pointer (some ⟨w2.heap.size, 0, none⟩), .pointer (some ⟨w.heap.size, 0, none⟩)] (fun m => decide (a0 ≤ (xs.getD m z128).f1)) ?mono _ (enters_of Try.func79 (by kernel_rfl) rfl) ?hit).mono ?_
    case mono =>
      intro i j hij hj hi
      have := rises_le HRI.out i j hij hj
      simp only [decide_eq_true_eq] at hi ⊢
      omega
    case hit =>
      rintro i W h0 h1 ⟨m, rfl⟩
      exact clsHit i _ w2.heap.size w.heap.size A c xs a0 HCL2.out hcr (Kd.C_drewN HC.out m) h0 h1
    rintro e w3 ⟨k, rfl, hk, hlo, hhi, ⟨m, rfl⟩⟩
    have HLO := Aside0.mk hlo
    have HHI := Aside0.mk hhi
    clear hlo hhi
    have hlo' : ∀ m : Nat, m < k → (xs.getD m z128).f1 < a0 := fun m hm => by have := HLO.out m hm; simp only [decide_eq_false_iff_not] at this; omega
    by_cases hkl : k < xs.length
    · have hhi' : a0 ≤ (xs.getD k z128).f1 := by have := HHI.out hkl; simpa using this
      obtain ⟨ad, e, c0, c1, c2⟩ := at_T128 HC.out (k : Int) (by omega) (by omega)
      cases e
      have e0 : rd_T128 xs (k : Int) = xs.getD k z128 := rfl
      rw [e0] at c0 c1 c2
      simp only [Int.toNat_natCast] at c0 c1 c2
      clear e0
      have hd1 : decide (k < xs.length) = true := decide_eq_true hkl
      by_cases hf : (xs.getD k z128).f0 ≤ a0
      · have hh := find_hit a0 k hlo' hkl hhi' hf
        have hres : clsOf a0 = (xs.getD k z128).f2 := by rw [HCL.out, hh]
        have HRES := Aside0.mk hres
        have HN := Aside0.mk hlo'
        clear hh hres hhi' hlo' HC
        generalize (xs.getD k z128) = row at *
        have hd2 : decide (row.f0 ≤ a0) = true := decide_eq_true hf
        go_wp2_with fail
        go_quiet (fail)
        go_wp2
        go_ret
        exact ⟨ret_cls HRES.out, by first | exact below_cls1 HBB.out | exact below_cls HBB.out⟩
      · have hf' : a0 < (xs.getD k z128).f0 := by omega
        have hh := find_miss HRI.out a0 k hlo' (fun _ => hf')
        have hres : clsOf a0 = 1 := by rw [HCL.out, hh]
        have HRES := Aside0.mk hres
        clear hh hres hhi' hlo' HC
        generalize (xs.getD k z128) = row at *
        have hd2 : decide (row.f0 ≤ a0) = false := decide_eq_false hf
        go_wp2_with fail
        go_quiet (fail)
        go_wp2
        go_ret
        exact ⟨ret_cls HRES.out, by first | exact below_cls1 HBB.out | exact below_cls HBB.out⟩
    · have hh := find_miss HRI.out a0 k hlo' (fun h => absurd h hkl)
      have hres : clsOf a0 = 1 := by rw [HCL.out, hh]
      have HRES := Aside0.mk hres
      clear hh hres hlo' HC
      have hd1 : decide (k < xs.length) = false := decide_eq_false hkl
      go_wp2_with fail
      go_quiet (fail)
      go_wp2
      go_ret
      exact ⟨ret_cls HRES.out, by first | exact below_cls1 HBB.out | exact below_cls HBB.out⟩
end Go.Proofs.Ytenjldfflkinkaa.F
