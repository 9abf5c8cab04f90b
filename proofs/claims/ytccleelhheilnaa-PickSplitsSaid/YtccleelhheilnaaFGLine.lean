/- order.Line by its contract: the levels of a line, from its end back. -/
import Derived.Test.YtccleelhheilnaaFx0
import Derived.Test.YtccleelhheilnaaFx2
import Derived.Test.YtccleelhheilnaaFx3
import Derived.WalkSpells
import Derived.WalkLawsBesides
import Derived.ScopeJumps
import Derived.WalkMore
import Derived.Scope
import Derived.Test.YtccleelhheilnaaFGOrd
namespace Go.Proofs.Ytccleelhheilnaa.F
set_option linter.unusedVariables false
set_option linter.unusedSimpArgs false
open Go.RowKit Go.Proofs.YtccleelhheilnaaW.PrintWords Go.Proofs.YtccleelhheilnaaW.PrintLast Go.Proofs.YtccleelhheilnaaW.PrintMore

/-! ### a line's levels, over lists -/
def gd (l : List Int) (i : Nat) : Int := l.getD i 0
def looseB (x : Int) : Bool := decide (x = 13 ∨ (20 ≤ x ∧ x ≤ 23))
def partsB (x : Int) : Bool := decide (x = 12 ∨ x = 11)
/-- is the level of the place i the base level, d places ahead of the end? -/
def rstF (c L : List Int) : Nat → Nat → Bool
  | _, 0 => true
  | i, d + 1 => if partsB (gd c i) = true then true else if gd L i < 0 then rstF c L (i + 1) d else if looseB (gd c i) = true then rstF c L (i + 1) d else false
def lineAt (c L : List Int) (base : Int) (te i : Nat) : Int := if 0 ≤ gd L i ∧ rstF c L i (te - i) = true then base else gd L i
/-- the line, of which the places from i on are done -/
def partOf (c L : List Int) (base : Int) (fr te i : Nat) : List Int := (List.range (te - fr)).map fun d => if i ≤ fr + d then lineAt c L base te (fr + d) else gd L (fr + d)
def lineOf (c L : List Int) (base : Int) (fr te : Nat) : List Int := (List.range (te - fr)).map fun d => lineAt c L base te (fr + d)
theorem part_len (c L : List Int) (base : Int) (fr te i : Nat) : (partOf c L base fr te i).length = te - fr := by simp [partOf]
theorem part_all (c L : List Int) (base : Int) (fr te : Nat) : partOf c L base fr te fr = lineOf c L base fr te := by
  unfold partOf lineOf
  apply List.map_congr_left
  intro d _
  rw [if_pos (by omega)]
theorem part_none (c L : List Int) (base : Int) {fr te : Nat} (h : te ≤ L.length) : partOf c L base fr te te = (L.drop fr).take (te - fr) := by
  apply List.ext_getElem
  · simp only [partOf, List.length_map, List.length_range, List.length_take, List.length_drop]; omega
  · intro i h1 h2
    have hi : i < te - fr := by simpa [partOf] using h1
    simp only [partOf, List.getElem_map, List.getElem_range, List.getElem_take, List.getElem_drop]
    rw [if_neg (by omega)]
    simp only [gd, List.getD_eq_getElem?_getD, List.getElem?_eq_getElem (show fr + i < L.length by omega), Option.getD_some]
/-- a place whose level is the base level -/
theorem part_put (c L : List Int) (base : Int) {fr te m : Nat} (h0 : fr ≤ m) (h1 : m < te) (hl : 0 ≤ gd L m) (hr : rstF c L m (te - m) = true) :
    (partOf c L base fr te (m + 1)).set (m - fr) base = partOf c L base fr te m := by
  apply List.ext_getElem
  · simp [partOf]
  · intro i h2 h3
    rw [List.getElem_set]
    simp only [partOf, List.getElem_map, List.getElem_range]
    by_cases e : m - fr = i
    · rw [if_pos e, if_pos (by omega)]
      unfold lineAt
      have : fr + i = m := by omega
      rw [this, if_pos ⟨hl, hr⟩]
    · rw [if_neg e]
      by_cases h4 : m + 1 ≤ fr + i
      · rw [if_pos h4, if_pos (by omega)]
      · rw [if_neg h4, if_neg (by omega)]
/-- one that keeps its level -/
theorem part_keep (c L : List Int) (base : Int) {fr te m : Nat} (h0 : fr ≤ m) (h1 : m < te) (hk : gd L m < 0 ∨ rstF c L m (te - m) = false) :
    partOf c L base fr te (m + 1) = partOf c L base fr te m := by
  apply List.ext_getElem
  · simp [partOf]
  · intro i h2 h3
    simp only [partOf, List.getElem_map, List.getElem_range]
    by_cases h4 : m + 1 ≤ fr + i
    · rw [if_pos h4, if_pos (by omega)]
    · rw [if_neg h4]
      by_cases h5 : m ≤ fr + i
      · rw [if_pos h5]
        have : fr + i = m := by omega
        rw [this]
        unfold lineAt
        rw [if_neg]
        rintro ⟨h6, h7⟩
        rcases hk with hk | hk
        · omega
        · rw [h7] at hk; cases hk
      · rw [if_neg h5]
theorem rst_parts (c L : List Int) {m te : Nat} (h : m < te) (hc : partsB (gd c m) = true) : rstF c L m (te - m) = true := by
  obtain ⟨d, hd⟩ : ∃ d, te - m = d + 1 := ⟨te - m - 1, by omega⟩
  rw [hd, rstF, if_pos hc]
theorem rst_unseen (c L : List Int) {m te : Nat} (h : m < te) (hc : partsB (gd c m) = false) (hl : gd L m < 0) : rstF c L m (te - m) = rstF c L (m + 1) (te - (m + 1)) := by
  obtain ⟨d, hd⟩ : ∃ d, te - m = d + 1 := ⟨te - m - 1, by omega⟩
  have e : te - (m + 1) = d := by omega
  rw [hd, rstF, if_neg (by rw [hc]; decide), if_pos hl, e]
theorem rst_loose (c L : List Int) {m te : Nat} (h : m < te) (hc : partsB (gd c m) = false) (hl : ¬ gd L m < 0) (hs : looseB (gd c m) = true) : rstF c L m (te - m) = rstF c L (m + 1) (te - (m + 1)) := by
  obtain ⟨d, hd⟩ : ∃ d, te - m = d + 1 := ⟨te - m - 1, by omega⟩
  have e : te - (m + 1) = d := by omega
  rw [hd, rstF, if_neg (by rw [hc]; decide), if_neg hl, if_pos hs, e]
theorem rst_fast (c L : List Int) {m te : Nat} (h : m < te) (hc : partsB (gd c m) = false) (hl : ¬ gd L m < 0) (hs : looseB (gd c m) = false) : rstF c L m (te - m) = false := by
  obtain ⟨d, hd⟩ : ∃ d, te - m = d + 1 := ⟨te - m - 1, by omega⟩
  rw [hd, rstF, if_neg (by rw [hc]; decide), if_neg hl, if_neg (by rw [hs]; decide)]
def order_Line.f (l0 l1 : List Int) (a2 a3 a4 : Int) : Option (List Int × Int) := if l1.length < 17592186044416 then (if ¬ l0.length = l1.length ∨ ¬ (a2 = 0 ∨ a2 = 1) ∨ ¬ l1.all fineB = true then some ([], 2) else if a3 < 0 ∨ (l0.length : Int) < a4 ∨ a4 < a3 then some ([], 4) else some (lineOf l0 l1 a2 a3.toNat a4.toNat, 0)) else none

-- WALK
theorem scope_jumps2 {P : Program} {a : Act} {w : World} {Q : Exit → Act → World → Prop} {c X : Code} (l : Nat) (J : Act → World → Prop) (μ : Act → World → Nat) (hf : findLabel c l = some (Code.skip.seq X))
    (pass : ∀ a w, J a w → X.wp P (Exit.jump l (fun a' w' => J a' w' ∧ μ a' w' < μ a w) Q) a w)
    (first : (∀ a w, J a w → X.wp P (Exit.jump l J Q) a w) → c.wp P (Exit.jump l J Q) a w) : (Code.scope c).wp P Q a w :=
  wp_scope_jumps l J μ hf (first fun a w h => wp_mono (pass a w h) fun e a' w' hq => by
    cases e <;> first | exact hq | exact ⟨hq.1, hq.2.1⟩) fun a w h => wp_seq (wp_skip (pass a w h))
def LineJ (l0 l1 : List Int) (A0 A1 : Option Addr) (c0 c1 : Nat) (a2 : Int) (fr te : Nat) (w : World) : Act → World → Prop := fun a' w' => ∃ (m : Nat) (b : Bool) (v : Value), a' = { tmps := #[.slice A0 l0.length c0, .slice A1 l1.length c1, .int .i64 a2, .int .i64 (fr : Int), .int .i64 (te : Int), a'.tmps.getD 5 undef, a'.tmps.getD 6 undef, a'.tmps.getD 7 undef, a'.tmps.getD 8 undef, a'.tmps.getD 9 undef, a'.tmps.getD 10 undef, a'.tmps.getD 11 undef, v, .int .i64 ((m : Int) - 1), .bool b, a'.tmps.getD 15 undef, a'.tmps.getD 16 undef, a'.tmps.getD 17 undef, a'.tmps.getD 18 undef, a'.tmps.getD 19 undef, a'.tmps.getD 20 undef, a'.tmps.getD 21 undef, a'.tmps.getD 22 undef, a'.tmps.getD 23 undef, a'.tmps.getD 24 undef, a'.tmps.getD 25 undef, a'.tmps.getD 26 undef, a'.tmps.getD 27 undef, a'.tmps.getD 28 undef, a'.tmps.getD 29 undef, a'.tmps.getD 30 undef, a'.tmps.getD 31 undef, a'.tmps.getD 32 undef, a'.tmps.getD 33 undef, a'.tmps.getD 34 undef, a'.tmps.getD 35 undef, a'.tmps.getD 36 undef, a'.tmps.getD 37 undef, a'.tmps.getD 38 undef, a'.tmps.getD 39 undef, a'.tmps.getD 40 undef, a'.tmps.getD 41 undef, a'.tmps.getD 42 undef, a'.tmps.getD 43 undef, a'.tmps.getD 44 undef, a'.tmps.getD 45 undef, a'.tmps.getD 46 undef, a'.tmps.getD 47 undef, a'.tmps.getD 48 undef, a'.tmps.getD 49 undef, a'.tmps.getD 50 undef, a'.tmps.getD 51 undef, a'.tmps.getD 52 undef, a'.tmps.getD 53 undef, a'.tmps.getD 54 undef, a'.tmps.getD 55 undef, a'.tmps.getD 56 undef, a'.tmps.getD 57 undef, a'.tmps.getD 58 undef, a'.tmps.getD 59 undef, a'.tmps.getD 60 undef, a'.tmps.getD 61 undef, a'.tmps.getD 62 undef, a'.tmps.getD 63 undef, a'.tmps.getD 64 undef, a'.tmps.getD 65 undef, a'.tmps.getD 66 undef, a'.tmps.getD 67 undef, a'.tmps.getD 68 undef, a'.tmps.getD 69 undef, a'.tmps.getD 70 undef, a'.tmps.getD 71 undef, a'.tmps.getD 72 undef, a'.tmps.getD 73 undef, a'.tmps.getD 74 undef, a'.tmps.getD 75 undef, a'.tmps.getD 76 undef, a'.tmps.getD 77 undef, a'.tmps.getD 78 undef, a'.tmps.getD 79 undef, a'.tmps.getD 80 undef, a'.tmps.getD 81 undef, a'.tmps.getD 82 undef, a'.tmps.getD 83 undef, a'.tmps.getD 84 undef, a'.tmps.getD 85 undef, a'.tmps.getD 86 undef, a'.tmps.getD 87 undef, a'.tmps.getD 88 undef, a'.tmps.getD 89 undef, a'.tmps.getD 90 undef, a'.tmps.getD 91 undef], defers := [] } ∧ fr ≤ m ∧ m ≤ te ∧ Aside0 (b = rstF l0 l1 m (te - m)) ∧ Aside0 (Kd.R (Kd.int .i64) 3 w' w.heap.size (fun _ => True) v (partOf l0 l1 a2 fr te m)) ∧ Aside0 (Below w.heap.size w w')
theorem lineJ_open {l0 l1 : List Int} {A0 A1 : Option Addr} {c0 c1 : Nat} {a2 : Int} {fr te : Nat} {w : World} {a' : Act} {w' : World} (h : LineJ l0 l1 A0 A1 c0 c1 a2 fr te w a' w') :
    ∃ (m : Nat) (b : Bool) (v : Value) (u : Nat → Value), a' = { tmps := #[.slice A0 l0.length c0, .slice A1 l1.length c1, .int .i64 a2, .int .i64 (fr : Int), .int .i64 (te : Int), u 5, u 6, u 7, u 8, u 9, u 10, u 11, v, .int .i64 ((m : Int) - 1), .bool b, u 15, u 16, u 17, u 18, u 19, u 20, u 21, u 22, u 23, u 24, u 25, u 26, u 27, u 28, u 29, u 30, u 31, u 32, u 33, u 34, u 35, u 36, u 37, u 38, u 39, u 40, u 41, u 42, u 43, u 44, u 45, u 46, u 47, u 48, u 49, u 50, u 51, u 52, u 53, u 54, u 55, u 56, u 57, u 58, u 59, u 60, u 61, u 62, u 63, u 64, u 65, u 66, u 67, u 68, u 69, u 70, u 71, u 72, u 73, u 74, u 75, u 76, u 77, u 78, u 79, u 80, u 81, u 82, u 83, u 84, u 85, u 86, u 87, u 88, u 89, u 90, u 91], defers := [] } ∧ fr ≤ m ∧ m ≤ te ∧ Aside0 (b = rstF l0 l1 m (te - m)) ∧ Aside0 (Kd.R (Kd.int .i64) 3 w' w.heap.size (fun _ => True) v (partOf l0 l1 a2 fr te m)) ∧ Aside0 (Below w.heap.size w w') := by
  obtain ⟨m, b, v, ha, r⟩ := h
  exact ⟨m, b, v, fun k => a'.tmps.getD k undef, ha, r⟩

set_option maxRecDepth 100000 in
set_option maxHeartbeats 16000000 in
theorem order_Line.calls (A0 : Option Addr) (c0 : Nat) (l0 : List Int) (A1 : Option Addr) (c1 : Nat) (l1 : List Int) (a2 a3 a4 : Int) (r1 : List Int) (r2 : Int) (w : World) (hr0 : Kd.C (Kd.int .i64) w A0 l0.length l0) (hc0 : l0.length ≤ c0) (hr1 : Kd.C (Kd.int .i64) w A1 l1.length l1) (hc1 : l1.length ≤ c1) (h : order_Line.f l0 l1 a2 a3 a4 = some (r1, r2)) :
    Calls Try.prog 45 #[.slice A0 l0.length c0, .slice A1 l1.length c1, .int .i64 a2, .int .i64 a3, .int .i64 a4] w fun e w' => ∃ v0_ : Value, e = .returned (.tuple #[v0_, .int .i64 r2]) ∧ Kd.R (Kd.int .i64) 3 w' w.heap.size (fun _ => True) v0_ r1 ∧ Below w.heap.size w w' := by
  unfold order_Line.f at h
  by_cases hlen : l1.length < 17592186044416
  · rw [if_pos hlen] at h
    go_enter Try.func45, Try.ntmps45
    have hfo := formed_is l1 (by omega)
    have HFO := Aside0.mk hfo
    clear hfo
    by_cases hE : ¬ l0.length = l1.length ∨ ¬ (a2 = 0 ∨ a2 = 1) ∨ ¬ l1.all fineB = true
    · rw [if_pos hE] at h
      obtain ⟨rfl, rfl⟩ := Prod.mk.inj (Option.some.inj h)
      clear h
      by_cases e1 : l0.length = l1.length
      · have hi1 : (l0.length : Int) = (l1.length : Int) := by omega
        by_cases e2 : a2 = 0 ∨ a2 = 1
        · have e3 : l1.all fineB = false := by
            rcases hE with h | h | h
            · exact absurd e1 h
            · exact absurd e2 h
            · simpa using h
          have HF : Aside0 (order_formed.f (l1.length + 1) l1 = some false) := ⟨by rw [HFO.out, e3]⟩
          clear hE
          rcases e2 with rfl | rfl
          · go_wp2
            go_step3
            go_wp2_with (go_at_call 62; refine (order_formed.calls _ A1 c1 l1 false _ hr1 hc1 HF.out).mono ?_; rintro e w' ⟨rfl, ⟨nd, rfl⟩⟩)
            simp only [Exit.noGoto]
            go_ret2
            exact ⟨_, rfl, Kd.R_nil _ _ _ _ _, pw_below_drewN (Below.refl _ _) _⟩
          · go_wp2
            go_step3
            go_wp2_with (go_at_call 62; refine (order_formed.calls _ A1 c1 l1 false _ hr1 hc1 HF.out).mono ?_; rintro e w' ⟨rfl, ⟨nd, rfl⟩⟩)
            simp only [Exit.noGoto]
            go_ret2
            exact ⟨_, rfl, Kd.R_nil _ _ _ _ _, pw_below_drewN (Below.refl _ _) _⟩
        · have e3 : (a2 != 0) = true := by simpa using fun h => e2 (.inl h)
          have e4 : (a2 != 1) = true := by simpa using fun h => e2 (.inr h)
          have e5 : ¬ a2 = 0 := fun h => e2 (.inl h)
          have e6 : ¬ a2 = 1 := fun h => e2 (.inr h)
          clear hE e2
          go_wp2
          go_step3
          go_wp2
          simp only [Exit.noGoto]
          go_ret2
          exact ⟨_, rfl, Kd.R_nil _ _ _ _ _, Below.refl _ _⟩
      · have hi1 : ¬ (l0.length : Int) = (l1.length : Int) := by omega
        have hi2 : ((l0.length : Int) == (l1.length : Int)) = false := by simpa using hi1
        clear hE
        go_wp2
        go_step3
        go_wp2
        simp only [Exit.noGoto]
        go_ret2
        exact ⟨_, rfl, Kd.R_nil _ _ _ _ _, Below.refl _ _⟩
    rw [if_neg hE] at h
    have hll : l0.length = l1.length := Decidable.byContradiction fun h => hE (.inl h)
    have hba : a2 = 0 ∨ a2 = 1 := Decidable.byContradiction fun h => hE (.inr (.inl h))
    have hfi : l1.all fineB = true := Decidable.byContradiction fun h => hE (.inr (.inr h))
    have HF : Aside0 (order_formed.f (l1.length + 1) l1 = some true) := ⟨by rw [HFO.out, hfi]⟩
    clear HFO hE
    have HLL := Aside0.mk hll
    have hi1 : (l0.length : Int) = (l1.length : Int) := by omega
    clear hll hfi
    by_cases hE2 : a3 < 0 ∨ (l0.length : Int) < a4 ∨ a4 < a3
    · rw [if_pos hE2] at h
      obtain ⟨rfl, rfl⟩ := Prod.mk.inj (Option.some.inj h)
      clear h
      by_cases e1 : a3 < 0
      · clear hE2
        rcases hba with rfl | rfl
        · go_wp2
          go_step3
          go_wp2_with (go_at_call 62; refine (order_formed.calls _ A1 c1 l1 true _ hr1 hc1 HF.out).mono ?_; rintro e w' ⟨rfl, ⟨nd, rfl⟩⟩)
          simp only [Exit.noGoto]
          go_ret2
          exact ⟨_, rfl, Kd.R_nil _ _ _ _ _, pw_below_drewN (Below.refl _ _) _⟩
        · go_wp2
          go_step3
          go_wp2_with (go_at_call 62; refine (order_formed.calls _ A1 c1 l1 true _ hr1 hc1 HF.out).mono ?_; rintro e w' ⟨rfl, ⟨nd, rfl⟩⟩)
          simp only [Exit.noGoto]
          go_ret2
          exact ⟨_, rfl, Kd.R_nil _ _ _ _ _, pw_below_drewN (Below.refl _ _) _⟩
      · have e1' : 0 ≤ a3 := by omega
        by_cases e2 : (l1.length : Int) < a4
        · clear hE2
          rcases hba with rfl | rfl
          · go_wp2
            go_step3
            go_wp2_with (go_at_call 62; refine (order_formed.calls _ A1 c1 l1 true _ hr1 hc1 HF.out).mono ?_; rintro e w' ⟨rfl, ⟨nd, rfl⟩⟩)
            simp only [Exit.noGoto]
            go_ret2
            exact ⟨_, rfl, Kd.R_nil _ _ _ _ _, pw_below_drewN (Below.refl _ _) _⟩
          · go_wp2
            go_step3
            go_wp2_with (go_at_call 62; refine (order_formed.calls _ A1 c1 l1 true _ hr1 hc1 HF.out).mono ?_; rintro e w' ⟨rfl, ⟨nd, rfl⟩⟩)
            simp only [Exit.noGoto]
            go_ret2
            exact ⟨_, rfl, Kd.R_nil _ _ _ _ _, pw_below_drewN (Below.refl _ _) _⟩
        · have e2' : a4 ≤ (l1.length : Int) := by omega
          have e3 : a4 < a3 := by omega
          clear hE2
          rcases hba with rfl | rfl
          · go_wp2
            go_step3
            go_wp2_with (go_at_call 62; refine (order_formed.calls _ A1 c1 l1 true _ hr1 hc1 HF.out).mono ?_; rintro e w' ⟨rfl, ⟨nd, rfl⟩⟩)
            simp only [Exit.noGoto]
            go_ret2
            exact ⟨_, rfl, Kd.R_nil _ _ _ _ _, pw_below_drewN (Below.refl _ _) _⟩
          · go_wp2
            go_step3
            go_wp2_with (go_at_call 62; refine (order_formed.calls _ A1 c1 l1 true _ hr1 hc1 HF.out).mono ?_; rintro e w' ⟨rfl, ⟨nd, rfl⟩⟩)
            simp only [Exit.noGoto]
            go_ret2
            exact ⟨_, rfl, Kd.R_nil _ _ _ _ _, pw_below_drewN (Below.refl _ _) _⟩
    rw [if_neg hE2] at h
    obtain ⟨fr, rfl⟩ : ∃ fr : Nat, a3 = (fr : Int) := ⟨a3.toNat, by omega⟩
    obtain ⟨te, rfl⟩ : ∃ te : Nat, a4 = (te : Int) := ⟨a4.toNat, by omega⟩
    rw [Int.toNat_natCast, Int.toNat_natCast] at h
    obtain ⟨h1, rfl⟩ := Prod.mk.inj (Option.some.inj h)
    have H := Aside0.mk h1
    clear h h1
    have hte : te ≤ l1.length := by omega
    have hft : fr ≤ te := by omega
    clear hE2
    go_wp2
    refine scope_jumps2 (X := ?rest) 0 (LineJ l0 l1 A0 A1 c0 c1 a2 fr te w) (fun a' _ => (intOf (a'.tmps.getD 13 undef) + 1).toNat) ?hf ?pass ?first
    case hf => rfl
    case first =>
      intro pass
      have PASS := Aside0.mk pass
      clear pass
      have hi2 : (fr : Int) ≤ (te : Int) := by omega
      have hi3 : (te : Int) ≤ (l1.length : Int) := by omega
      by_cases hft2 : fr = te
      · subst hft2
        have hp0 : ∀ a2, partOf l0 l1 a2 fr fr fr = [] := fun a2 => by simp [partOf]
        have HP0 := Aside0.mk hp0
        clear hp0
        have hcc : fr ≤ c1 := by omega
        clear hi2 hft
        have HC1 := Aside0.mk hc1
        clear hc1
        rcases hba with rfl | rfl
        · go_wp2_with (first
              | (go_at_call 62; refine (order_formed.calls _ _ c1 l1 true _ hr1 HC1.out HF.out).mono ?_; rintro e w' ⟨rfl, ⟨nd, rfl⟩⟩)
              | ((with_reducible refine gate_dst (N := 41) rfl ?_); refine Kd.R_lit (Kd.int .i64) w.heap.size 3 rfl (N := 41) rfl (xs := ([] : List Int)) (inner := []) (ok := fun _ => True) (okp := fun _ => True) ?hr (Reps.none _ _) (fun _ hk => hk) trivial (pw_below_drewN (Below.refl _ w) nd) (Nat.le_refl _) (by simp) ?_; (case hr => first | (go_simp; done) | (go_simp; rfl)); intro v1 w1 ho1 hb1 hg1 hn1; have HO1 := Aside0.mk ho1; have HB1 := Aside0.mk hb1; clear hg1 hn1 ho1 hb1)
              | ((with_reducible refine gate_builtin (b := .append) (xs := #[.tmp 41, .tmp 45]) rfl ?_); at_builtin; refine Kd.R_append_rows (Kd.int .i64) (Rr := (Kd.int .i64).M w1 w.heap.size (fun _ => False)) (w0 := w) w.heap.size rfl (.tmp 41) (.tmp 45) 22 3 (.int .i64 0) 8 rfl Try.underlying22 info3 rfl (by decide) (by omega) v1 ([] : List Int) ([] : List Int) _ 0 _ (fun _ => True) (fun _ => False) rfl rfl HO1.out ⟨rfl, Nat.zero_le _, fun h => absurd h (Nat.lt_irrefl 0)⟩ (fun _ _ h => h) (fun _ h => h.elim) (fun _ _ => trivial) HB1.out HB1.out.size (by simp) ?_; intro v2 w2 ho2 hb2 hg2 hn2; have HO2 := Aside0.mk ho2; have HB2 := Aside0.mk hb2; clear hg2 hn2 ho2 hb2 HB1 HO1))
          all_goals
            go_step3
            simp only [Exit.then]
            apply_assumption
            exact PASS.out _ _ ⟨fr, true, v2, (by first | (have hcf : c1 = fr := (by assumption); rw [hcf]; first | done | rfl) | rfl), Nat.le_refl _, Nat.le_refl _, ⟨by rw [Nat.sub_self]; rfl⟩, ⟨by have h1 := HO2.out; rw [HP0.out]; exact h1⟩, HB2⟩
        · go_wp2_with (first
              | (go_at_call 62; refine (order_formed.calls _ _ c1 l1 true _ hr1 HC1.out HF.out).mono ?_; rintro e w' ⟨rfl, ⟨nd, rfl⟩⟩)
              | ((with_reducible refine gate_dst (N := 41) rfl ?_); refine Kd.R_lit (Kd.int .i64) w.heap.size 3 rfl (N := 41) rfl (xs := ([] : List Int)) (inner := []) (ok := fun _ => True) (okp := fun _ => True) ?hr (Reps.none _ _) (fun _ hk => hk) trivial (pw_below_drewN (Below.refl _ w) nd) (Nat.le_refl _) (by simp) ?_; (case hr => first | (go_simp; done) | (go_simp; rfl)); intro v1 w1 ho1 hb1 hg1 hn1; have HO1 := Aside0.mk ho1; have HB1 := Aside0.mk hb1; clear hg1 hn1 ho1 hb1)
              | ((with_reducible refine gate_builtin (b := .append) (xs := #[.tmp 41, .tmp 45]) rfl ?_); at_builtin; refine Kd.R_append_rows (Kd.int .i64) (Rr := (Kd.int .i64).M w1 w.heap.size (fun _ => False)) (w0 := w) w.heap.size rfl (.tmp 41) (.tmp 45) 22 3 (.int .i64 0) 8 rfl Try.underlying22 info3 rfl (by decide) (by omega) v1 ([] : List Int) ([] : List Int) _ 0 _ (fun _ => True) (fun _ => False) rfl rfl HO1.out ⟨rfl, Nat.zero_le _, fun h => absurd h (Nat.lt_irrefl 0)⟩ (fun _ _ h => h) (fun _ h => h.elim) (fun _ _ => trivial) HB1.out HB1.out.size (by simp) ?_; intro v2 w2 ho2 hb2 hg2 hn2; have HO2 := Aside0.mk ho2; have HB2 := Aside0.mk hb2; clear hg2 hn2 ho2 hb2 HB1 HO1))
          all_goals
            go_step3
            simp only [Exit.then]
            apply_assumption
            exact PASS.out _ _ ⟨fr, true, v2, (by first | (have hcf : c1 = fr := (by assumption); rw [hcf]; first | done | rfl) | rfl), Nat.le_refl _, Nat.le_refl _, ⟨by rw [Nat.sub_self]; rfl⟩, ⟨by have h1 := HO2.out; rw [HP0.out]; exact h1⟩, HB2⟩
      · have hc2 : ¬ c1 = fr := by omega
        have hmid := Kd.C_mid (lo := fr) (hi := te) hr1 hft hte hc1
        rw [if_neg hc2] at hmid
        obtain ⟨ad, rfl, -⟩ := num_read64 hr1 (fr : Int) (by omega) (by omega)
        have hys : (l1.take te).drop fr = partOf l0 l1 a2 fr te te := by
          rw [part_none l0 l1 a2 hte, List.drop_take]
        have hlen2 : (partOf l0 l1 a2 fr te te).length = te - fr := part_len _ _ _ _ _ _
        rw [hys, hlen2] at hmid
        have hmid2 : Kd.C (Kd.int .i64) w (some (ad.add fr)) (te - fr) (partOf l0 l1 a2 fr te te) := by
          have e : fr * (Kd.int .i64).sz = fr := Nat.mul_one fr
          rw [Option.map_some, e] at hmid
          exact hmid
        have HM := Aside0.mk hmid2
        clear hmid hmid2 hys hlen2
        obtain ⟨ys, hys⟩ : ∃ ys, partOf l0 l1 a2 fr te te = ys := ⟨_, rfl⟩
        rw [hys] at HM
        have HYS := Aside0.mk hys
        clear hys
        have hml : te - fr ≤ 17592186044416 := by omega
        rcases hba with rfl | rfl
        · go_wp2_with (first
            | (go_at_call 62; refine (order_formed.calls _ (some ad) c1 l1 true _ hr1 hc1 HF.out).mono ?_; rintro e w' ⟨rfl, ⟨nd, rfl⟩⟩)
            | ((with_reducible refine gate_dst (N := 41) rfl ?_); refine Kd.R_lit (Kd.int .i64) w.heap.size 3 rfl (N := 41) rfl (xs := ([] : List Int)) (inner := []) (ok := fun _ => True) (okp := fun _ => True) ?hr (Reps.none _ _) (fun _ hk => hk) trivial (pw_below_drewN (Below.refl _ w) nd) (Nat.le_refl _) (by simp) ?_; (case hr => first | (go_simp; done) | (go_simp; rfl)); intro v1 w1 ho1 hb1 hg1 hn1; have HO1 := Aside0.mk ho1; have HB1 := Aside0.mk hb1; clear hg1 hn1 ho1 hb1)
            | ((with_reducible refine gate_builtin (b := .append) (xs := #[.tmp 41, .tmp 45]) rfl ?_); at_builtin; refine Kd.R_append_rows (Kd.int .i64) (w0 := w) w.heap.size rfl (.tmp 41) (.tmp 45) 22 3 (.int .i64 0) 8 rfl Try.underlying22 info3 rfl (by decide) (by omega) v1 ([] : List Int) ys _ _ _ (fun _ => True) (fun _ => False) rfl rfl HO1.out (Kd.C_below HM.out HB1.out) (fun _ _ h => h) (fun _ h => h.elim) (fun _ _ => trivial) HB1.out HB1.out.size (by simp; omega) ?_; intro v2 w2 ho2 hb2 hg2 hn2; have HO2 := Aside0.mk ho2; have HB2 := Aside0.mk hb2; clear hg2 hn2 ho2 hb2 HB1 HO1))
          go_step3
          simp only [Exit.then]
          apply_assumption
          exact PASS.out _ _ ⟨te, true, v2, rfl, hft, Nat.le_refl _, ⟨by rw [Nat.sub_self]; rfl⟩, ⟨by have h1 := HO2.out; rw [List.nil_append, ← HYS.out] at h1; exact h1⟩, HB2⟩
        · go_wp2_with (first
            | (go_at_call 62; refine (order_formed.calls _ (some ad) c1 l1 true _ hr1 hc1 HF.out).mono ?_; rintro e w' ⟨rfl, ⟨nd, rfl⟩⟩)
            | ((with_reducible refine gate_dst (N := 41) rfl ?_); refine Kd.R_lit (Kd.int .i64) w.heap.size 3 rfl (N := 41) rfl (xs := ([] : List Int)) (inner := []) (ok := fun _ => True) (okp := fun _ => True) ?hr (Reps.none _ _) (fun _ hk => hk) trivial (pw_below_drewN (Below.refl _ w) nd) (Nat.le_refl _) (by simp) ?_; (case hr => first | (go_simp; done) | (go_simp; rfl)); intro v1 w1 ho1 hb1 hg1 hn1; have HO1 := Aside0.mk ho1; have HB1 := Aside0.mk hb1; clear hg1 hn1 ho1 hb1)
            | ((with_reducible refine gate_builtin (b := .append) (xs := #[.tmp 41, .tmp 45]) rfl ?_); at_builtin; refine Kd.R_append_rows (Kd.int .i64) (w0 := w) w.heap.size rfl (.tmp 41) (.tmp 45) 22 3 (.int .i64 0) 8 rfl Try.underlying22 info3 rfl (by decide) (by omega) v1 ([] : List Int) ys _ _ _ (fun _ => True) (fun _ => False) rfl rfl HO1.out (Kd.C_below HM.out HB1.out) (fun _ _ h => h) (fun _ h => h.elim) (fun _ _ => trivial) HB1.out HB1.out.size (by simp; omega) ?_; intro v2 w2 ho2 hb2 hg2 hn2; have HO2 := Aside0.mk ho2; have HB2 := Aside0.mk hb2; clear hg2 hn2 ho2 hb2 HB1 HO1))
          go_step3
          simp only [Exit.then]
          apply_assumption
          exact PASS.out _ _ ⟨te, true, v2, rfl, hft, Nat.le_refl _, ⟨by rw [Nat.sub_self]; rfl⟩, ⟨by have h1 := HO2.out; rw [List.nil_append, ← HYS.out] at h1; exact h1⟩, HB2⟩
    case pass =>
      intro a' w' hJ
      obtain ⟨m, b, v, u, rfl, hm0, hm1, HB, HR, HW⟩ := lineJ_open hJ
      clear hJ
      by_cases hm : m = fr
      · subst hm
        have hlt : (m : Int) - 1 < (m : Int) := by omega
        go_wp2
        simp only [Exit.jump]
        go_ret2
        refine ⟨_, rfl, ?_, HW.out⟩
        have h1 := HR.out
        rw [part_all, H.out] at h1
        exact h1
      · obtain ⟨k, rfl⟩ : ∃ k, m = k + 1 := ⟨m - 1, by omega⟩
        have e1 : ((k + 1 : Nat) : Int) - 1 = (k : Int) := by omega
        rw [e1]
        have hkf : ¬ (k : Int) < (fr : Int) := by omega
        have hkn : k < l1.length := by omega
        have hkm : k ≤ 17592186044416 := by omega
        have hk0 : k < l0.length := by have := HLL.out; omega
        clear e1
        obtain ⟨ad0, rfl, hc⟩ := num_read64 (Kd.C_below hr0 HW.out) (k : Int) (by omega) (by omega)
        obtain ⟨ad1, rfl, hl⟩ := num_read64 (Kd.C_below hr1 HW.out) (k : Int) (by omega) (by omega)
        rw [Int.toNat_natCast] at hc hl
        obtain ⟨x, hx⟩ : ∃ x, gd l0 k = x := ⟨_, rfl⟩
        obtain ⟨y, hy⟩ : ∃ y, gd l1 k = y := ⟨_, rfl⟩
        have hx2 : rd l0 (k : Int) = x := by rw [← hx]; simp only [rd, gd, Int.toNat_natCast]
        have hy2 : rd l1 (k : Int) = y := by rw [← hy]; simp only [rd, gd, Int.toNat_natCast]
        rw [hx2] at hc
        rw [hy2] at hl
        have HX := Aside0.mk hx
        have HY := Aside0.mk hy
        clear hx hy hx2 hy2
        have hkt : k < te := by omega
        by_cases hp : partsB x = true
        · have hr : Aside0 (true = rstF l0 l1 k (te - k)) := ⟨(rst_parts l0 l1 hkt (by rw [HX.out]; exact hp)).symm⟩
          have hp2 : x = 12 ∨ x = 11 := by simpa [partsB] using hp
          by_cases hy0 : y ≥ 0
          · obtain ⟨g, cap, hv, hbase, -, -⟩ := Kd.R_form HR.out (by rw [part_len]; omega)
            rw [part_len] at hv
            subst hv
            have HR2 : Kd.R (Kd.int .i64) 3 w' w.heap.size (fun _ => True) (.slice (some ⟨g, 0, none⟩) (partOf l0 l1 a2 fr te (k + 1)).length cap) (partOf l0 l1 a2 fr te (k + 1)) := by rw [part_len]; exact HR.out
            obtain ⟨hc3, hc4⟩ := Kd.R_cell 0 HR2 ((k - fr : Nat) : Int) (by omega) (by rw [part_len]; omega)
            have HP := Aside0.mk (Kd.R_put HR2 ((k - fr : Nat) : Int) a2).1
            rw [Int.toNat_natCast] at hc3 hc4
            clear HR2
            have hcap : te - fr ≤ cap := (Kd.R_reads' HR.out).2.1
            rcases hp2 with rfl | rfl
            · go_wp2
              go_step3
              refine ⟨rfl, ⟨k, true, _, rfl, by omega, by omega, hr, ⟨?_⟩, ⟨HW.out.setCell (p := ⟨g, k - fr, none⟩) hbase _⟩⟩, by simp [intOf] <;> omega⟩
              have h1 := HP.out
              rw [part_len, Int.toNat_natCast, part_put l0 l1 a2 (by omega) hkt (by rw [HY.out]; omega) hr.out.symm] at h1
              exact h1
            · go_wp2
              go_step3
              refine ⟨rfl, ⟨k, true, _, rfl, by omega, by omega, hr, ⟨?_⟩, ⟨HW.out.setCell (p := ⟨g, k - fr, none⟩) hbase _⟩⟩, by simp [intOf] <;> omega⟩
              have h1 := HP.out
              rw [part_len, Int.toNat_natCast, part_put l0 l1 a2 (by omega) hkt (by rw [HY.out]; omega) hr.out.symm] at h1
              exact h1
          · have hyn : y < 0 := by omega
            rcases hp2 with rfl | rfl
            · go_wp2
              go_step3
              refine ⟨rfl, ⟨k, true, _, rfl, by omega, by omega, hr, ⟨?_⟩, ⟨HW.out⟩⟩, by simp [intOf] <;> omega⟩
              have h1 := HR.out
              rw [part_keep l0 l1 a2 (by omega) hkt (.inl (by rw [HY.out]; exact hyn))] at h1
              exact h1
            · go_wp2
              go_step3
              refine ⟨rfl, ⟨k, true, _, rfl, by omega, by omega, hr, ⟨?_⟩, ⟨HW.out⟩⟩, by simp [intOf] <;> omega⟩
              have h1 := HR.out
              rw [part_keep l0 l1 a2 (by omega) hkt (.inl (by rw [HY.out]; exact hyn))] at h1
              exact h1
        · have hp1 : ¬ x = 12 := fun e => hp (by rw [e]; rfl)
          have hp2 : ¬ x = 11 := fun e => hp (by rw [e]; rfl)
          have hb12 : (x == 12) = false := by simpa using hp1
          have hb11 : (x == 11) = false := by simpa using hp2
          have hpf : partsB (gd l0 k) = false := by rw [HX.out]; simpa using hp
          have HPF := Aside0.mk hpf
          clear hpf
          by_cases hy0 : y < 0
          · have hr : Aside0 (b = rstF l0 l1 k (te - k)) := ⟨by rw [rst_unseen l0 l1 hkt HPF.out (by rw [HY.out]; exact hy0)]; exact HB.out⟩
            go_wp2
            go_step3
            refine ⟨rfl, ⟨k, b, _, rfl, by omega, by omega, hr, ⟨?_⟩, ⟨HW.out⟩⟩, by simp [intOf] <;> omega⟩
            have h1 := HR.out
            rw [part_keep l0 l1 a2 (by omega) hkt (.inl (by rw [HY.out]; exact hy0))] at h1
            exact h1
          · have hyn : ¬ gd l1 k < 0 := by rw [HY.out]; exact hy0
            have HYN := Aside0.mk hyn
            clear hyn
            have hy1 : y ≥ 0 := by omega
            have hls : order_loose.f x = some (looseB x) := by
              unfold order_loose.f looseB
              by_cases e1 : x = 13
              · rw [if_pos e1, decide_eq_true (.inl e1)]
              · rw [if_neg e1]
                by_cases e2 : x ≥ 20
                · rw [if_pos e2]
                  congr 1
                  by_cases e3 : x ≤ 23
                  · rw [decide_eq_true e3, decide_eq_true (.inr ⟨e2, e3⟩)]
                  · rw [decide_eq_false e3, decide_eq_false (fun h => h.elim e1 fun h => e3 h.2)]
                · rw [if_neg e2, decide_eq_false (fun h => h.elim e1 fun h => e2 h.1)]
            obtain ⟨ls, hls2⟩ : ∃ ls, looseB x = ls := ⟨_, rfl⟩
            rw [hls2] at hls
            have HLS := Aside0.mk hls
            have HL2 := Aside0.mk hls2
            clear hls hls2
            cases ls with
            | false =>
              have hr : Aside0 (false = rstF l0 l1 k (te - k)) := ⟨(rst_fast l0 l1 hkt HPF.out HYN.out (by rw [HX.out]; exact HL2.out)).symm⟩
              go_wp2_with (go_at_call 64; refine (order_loose.calls x false _ HLS.out).mono ?_; rintro e w2 ⟨rfl, ⟨nd, rfl⟩⟩)
              go_step3
              refine ⟨rfl, ⟨k, false, _, rfl, by omega, by omega, hr, ⟨?_⟩, ⟨pw_below_drewN HW.out _⟩⟩, by simp [intOf] <;> omega⟩
              have h1 := HR.out
              rw [part_keep l0 l1 a2 (by omega) hkt (.inr hr.out.symm)] at h1
              exact Kd.R_drewN h1 _
            | true =>
              have hr : Aside0 (b = rstF l0 l1 k (te - k)) := ⟨by rw [rst_loose l0 l1 hkt HPF.out HYN.out (by rw [HX.out]; exact HL2.out)]; exact HB.out⟩
              cases b with
              | false =>
                go_wp2_with (go_at_call 64; refine (order_loose.calls x true _ HLS.out).mono ?_; rintro e w2 ⟨rfl, ⟨nd, rfl⟩⟩)
                go_step3
                refine ⟨rfl, ⟨k, false, _, rfl, by omega, by omega, hr, ⟨?_⟩, ⟨pw_below_drewN HW.out _⟩⟩, by simp [intOf] <;> omega⟩
                have h1 := HR.out
                rw [part_keep l0 l1 a2 (by omega) hkt (.inr hr.out.symm)] at h1
                exact Kd.R_drewN h1 _
              | true =>
                obtain ⟨g, cap, hv, hbase, -, -⟩ := Kd.R_form HR.out (by rw [part_len]; omega)
                rw [part_len] at hv
                subst hv
                have HR2 : Kd.R (Kd.int .i64) 3 w' w.heap.size (fun _ => True) (.slice (some ⟨g, 0, none⟩) (partOf l0 l1 a2 fr te (k + 1)).length cap) (partOf l0 l1 a2 fr te (k + 1)) := by rw [part_len]; exact HR.out
                obtain ⟨hc3, hc4⟩ := Kd.R_cell 0 HR2 ((k - fr : Nat) : Int) (by omega) (by rw [part_len]; omega)
                have HP := Aside0.mk (Kd.R_put HR2 ((k - fr : Nat) : Int) a2).1
                rw [Int.toNat_natCast] at hc3 hc4
                clear HR2
                have hcap : te - fr ≤ cap := (Kd.R_reads' HR.out).2.1
                go_wp2_with (go_at_call 64; refine (order_loose.calls x true _ HLS.out).mono ?_; rintro e w2 ⟨rfl, ⟨nd, rfl⟩⟩)
                go_step3
                refine ⟨rfl, ⟨k, true, _, rfl, by omega, by omega, hr, ⟨?_⟩, ⟨(pw_below_drewN HW.out nd).setCell (p := ⟨g, k - fr, none⟩) hbase _⟩⟩, by simp [intOf] <;> omega⟩
                have h1 := HP.out
                rw [part_len, Int.toNat_natCast, part_put l0 l1 a2 (by omega) hkt (by rw [HY.out]; omega) hr.out.symm] at h1
                exact h1
  · rw [if_neg hlen] at h
    cases h
end Go.Proofs.Ytccleelhheilnaa.F
