/- The contracts of grown, of, New. -/
import Derived.Test.YtenjldfflkinkaaFGRopC
import Derived.IntWalk
namespace Go.Proofs.Ytenjldfflkinkaa.Rop
set_option linter.unusedVariables false
set_option linter.unusedSimpArgs false
open Go.RowKit Go.Proofs.Ytenjldfflkinkaa.F Go.Proofs.YtenjldfflkinkaaW.PrintWords Go.Proofs.YtenjldfflkinkaaW.PrintLast Go.Proofs.YtenjldfflkinkaaW.PrintMore

theorem rune_at {w : World} {A : Option Addr} {zs : List Int} (h : Kd.C (Kd.int .i32) w A zs.length zs) (k : Nat) (hk : k < zs.length) : ∃ ad, A = some ad ∧ w.cell? (ad.add k) = some (.int .i32 (zs.getD k 0)) := by
  obtain ⟨ad, c, e, hc1, hK, hc0⟩ := Kd.C_get h 0 (k : Int) (by omega) (by omega)
  have hK' : c = [.int .i32 (zs.getD k 0)] := hK
  subst hK'
  have := hc0 0 _ rfl
  refine ⟨ad, e, ?_⟩
  have h1 : (k : Int).toNat * (Kd.int .i32).sz + 0 = k := by show k * 1 + 0 = k; omega
  rw [h1] at this
  exact this
set_option maxRecDepth 100000 in
set_option maxHeartbeats 4000000 in
theorem grown_step {w : World} {ad : Addr} {n h c : Nat} {x : Int} {B : Option Addr} {t u : RT} (hn : 0 < n) (hh : (n : Int) / 2 = (h : Int)) (hc : n ≤ c) (hB : B = if c = h + 1 then some ad else some (ad.add (h + 1))) (hx : w.cell? (ad.add h) = some (.int .i32 x)) (hm : c ≤ 9223372036854775807)
    (g1 : ∀ W, Below w.heap.size w W → Calls Try.prog 34 #[.slice (some ad) h c] W (Gives t W))
    (g2 : ∀ W, Below w.heap.size w W → Calls Try.prog 34 #[.slice B (n - (h + 1)) (c - (h + 1))] W (Gives u W)) (hs : t.sz + u.sz ≤ 800000000000000) :
    Calls Try.prog 34 #[.slice (some ad) n c] w (Gives (RT.node t x u) w) := by
  have hlt := World.block_lt_of_cell? w _ hx
  have hlen : ((n : Int) == 0) = false := by simp; omega
  have h1 : (h : Int) < (n : Int) := by omega
  have h2 : (0 : Int) ≤ (h : Int) := by omega
  have h3 : (h : Int) ≤ (c : Int) := by omega
  have h4 : (h : Int) + 1 ≤ (n : Int) := by omega
  obtain ⟨i0, hi, hz0, hz1, hz2⟩ := info_parts info21
  have hw : IntKind.i64.wrap ((h : Int) + 1) = (h : Int) + 1 := by rw [IntWalk.i64_in _ (by omega)]
  have hcut1 : ∀ W : World, (Instr.slice 23 (.slice (some ad) n c) none (some (.int .i64 (h : Int))) none).run Try.prog W = .ok (.slice (some ad) h c) W := fun W => by
    have := cut_to 23 21 .i64 Try.underlying23 hi (some ad) n c (h : Int) h2 (by omega) hc W
    simpa using this
  have hcut2 : ∀ W : World, (Instr.slice 23 (.slice (some ad) n c) (some (.int .i64 ((h : Int) + 1))) none none).run Try.prog W = .ok (.slice B (n - (h + 1)) (c - (h + 1))) W := fun W => by
    have := cut_from 23 21 .i64 Try.underlying23 hi 1 hz1 (some ad) n c ((h : Int) + 1) (by omega) (by omega) W
    rw [this, hB]
    have e1 : ((h : Int) + 1).toNat = h + 1 := by omega
    rw [e1]
    by_cases hc1 : c = h + 1 <;> simp [hc1]
  clear hB
  have hx0 : (0 : Int) ≤ (h : Int) := h2
  have G1 := Aside0.mk g1
  have G2 := Aside0.mk g2
  clear g1 g2 hi hz0 hz1 hz2
  go_enter Try.func34, Try.ntmps34
  go_wp2
  go_region_held3 (fun W' => W'.cell? (ad.add h) = some (.int .i32 x) ∧ Below w.heap.size w W')
    (((try dsimp only); (repeat' apply And.intro); all_goals (first | assumption | exact Below.refl _ _ | exact below_drew1 (Below.refl _ _) | exact below_drew1 (by assumption) | exact below_step (by assumption) (by assumption) | go_keep)))
    (first
      | (go_at_call 34; (with_reducible refine (G1.out _ (by (first | assumption | exact Below.refl _ _ | exact pw_below_drewN (Below.refl _ _) _ | exact below_drew1 (pw_below_drewN (Below.refl _ _) _) | exact below_drew1 (Below.refl _ _) | exact pw_below_drewN (by assumption) _ | exact below_drew1 (by assumption)))).mono ?_); rintro e w1 ⟨p1, rfl, hn1, hb1⟩; have hbt1 := below_step (w := w) (by (first | assumption | exact Below.refl _ _ | exact pw_below_drewN (Below.refl _ _) _ | exact below_drew1 (pw_below_drewN (Below.refl _ _) _) | exact below_drew1 (Below.refl _ _) | exact pw_below_drewN (by assumption) _ | exact below_drew1 (by assumption))) hb1; have k1 := (hbt1.cell (p := ad.add h) hlt).trans hx)
      | (go_at_call 34; (with_reducible refine (G2.out _ (by assumption)).mono ?_); rintro e w2 ⟨p2, rfl, hn2, hb2⟩; have hbt2 := below_step (w := w) hbt1 hb2; have k2 := (hbt2.cell (p := ad.add h) hlt).trans hx)
      | (go_at_call 59; (with_reducible refine (made_calls (l := t) (r := u) (hn1.below hb2) hn2 (by omega)).mono ?_); rintro e w3 ⟨p3, rfl, hn3, hb3⟩; have hbt3 := below_step (w := w) hbt2 hb3; have k3 := (hbt3.cell (p := ad.add h) hlt).trans hx))
  go_wp2
  go_ret
  exact ⟨p3, rfl, hn3, hbt3⟩
theorem grown_nil {w : World} {A : Option Addr} {c : Nat} : Calls Try.prog 34 #[.slice A 0 c] w (Gives .nil w) := by
  go_enter Try.func34, Try.ntmps34
  go_wp2
  go_ret
  exact ⟨none, rfl, Nd.nil _, Below.refl _ _⟩
theorem grown_n : ∀ (k : Nat) (zs : List Int), zs.length ≤ k → zs.length ≤ 800000000000000 → ∀ {w : World} {A : Option Addr} {c : Nat}, Kd.C (Kd.int .i32) w A zs.length zs → zs.length ≤ c → c ≤ 9223372036854775807 → Calls Try.prog 34 #[.slice A zs.length c] w (Gives (RT.grown k zs) w)
  | 0, zs, h, _, w, A, c, _, _, _ => by
    have : zs.length = 0 := by omega
    rw [this]
    exact grown_nil
  | k + 1, zs, h, hb, w, A, c, hC, hc, hm => by
    unfold RT.grown
    by_cases h0 : zs.length = 0
    · rw [if_pos h0, h0]
      exact grown_nil
    · rw [if_neg h0]
      obtain ⟨ad, rfl, hx⟩ := rune_at hC (zs.length / 2) (by omega)
      have hl1 : (zs.take (zs.length / 2)).length = zs.length / 2 := by rw [List.length_take]; omega
      have hl2 : (zs.drop (zs.length / 2 + 1)).length = zs.length - (zs.length / 2 + 1) := by rw [List.length_drop]
      have hC1 := Kd.C_take hC (m := zs.length / 2) (by omega)
      have hC2 := Kd.C_drop hC (m := zs.length / 2 + 1) (by omega) hc
      have s1 : (RT.grown k (zs.take (zs.length / 2))).sz = zs.length / 2 := by rw [← RT.toL_len, RT.grown_toL k _ (by omega), hl1]
      have s2 : (RT.grown k (zs.drop (zs.length / 2 + 1))).sz = zs.length - (zs.length / 2 + 1) := by rw [← RT.toL_len, RT.grown_toL k _ (by omega), hl2]
      refine grown_step (h := zs.length / 2) (by omega) (by omega) hc rfl hx hm (fun W hW => ?_) (fun W hW => ?_) (by omega)
      · have := grown_n k (zs.take (zs.length / 2)) (by omega) (by omega) (w := W) (c := c) (Kd.C_below hC1 hW) (by omega) hm
        rw [hl1] at this
        exact this
      · have := grown_n k (zs.drop (zs.length / 2 + 1)) (by omega) (by omega) (w := W) (c := c - (zs.length / 2 + 1)) (Kd.C_below hC2 hW) (by omega) (by omega)
        rw [hl2] at this
        have e : (if c = zs.length / 2 + 1 then some ad else Option.map (fun x => x.add ((zs.length / 2 + 1) * (Kd.int IntKind.i32).sz)) (some ad)) = (if c = zs.length / 2 + 1 then some ad else some (ad.add (zs.length / 2 + 1))) := by
          show (if c = zs.length / 2 + 1 then some ad else some (ad.add ((zs.length / 2 + 1) * 1))) = _
          rw [Nat.mul_one]
        rw [e] at this
        exact this
theorem grown_calls {zs : List Int} {w : World} {A : Option Addr} {c : Nat} (hC : Kd.C (Kd.int .i32) w A zs.length zs) (hc : zs.length ≤ c) (hm : c ≤ 9223372036854775807) (hb : zs.length ≤ 800000000000000) : Calls Try.prog 34 #[.slice A zs.length c] w (Gives (RT.of zs) w) :=
  grown_n _ zs (Nat.le_refl _) hb hC hc hm
/-! ### ropes -/
/-- a rope that a call made -/
def IsR (W : World) (p : Option Addr) (t : RT) : Prop := ∃ (b : Nat) (q : Option Addr), p = some ⟨b, 0, none⟩ ∧ b < W.heap.size ∧ W.cell? ⟨b, 0, none⟩ = some (.bool true) ∧ W.cell? ⟨b, 1, none⟩ = some (.pointer q) ∧ Nd W q t
theorem IsR.below {A B : World} {p : Option Addr} {t : RT} (h : IsR A p t) (hb : Below A.heap.size A B) : IsR B p t := by
  obtain ⟨b, q, rfl, h1, h2, h3, h4⟩ := h
  exact ⟨b, q, rfl, Nat.lt_of_lt_of_le h1 hb.size, (hb.cell (p := ⟨b, 0, none⟩) h1).trans h2, (hb.cell (p := ⟨b, 1, none⟩) h1).trans h3, h4.below hb⟩
/-- a rope that is nil, or that no call made -/
def NoR (W : World) (p : Option Addr) : Prop := p = none ∨ ∃ b, p = some ⟨b, 0, none⟩ ∧ b < W.heap.size ∧ W.cell? ⟨b, 0, none⟩ = some (.bool false)
theorem NoR.below {A B : World} {p : Option Addr} (h : NoR A p) (hb : Below A.heap.size A B) : NoR B p := by
  rcases h with h | ⟨b, rfl, h1, h2⟩
  · exact .inl h
  · exact .inr ⟨b, rfl, Nat.lt_of_lt_of_le h1 hb.size, (hb.cell (p := ⟨b, 0, none⟩) h1).trans h2⟩
def GivesR (t : RT) (w : World) (e : Ending) (w' : World) : Prop := ∃ p, e = .returned (.pointer p) ∧ IsR w' p t ∧ Below w.heap.size w w'
theorem of_calls {w : World} {p : Option Addr} {t : RT} (h : Nd w p t) : Calls Try.prog 33 #[.pointer p] w (GivesR t w) := by
  have H := Aside0.mk h
  clear h
  go_enter Try.func33, Try.ntmps33
  go_wp2
  go_ret
  have hb := (Below.refl w.heap.size w).alloc (Nat.le_refl _) (.cells #[.bool true, .pointer p] 74)
  exact ⟨_, rfl, ⟨w.heap.size, p, rfl, by simp, by simp, by simp, H.out.below hb⟩, hb⟩
theorem New_calls {zs : List Int} {w : World} {A : Option Addr} {c : Nat} (hC : Kd.C (Kd.int .i32) w A zs.length zs) (hc : zs.length ≤ c) (hm : c ≤ 9223372036854775807) (hb : zs.length ≤ 800000000000000) : Calls Try.prog 10 #[.slice A zs.length c] w (GivesR (RT.of zs) w) := by
  have hg := grown_calls hC hc hm hb
  clear hC hc hm hb
  go_enter Try.func10, Try.ntmps10
  go_wp2_with (first
    | (go_at_call 34; (with_reducible refine hg.mono ?_); rintro e w1 ⟨p1, rfl, hn1, hb1⟩)
    | (go_at_call 33; (with_reducible refine (of_calls hn1).mono ?_); rintro e w2 ⟨p2, rfl, hn2, hb2⟩))
  go_ret
  exact ⟨p2, rfl, hn2, below_step hb1 hb2⟩
theorem none_yes {w : World} {p : Option Addr} (h : NoR w p) : Calls Try.prog 45 #[.pointer p] w fun e w' => e = .returned (.bool true) ∧ w = w' := by
  rcases h with rfl | ⟨b, rfl, h1, h2⟩
  · go_enter Try.func45, Try.ntmps45
    go_wp2
    go_ret
    exact ⟨rfl, rfl⟩
  · go_enter Try.func45, Try.ntmps45
    go_wp2
    go_ret
    exact ⟨rfl, rfl⟩
theorem none_no {w : World} {p : Option Addr} {t : RT} (h : IsR w p t) : Calls Try.prog 45 #[.pointer p] w fun e w' => e = .returned (.bool false) ∧ w = w' := by
  obtain ⟨b, q, rfl, h1, h2, h3, h4⟩ := h
  go_enter Try.func45, Try.ntmps45
  go_wp2
  go_ret
  exact ⟨rfl, rfl⟩
end Go.Proofs.Ytenjldfflkinkaa.Rop
