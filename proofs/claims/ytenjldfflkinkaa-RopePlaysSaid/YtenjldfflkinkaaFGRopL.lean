/- The chapter's examples of ropes; all that a rope has. -/
import Derived.Test.YtenjldfflkinkaaFGRopH
namespace Go.Proofs.Ytenjldfflkinkaa.Rop
set_option linter.unusedVariables false
set_option linter.unusedSimpArgs false
open Go.RowKit Go.Proofs.Ytenjldfflkinkaa.F Go.Proofs.YtenjldfflkinkaaW.PrintWords Go.Proofs.YtenjldfflkinkaaW.PrintLast Go.Proofs.YtenjldfflkinkaaW.PrintMore

theorem IsR.some {W : World} {p : Option Addr} {t : RT} (h : IsR W p t) : ∃ b, p = some ⟨b, 0, none⟩ := by
  obtain ⟨b, q, rfl, _⟩ := h
  exact ⟨b, rfl⟩
theorem C_lit {W : World} {g : Nat} {zs : List Int} (hz : zs.length ≤ 1000) (h : ∀ j, j < zs.length → W.cell? ⟨g, j, none⟩ = some (.int .i32 (zs.getD j 0))) : Kd.C (Kd.int .i32) W (some ⟨g, 0, none⟩) zs.length zs :=
  Kd.C_of_reads (d := (0 : Int)) (h1 := fun _ => rfl) ⟨rfl, by omega, fun _ => ⟨_, rfl, fun j hj => by rw [add_plain]; exact h j hj⟩⟩
/-- the paragraph's end places are told by the counts -/
theorem para_exact {l : List Int} {i n a b x y : Nat} (h : IsPara l i n a b) (hx : x ≤ l.length) (hx1 : ∀ m, m < x → cnt l m < cnt l i) (hx2 : x < l.length → cnt l i ≤ cnt l x) (hy : y ≤ l.length) (hy1 : ∀ m, m < y → cnt l m ≤ cnt l i) (hy2 : y < l.length → cnt l i + 1 ≤ cnt l y) : n = cnt l i ∧ a = x ∧ b = y := by
  obtain ⟨h1, h2, h3, h4, h5, h6, h7⟩ := h
  refine ⟨h1, ?_, ?_⟩
  · rcases Nat.lt_trichotomy a x with e | e | e
    · have := hx1 a e
      have := h4 (by omega)
      omega
    · exact e
    · have := h3 x e
      have := hx2 (by omega)
      omega
  · rcases Nat.lt_trichotomy b y with e | e | e
    · have := hy1 b e
      have := h7 (by omega)
      omega
    · exact e
    · have := h6 y e
      have := hy2 (by omega)
      omega
def exL : List Int := [97, 98, 8233, 99]
theorem exL_cnt : cnt exL 0 = 0 ∧ cnt exL 1 = 0 ∧ cnt exL 2 = 0 ∧ cnt exL 3 = 1 ∧ cnt exL 4 = 1 := by decide +kernel
theorem exL_bk : (RT.of exL).bk sep = 1 := by
  rw [RT.bk_count, RT.of_toL]
  decide +kernel
set_option maxRecDepth 100000 in
set_option maxHeartbeats 4000000 in
theorem works_calls (w : World) : Calls Try.prog 20 #[] w fun e w' => e = .returned (.bool true) ∧ Below w.heap.size w w' := by
  have hnew : ∀ W A, Kd.C (Kd.int .i32) W A 4 exL → Calls Try.prog 10 #[.slice A 4 4] W (GivesR (RT.of exL) W) := fun W A h => New_calls (zs := exL) h (by decide) (by decide) (by decide)
  have hsz : (RT.of exL).sz = 4 := RT.of_sz exL
  have hpara : ∀ {W p}, IsR W p (RT.of exL) → Calls Try.prog 24 #[.pointer p, .int .i64 2] W fun e w' => e = .returned (.tuple #[.int .i64 0, .int .i64 0, .int .i64 3, .int .i64 0]) ∧ Below W.heap.size W w' := fun {W p} h => by
    refine (Para_calls h 2 (by omega) (by omega)).mono ?_
    rintro e w' ⟨n, a, b, rfl, hp, hb⟩
    rw [RT.of_toL] at hp
    obtain ⟨k0, k1, k2, k3, k4⟩ := exL_cnt
    have hl : exL.length = 4 := rfl
    obtain ⟨rfl, rfl, rfl⟩ := para_exact hp (x := 0) (y := 3) (by omega) (fun m hm => by omega) (fun _ => by omega) (by omega) (fun m hm => by
      obtain rfl | rfl | rfl : m = 0 ∨ m = 1 ∨ m = 2 := by omega
      all_goals omega) (fun _ => by omega)
    rw [k2]
    exact ⟨rfl, hb⟩
  have hins : ∀ {W p A}, IsR W p (RT.of exL) → Kd.C (Kd.int .i32) W A 2 [120, 121] → Calls Try.prog 14 #[.pointer p, .int .i64 1, .slice A 2 2] W (GivesE (insT (RT.of exL) (RT.of [120, 121]) 1) W) := fun {W p A} h hC =>
    Insert_calls (zs := [120, 121]) h hC (by decide) (by decide) 1 (by omega) (by omega) (by rw [hsz]; decide)
  have hi6 : (insT (RT.of exL) (RT.of [120, 121]) 1).sz = 6 := by
    unfold insT
    have h1 := RT.cut_sum (RT.of exL) 1
    have h2 := RT.of_sz [120, 121]
    rw [RT.glue_sz, RT.glue_sz, h2]
    simp only [List.length_cons, List.length_nil]
    omega
  have hbk := exL_bk
  generalize insT (RT.of exL) (RT.of [120, 121]) 1 = u at hins hi6
  have hnewH := Aside0.mk hnew
  have hparaH := Aside0.mk @hpara
  have hinsH := Aside0.mk @hins
  generalize hT : RT.of exL = t at hnewH hparaH hinsH hbk hsz
  clear hnew hpara hins hT
  have HSZ := Aside0.mk hsz
  have HBK := Aside0.mk hbk
  have HI6 := Aside0.mk hi6
  clear hsz hbk hi6
  have hlen : ∀ {W p}, IsR W p t → Calls Try.prog 17 #[.pointer p] W fun e w' => e = .returned (.int .i64 4) ∧ W = w' := fun {W p} h => by
    have := Len_calls h
    rw [HSZ.out] at this
    exact this
  have hbks : ∀ {W p}, IsR W p t → Calls Try.prog 23 #[.pointer p] W fun e w' => e = .returned (.int .i64 1) ∧ W = w' := fun {W p} h => by
    have := Breaks_calls h
    rw [HBK.out] at this
    exact this
  have hlen6 : ∀ {W p}, IsR W p u → Calls Try.prog 17 #[.pointer p] W fun e w' => e = .returned (.int .i64 6) ∧ W = w' := fun {W p} h => by
    have := Len_calls h
    rw [HI6.out] at this
    exact this
  have HLEN := Aside0.mk @hlen
  have HBKS := Aside0.mk @hbks
  have HLEN6 := Aside0.mk @hlen6
  clear hlen hbks hlen6
  go_enter Try.func20, Try.ntmps20
  go_wp2_with (first
    | (go_at_call 10; (with_reducible refine (hnewH.out _ _ ?cl).mono ?_); (case cl => exact C_lit (zs := exL) (by decide) (fun j hj => by
        obtain rfl | rfl | rfl | rfl : j = 0 ∨ j = 1 ∨ j = 2 ∨ j = 3 := by have : exL.length = 4 := rfl; omega
        all_goals simp [exL])); rintro e w1 ⟨p1, rfl, hr1, hb1⟩; obtain ⟨b1, rfl⟩ := hr1.some; have HR1 := Aside0.mk hr1; have HB1 := Aside0.mk (below_step (below_alloc (Below.refl w.heap.size w) _) hb1); clear hr1 hb1)
    | (go_at_call 17; (first | (with_reducible refine (HLEN.out HR1.out).mono ?_) | (with_reducible refine (HLEN6.out HU3.out).mono ?_) | (with_reducible refine (HLEN.out HR3.out).mono ?_)); rintro e w' ⟨rfl, rfl⟩)
    | (go_at_call 23; (with_reducible refine (HBKS.out HR1.out).mono ?_); rintro e w' ⟨rfl, rfl⟩)
    | (go_at_call 24; (with_reducible refine (hparaH.out HR1.out).mono ?_); rintro e w2 ⟨rfl, hb2⟩; have HR2 := Aside0.mk (HR1.out.below hb2); have HB2 := Aside0.mk (below_step HB1.out hb2); clear hb2)
    | (go_at_call 14; (with_reducible refine (hinsH.out (HR2.out.below (below_alloc (Below.refl _ _) _)) ?ci).mono ?_); (case ci => exact C_lit (zs := [120, 121]) (by decide) (fun j hj => by
        obtain rfl | rfl : j = 0 ∨ j = 1 := by simp at hj; omega
        all_goals simp)); rintro e w3 ⟨p3, rfl, hr3, hb3⟩; obtain ⟨b3, rfl⟩ := hr3.some; have HU3 := Aside0.mk hr3; have HR3 := Aside0.mk ((HR2.out.below (below_alloc (Below.refl _ _) _)).below hb3); have HB3 := Aside0.mk (below_step (below_alloc HB2.out _) hb3); clear hr3 hb3))
  go_ret
  exact ⟨rfl, HB3.out⟩
end Go.Proofs.Ytenjldfflkinkaa.Rop
