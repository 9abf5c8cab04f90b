/- Ropes as lists: what each call tells, over the list that a rope has. -/
import Derived.Test.YtenjldfflkinkaaFGRopM
namespace Go.Proofs.Ytenjldfflkinkaa.Rop
set_option linter.unusedVariables false
set_option linter.unusedSimpArgs false
open Go.RowKit Go.Proofs.Ytenjldfflkinkaa.F Go.Proofs.YtenjldfflkinkaaW.PrintWords Go.Proofs.YtenjldfflkinkaaW.PrintLast Go.Proofs.YtenjldfflkinkaaW.PrintMore

/-- at b lies a rope of this list -/
def RL (W : World) (b : Nat) (l : List Int) : Prop := ∃ t, IsR W (some ⟨b, 0, none⟩) t ∧ t.toL = l ∧ t.Bal
theorem RL.below {A B : World} {b : Nat} {l : List Int} (h : RL A b l) (hb : Below A.heap.size A B) : RL B b l := by
  obtain ⟨t, h1, h2, h3⟩ := h
  exact ⟨t, h1.below hb, h2, h3⟩
theorem insT_toL {t u : RT} {i : Nat} (h : i ≤ t.sz) : (insT t u (i : Int)).toL = t.toL.take i ++ u.toL ++ t.toL.drop i := by
  unfold insT
  rw [RT.glue_toL, RT.glue_toL, (RT.cut_toL t i h).1, (RT.cut_toL t i h).2]
theorem insT_bal {t u : RT} {i : Int} (h : t.Bal) (hu : u.Bal) : (insT t u i).Bal := RT.glue_bal (RT.glue_bal (RT.cut_bal t i h).1 hu) (RT.cut_bal t i h).2
theorem delT_toL {t : RT} {a b : Nat} (h : a ≤ b) (hb : b ≤ t.sz) : (delT t (a : Int) (b : Int)).toL = t.toL.take a ++ t.toL.drop b := by
  unfold delT
  have h1 := RT.cut_toL t a (by omega)
  have h2 := RT.cut_sz t a (by omega)
  have e : (b : Int) - (a : Int) = ((b - a : Nat) : Int) := by omega
  rw [e, RT.glue_toL, h1.1, (RT.cut_toL _ (b - a) (by omega)).2, h1.2, List.drop_drop]
  congr 2
  omega
theorem delT_bal {t : RT} {a b : Int} (h : t.Bal) : (delT t a b).Bal := RT.glue_bal (RT.cut_bal t a h).1 (RT.cut_bal _ _ (RT.cut_bal t a h).2).2
section
variable {w : World} {b : Nat} {l : List Int}
def OneR (l : List Int) (w : World) (e : Ending) (w' : World) : Prop := ∃ b, e = .returned (.pointer (some ⟨b, 0, none⟩)) ∧ RL w' b l ∧ Below w.heap.size w w'
def OneE (l : List Int) (w : World) (e : Ending) (w' : World) : Prop := ∃ b, e = .returned (.tuple #[.pointer (some ⟨b, 0, none⟩), .int .i64 0]) ∧ RL w' b l ∧ Below w.heap.size w w'
theorem New_L {A : Option Addr} {c : Nat} (hC : Kd.C (Kd.int .i32) w A l.length l) (hc : l.length ≤ c) (hm : c ≤ 9223372036854775807) (hb : l.length ≤ 800000000000000) : Calls Try.prog 10 #[.slice A l.length c] w (OneR l w) :=
  (New_calls hC hc hm hb).mono fun _ _ ⟨p, he, hr, hb⟩ => by
    obtain ⟨b, rfl⟩ := hr.some
    exact ⟨b, he, ⟨_, hr, RT.of_toL l, RT.of_bal l⟩, hb⟩
theorem Len_L (h : RL w b l) : Calls Try.prog 17 #[.pointer (some ⟨b, 0, none⟩)] w fun e w' => e = .returned (.int .i64 (l.length : Int)) ∧ w = w' := by
  obtain ⟨t, h1, rfl, h3⟩ := h
  rw [RT.toL_len]
  exact Len_calls h1
theorem Breaks_L (h : RL w b l) : Calls Try.prog 23 #[.pointer (some ⟨b, 0, none⟩)] w fun e w' => e = .returned (.int .i64 ((l.countP sep : Nat) : Int)) ∧ w = w' := by
  obtain ⟨t, h1, rfl, h3⟩ := h
  rw [← RT.bk_count]
  exact Breaks_calls h1
def DeepOk (l : List Int) (w : World) (e : Ending) (w' : World) : Prop := ∃ d : Nat, e = .returned (.int .i64 (d : Int)) ∧ (d = 0 ↔ l.length = 0) ∧ 2 ^ (d / 2) ≤ l.length + 1 ∧ d ≤ l.length ∧ w = w'
theorem Deep_L (h : RL w b l) : Calls Try.prog 25 #[.pointer (some ⟨b, 0, none⟩)] w (DeepOk l w) := by
  obtain ⟨t, h1, rfl, h3⟩ := h
  refine (Deep_calls h1).mono fun e w' ⟨he, hw⟩ => ⟨t.dp, he, ?_, ?_, ?_, hw⟩
  · rw [RT.toL_len, RT.dp_zero, RT.sz_zero]
  · rw [RT.toL_len]
    exact RT.deep_ok t h3
  · rw [RT.toL_len]
    exact RT.dp_le t
theorem span_L (h : RL w b l) (x y : Int) : Calls Try.prog 41 #[.pointer (some ⟨b, 0, none⟩), .int .i64 x, .int .i64 y] w fun e w' => e = .returned (.int .i64 (spanE (l.length : Int) x y)) ∧ w = w' := by
  obtain ⟨t, h1, rfl, h3⟩ := h
  rw [RT.toL_len]
  exact span_calls h1 x y
theorem Insert_L {zs : List Int} {A : Option Addr} {c : Nat} (h : RL w b l) (hC : Kd.C (Kd.int .i32) w A zs.length zs) (hc : zs.length ≤ c) (hm : c ≤ 9223372036854775807) (i : Nat) (h1 : i ≤ l.length) (hs : l.length + zs.length ≤ 800000000000000) :
    Calls Try.prog 14 #[.pointer (some ⟨b, 0, none⟩), .int .i64 (i : Int), .slice A zs.length c] w (OneE (l.take i ++ zs ++ l.drop i) w) := by
  obtain ⟨t, g1, rfl, g3⟩ := h
  rw [RT.toL_len] at h1 hs
  refine (Insert_calls g1 hC hc hm (i : Int) (by omega) (by omega) hs).mono fun e w' ⟨p, he, hr, hb⟩ => ?_
  obtain ⟨b, rfl⟩ := hr.some
  exact ⟨b, he, ⟨_, hr, by rw [insT_toL h1, RT.of_toL], insT_bal g3 (RT.of_bal zs)⟩, hb⟩
theorem Delete_L (h : RL w b l) (x y : Nat) (h1 : x ≤ y) (h2 : y ≤ l.length) (hs : l.length ≤ 800000000000000) :
    Calls Try.prog 13 #[.pointer (some ⟨b, 0, none⟩), .int .i64 (x : Int), .int .i64 (y : Int)] w (OneE (l.take x ++ l.drop y) w) := by
  obtain ⟨t, g1, rfl, g3⟩ := h
  rw [RT.toL_len] at h2 hs
  refine (Delete_calls g1 (x : Int) (y : Int) (by omega) (by omega) (by omega) hs).mono fun e w' ⟨p, he, hr, hb⟩ => ?_
  obtain ⟨b, rfl⟩ := hr.some
  exact ⟨b, he, ⟨_, hr, delT_toL h1 h2, delT_bal g3⟩, hb⟩
def TwoE (l m : List Int) (w : World) (e : Ending) (w' : World) : Prop := ∃ b c, e = .returned (.tuple #[.pointer (some ⟨b, 0, none⟩), .pointer (some ⟨c, 0, none⟩), .int .i64 0]) ∧ RL w' b l ∧ RL w' c m ∧ Below w.heap.size w w'
theorem Split_L (h : RL w b l) (i : Nat) (h1 : i ≤ l.length) (hs : l.length ≤ 800000000000000) :
    Calls Try.prog 27 #[.pointer (some ⟨b, 0, none⟩), .int .i64 (i : Int)] w (TwoE (l.take i) (l.drop i) w) := by
  obtain ⟨t, g1, rfl, g3⟩ := h
  rw [RT.toL_len] at h1 hs
  refine (Split_calls g1 (i : Int) (by omega) (by omega) hs).mono fun e w' ⟨p, q, he, hr, hr2, hb⟩ => ?_
  obtain ⟨b, rfl⟩ := hr.some
  obtain ⟨c, rfl⟩ := hr2.some
  exact ⟨b, c, he, ⟨_, hr, (RT.cut_toL t i h1).1, (RT.cut_bal t _ g3).1⟩, ⟨_, hr2, (RT.cut_toL t i h1).2, (RT.cut_bal t _ g3).2⟩, hb⟩
theorem Concat_L {c : Nat} {m : List Int} (h : RL w b l) (h2 : RL w c m) (hs : l.length + m.length ≤ 800000000000000) : Calls Try.prog 26 #[.pointer (some ⟨b, 0, none⟩), .pointer (some ⟨c, 0, none⟩)] w (OneE (l ++ m) w) := by
  obtain ⟨t, g1, rfl, g3⟩ := h
  obtain ⟨u, k1, rfl, k3⟩ := h2
  rw [RT.toL_len, RT.toL_len] at hs
  refine (Concat_calls g1 k1 hs).mono fun e w' ⟨p, he, hr, hb⟩ => ?_
  obtain ⟨b, rfl⟩ := hr.some
  exact ⟨b, he, ⟨_, hr, RT.glue_toL t u, RT.glue_bal g3 k3⟩, hb⟩
theorem Slice_L (h : RL w b l) (x y : Nat) (h1 : x ≤ y) (h2 : y ≤ l.length) (hs : l.length ≤ 1000000) : Calls Try.prog 16 #[.pointer (some ⟨b, 0, none⟩), .int .i64 (x : Int), .int .i64 (y : Int)] w (GivesL ((l.drop x).take (y - x)) w) := by
  obtain ⟨t, g1, rfl, g3⟩ := h
  rw [RT.toL_len] at h2 hs
  exact Slice_calls g1 x y h1 h2 hs
def RowOf (l : List Int) (w : World) (e : Ending) (w' : World) : Prop := ∃ A c, e = .returned (.slice A l.length c) ∧ Kd.C (Kd.int .i32) w' A l.length l ∧ l.length ≤ c ∧ Below w.heap.size w w'
theorem all_L (h : RL w b l) (hs : l.length ≤ 1000000) : Calls Try.prog 28 #[.pointer (some ⟨b, 0, none⟩)] w (RowOf l w) := by
  obtain ⟨t, g1, rfl, g3⟩ := h
  refine (all_calls g1 (by rw [← RT.toL_len]; exact hs)).mono fun e w' ⟨v, he, hr, hb⟩ => ?_
  obtain ⟨A, c, rfl⟩ := Kd.R_slice hr
  exact ⟨A, c, he, (Kd.R_reads' hr).2.2, (Kd.R_reads' hr).2.1, hb⟩
theorem Para_L (h : RL w b l) (i : Nat) (hi : i ≤ l.length) (hs : l.length ≤ 800000000000000) : Calls Try.prog 24 #[.pointer (some ⟨b, 0, none⟩), .int .i64 (i : Int)] w (GivesP l i w) := by
  obtain ⟨t, g1, rfl, g3⟩ := h
  rw [RT.toL_len] at hi hs
  exact Para_calls g1 i hi hs
end
end Go.Proofs.Ytenjldfflkinkaa.Rop
