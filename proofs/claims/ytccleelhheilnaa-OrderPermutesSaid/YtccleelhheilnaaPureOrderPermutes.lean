/- OrderPermutes, over lists alone: an order has each place that is seen once; columns turn it about; runs are it. -/
import Derived.Test.YtccleelhheilnaaFx15
import Derived.Test.YtccleelhheilnaaW13T
import Derived.Test.YtccleelhheilnaaRunT
namespace Go.Proofs.Ytccleelhheilnaa.Pure
set_option linter.unusedVariables false
set_option linter.unusedSimpArgs false
open Go.RowKit Go.Proofs.Ytccleelhheilnaa.F Go.Proofs.YtccleelhheilnaaW.PrintWords Go.Proofs.YtccleelhheilnaaW.PrintLast

theorem posn_get : ∀ {l : List Int} {x : Int} (k : Int), x ∈ l → ∃ (p : Nat) (h : p < l.length), posnF l x k = k + (p : Int) ∧ l[p] = x
  | [], _, _, h => by simp at h
  | y :: l, x, k, h => by
    by_cases e : y = x
    · exact ⟨0, by simp, by rw [posnF, if_pos e]; simp, by simpa using e⟩
    · have h2 : x ∈ l := (List.mem_cons.1 h).resolve_left (fun e2 => e e2.symm)
      obtain ⟨p, hp, h3, h4⟩ := posn_get (k + 1) h2
      exact ⟨p + 1, by simpa using hp, by rw [posnF, if_neg e, h3]; push_cast; omega, by simpa using h4⟩
theorem perm_join (x3 : List Int) (n9 : Int) (g : List (List Int)) (h9 : n9 = (x3.length : Int)) (hg : g.length ≤ 1000000000000) (hf : g.flatten = x3) (hl : x3.length ≤ 1000000000000) : ∀ (d k i : Nat), g.length - i = d → i ≤ g.length → d + x3.length + 2 < k →
    colophonlaw13_OrderPermutes.l1 k x3 n9 (g.take i).flatten g (g.length : Int) (i : Int) = some true := by
  intro d
  induction d with
  | zero =>
    intro k i hd hi hk
    obtain ⟨k, rfl⟩ : ∃ m, k = m + 1 := ⟨k - 1, by omega⟩
    obtain rfl : i = g.length := by omega
    simp only [colophonlaw13_OrderPermutes.l1]
    rw [if_neg (by omega), if_pos h9, List.take_length, hf, ints_refl _ (by omega) (by omega)]
    rfl
  | succ d ih =>
    intro k i hd hi hk
    obtain ⟨k, rfl⟩ : ∃ m, k = m + 1 := ⟨k - 1, by omega⟩
    have hlt : i < g.length := by omega
    have hnext := ih k (i + 1) (by omega) (by omega) (by omega)
    have hr : rd_L1 g (i : Int) = g[i] := by simp only [rd_L1, Int.toNat_natCast, List.getD_eq_getElem?_getD, List.getElem?_eq_getElem hlt, Option.getD_some]
    have e : (g.take (i + 1)).flatten = (g.take i).flatten ++ g[i] := by rw [List.take_succ_eq_append_getElem hlt, List.flatten_append]; simp
    have hsum : (g.take i).flatten.length + g[i].length ≤ g.flatten.length := by
      have h1 : g = g.take i ++ (g[i] :: g.drop (i + 1)) := by rw [← List.drop_eq_getElem_cons hlt, List.take_append_drop]
      have h2 := congrArg (fun x => (List.flatten x).length) h1
      simp only [List.flatten_append, List.flatten_cons, List.length_append] at h2
      omega
    rw [hf] at hsum
    simp only [colophonlaw13_OrderPermutes.l1, hr]
    rw [if_pos (by omega), if_pos (by omega), if_pos (by omega), if_pos (by omega), wr1 (by omega), ← e]
    exact hnext
theorem perm_loop (L : List Int) (hL : L.length ≤ 4096) (hf : L.all fineB = true) (g : List (List Int)) (hg : g.length ≤ 5000) (hgf : g.flatten = ordered L) : ∀ (d k i : Nat), L.length - i = d → i ≤ L.length → d + 20000 < k →
    colophonlaw13_OrderPermutes.l0 k (ordered L) g (colsOf (ordered L) L.length) ((seenAt L i).length : Int) L (L.length : Int) (i : Int) = some true := by
  have hlen : (ordered L).length ≤ L.length := by rw [ordered_len]; exact seen_len _ _
  intro d
  induction d with
  | zero =>
    intro k i hd hi hk
    obtain ⟨k, rfl⟩ : ∃ m, k = m + 1 := ⟨k - 1, by omega⟩
    obtain rfl : i = L.length := by omega
    simp only [colophonlaw13_OrderPermutes.l0]
    rw [if_neg (by omega)]
    exact perm_join (ordered L) _ g (by rw [ordered_len]) (by omega) hgf (by omega) g.length k 0 (by omega) (by omega) (by omega)
  | succ d ih =>
    intro k i hd hi hk
    obtain ⟨k, rfl⟩ : ∃ m, k = m + 1 := ⟨k - 1, by omega⟩
    have hlt : i < L.length := by omega
    have hnext := ih k (i + 1) (by omega) (by omega) (by omega)
    have hcl := cols_len (ordered L) L.length
    have hc := cols_at (ordered L) L.length (x := (i : Int)) (by omega) (by omega)
    have hslen := seen_len L i
    simp only [colophonlaw13_OrderPermutes.l0]
    rw [if_pos (by omega), if_pos (by omega), if_pos (by omega)]
    by_cases h0 : rd L (i : Int) < 0
    · have hs : seenAt L (i + 1) = seenAt L i := seen_miss (by omega)
      have hni : (i : Int) ∉ ordered L := fun h => by
        have := ((ordered_mem L _).1 h).2.2
        omega
      rw [hs] at hnext
      rw [if_pos h0, if_pos (by rw [hcl]; omega), hc, posn_out 0 hni, if_pos rfl, wr1 (by omega)]
      exact hnext
    · have hs : seenAt L (i + 1) = seenAt L i ++ [(i : Int)] := seen_hit (by omega)
      have hin : (i : Int) ∈ ordered L := (ordered_mem L _).2 ⟨by omega, by omega, by omega⟩
      obtain ⟨p, hp, e1, e2⟩ := posn_get 0 hin
      have e3 : rd (ordered L) (p : Int) = (i : Int) := by rw [rd_at hp, e2]
      have e4 : wrap64 (((seenAt L i).length : Int) + 1) = ((seenAt L (i + 1)).length : Int) := by
        rw [hs, List.length_append, List.length_singleton]
        unfold wrap64
        omega
      have e5 : (0 : Int) + (p : Int) = (p : Int) := by omega
      rw [if_neg h0, if_pos (by rw [hcl]; omega), hc, e1, e5, if_neg (by omega), if_neg (by omega), if_pos (by omega), if_pos (by omega), e3, if_pos rfl, e4, wr1 (by omega)]
      exact hnext
theorem OrderPermutes : colophonlaw13_OrderPermutes.Pure := by
  intro L _ hy _
  refine ⟨40000, ?_⟩
  unfold colophonlaw13_OrderPermutes.f
  rw [works13 (by omega), Option.bind_some, if_pos rfl]
  by_cases h1 : (L.length : Int) > 4096
  · rw [if_pos h1]
  · rw [if_neg h1, own_order (by omega), own_runs (by omega) (by omega)]
    unfold orderPair
    by_cases hf : L.all fineB = true
    · have hlen : (ordered L).length ≤ L.length := by rw [ordered_len]; exact seen_len _ _
      have hc : order_Columns.f (ordered L) (L.length : Int) = some (colsOf (ordered L) L.length, 0) := by
        unfold order_Columns.f
        rw [if_pos (by omega), if_neg (by omega), if_pos, Int.toNat_natCast]
        unfold fitB
        exact decide_eq_true ⟨ordered_nodup hf, fun x hx => by
          have := (ordered_mem L x).1 hx
          exact ⟨this.1, this.2.1⟩⟩
      rw [if_pos hf, if_pos hf]
      simp only [Option.bind_some]
      rw [if_pos trivial, if_pos trivial, hc]
      simp only [Option.bind_some]
      rw [if_pos trivial]
      simp only [colophonlaw13_OrderPermutes.j0]
      rw [if_neg (by rw [cols_len]; simp)]
      have hgl := grp_len L (ordered L) (ordered L).length
      exact perm_loop L (by omega) hf _ (by omega) (by rw [grp_flatten L (ordered L) _ (Nat.le_refl _), List.take_length]) L.length 39999 0 (by omega) (by omega) (by omega)
    · rw [if_neg hf, if_neg hf]
      simp
end Go.Proofs.Ytccleelhheilnaa.Pure
