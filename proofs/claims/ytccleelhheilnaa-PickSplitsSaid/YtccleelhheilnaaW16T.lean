/- The examples of the chapter on marked columns; sorted lists; what the program's answers are. -/
import Derived.Test.YtccleelhheilnaaPickT
import Derived.Test.YtccleelhheilnaaW13T
import Derived.Test.YtccleelhheilnaaFx29
namespace Go.Proofs.Ytccleelhheilnaa.Pure
set_option linter.unusedVariables false
set_option linter.unusedSimpArgs false
open Go.RowKit Go.Proofs.Ytccleelhheilnaa.F Go.Proofs.YtccleelhheilnaaW.PrintWords Go.Proofs.YtccleelhheilnaaW.PrintLast

/-- A rising list of the same numbers is the sorted one. -/
theorem sort_eq {l m : List Int} (hn : l.Nodup) (hp : m.Pairwise (· < ·)) (hm : ∀ x, x ∈ l ↔ x ∈ m) : sortI l = m := by
  have hperm : (sortI l).Perm l := List.mergeSort_perm l _
  have hs : (sortI l).Pairwise (fun a b => (decide (a ≤ b)) = true) := List.pairwise_mergeSort (fun a b c h1 h2 => by simp at *; omega) (fun a b => by simp; omega) l
  have hnd : (sortI l).Nodup := hperm.nodup_iff.2 hn
  have h1 : (sortI l).Pairwise (· < ·) := by
    refine List.Pairwise.imp ?_ (List.Pairwise.and hs hnd)
    rintro a b ⟨h2, h3⟩
    have h4 : a ≤ b := by simpa using h2
    have h5 : a ≠ b := h3
    omega
  exact pairs_unique (R := (· < ·)) (fun x y h => by omega) _ _ h1 hp fun x => (hperm.mem_iff).trans (hm x)
theorem works16_runs : pick_Runs.f [0, 1, 1, 0] 0 2 = some ([⟨0, 1⟩, ⟨2, 3⟩], 0) := by kernel_rfl
theorem works16_places : pick_Places.f [0, 1, 1, 0] [⟨1, 3⟩] = some ([1, 2], 0) := by
  unfold pick_Places.f
  have g1 : ([0, 1, 1, 0] : List Int).length ≤ 17592186043904 := by decide
  have g2 : ([0, 1, 1, 0] : List Int).all fineB = true := by decide
  rw [if_pos g1, if_pos g2]
  have e1 : fitR (ordered [0, 1, 1, 0]).length 0 [⟨1, 3⟩] = true := by decide +kernel
  have e2 : cutsF (ordered [0, 1, 1, 0]) [⟨1, 3⟩] = [2, 1] := by decide +kernel
  have e3 : sortI [2, 1] = [1, 2] := sort_eq (by decide) (by decide) (fun x => by simp; omega)
  rw [if_pos e1, e2, e3]
theorem works16 {k : Nat} (h : 60 ≤ k) : colophonlaw16_works.f k = some true := by
  have hat : colophonlaw16_works.f 60 = some true := by
    unfold colophonlaw16_works.f
    rw [Option.bind_some, works16_runs, Option.bind_some, works16_places, Option.bind_some]
    decide +kernel
  obtain ⟨j, rfl⟩ : ∃ j, k = 60 + j := ⟨k - 60, by omega⟩
  clear h
  induction j with
  | zero => exact hat
  | succ j ih => exact colophonlaw16_works.mono (60 + j) _ ih
theorem same_lp (L : List S45) (hL : L.length ≤ 281474976710656) : ∀ (d k i : Nat), L.length - i = d → i ≤ L.length → d < k → colophonref05_Same.l0 k L L (i : Int) = some true := by
  intro d
  induction d with
  | zero =>
    intro k i hd hi hk
    obtain ⟨k, rfl⟩ : ∃ m, k = m + 1 := ⟨k - 1, by omega⟩
    simp only [colophonref05_Same.l0]
    rw [if_neg (by omega)]
  | succ d ih =>
    intro k i hd hi hk
    obtain ⟨k, rfl⟩ : ∃ m, k = m + 1 := ⟨k - 1, by omega⟩
    simp only [colophonref05_Same.l0]
    rw [if_pos (by omega), if_pos (by omega), if_pos (by omega), if_neg (by simp), wr1 (by omega)]
    exact ih k (i + 1) (by omega) (by omega) (by omega)
theorem same_refl (L : List S45) (hL : L.length ≤ 281474976710656) {k : Nat} (hk : L.length < k) : colophonref05_Same.f k L L = some true := by
  unfold colophonref05_Same.f
  rw [if_pos rfl]
  exact same_lp L hL L.length k 0 (by omega) (by omega) (by omega)
def runsPair (L : List Int) (fr te : Int) : List S45 × Int := if L.all fineB = true then (if fr < 0 ∨ (L.length : Int) < te ∨ te < fr then ([], 4) else (strs (ordered L) fr te, 0)) else ([], 2)
theorem own_pruns {L : List Int} (h : L.length ≤ 17592186043904) (fr te : Int) : pick_Runs.f L fr te = some (runsPair L fr te) := by
  unfold pick_Runs.f runsPair
  rw [if_pos h]
  split
  · split <;> rfl
  · rfl
theorem strs_len (l : List Int) (fr te : Int) : (strs l fr te).length ≤ l.length + 1 := str_len l fr te _
theorem ord_len (L : List Int) : (ordered L).length ≤ L.length := by rw [ordered_len]; exact seen_len _ _
theorem chain_fit (l : List Int) (fr te : Int) : ∀ (r : List S45) (e : Nat) (e2 : Int), e2 ≤ (e : Int) → Chain l fr te e r → fitR l.length e2 r = true
  | [], _, _, _, _ => rfl
  | x :: r, e, e2, he, hc => by
    obtain ⟨b, n, rfl, h1, h2, h3, h4, h5⟩ := hc
    rw [fitR]
    rw [if_neg (by show ¬ ((b : Int) < e2 ∨ (n : Int) ≤ (b : Int) ∨ (l.length : Int) < (n : Int)); omega)]
    exact chain_fit l fr te r (n + 1) (n : Int) (by omega) h5
/-- The places of a range's columns, sorted: those of the range that are seen. -/
theorem image_eq {L : List Int} (hf : L.all fineB = true) (fr te : Int) (h0 : 0 ≤ fr) (h1 : te ≤ (L.length : Int)) : sortI (cutsF (ordered L) (strs (ordered L) fr te)) = (seenAt L te.toNat).filter (fun x => decide (fr ≤ x)) := by
  have hc : cutsF (ordered L) (strs (ordered L) fr te) = (ordered L).filter (inB fr te) := strs_cuts (ordered L) fr te
  rw [hc]
  refine sort_eq ((ordered_nodup hf).filter _) ((seen_pairs L _).filter _) fun x => ?_
  rw [List.mem_filter, List.mem_filter, ordered_mem, seen_mem]
  simp only [inB, decide_eq_true_eq, isSeen]
  constructor
  · rintro ⟨⟨g0, g1, g2⟩, g3, g4⟩
    exact ⟨⟨x.toNat, by omega, by omega, g2⟩, g3⟩
  · rintro ⟨⟨i, rfl, g1, g2⟩, g3⟩
    exact ⟨⟨by omega, by omega, by rw [rd_lev]; exact g2⟩, g3, by omega⟩
end Go.Proofs.Ytccleelhheilnaa.Pure
