/- SpotLeans, over lists alone: a line of one level is walked through from the first place to the end. -/
import Derived.Test.YtccleelhheilnaaSx9
import Derived.Test.YtccleelhheilnaaW15T
import Derived.Test.YtccleelhheilnaaOrdS
namespace Go.Proofs.Ytccleelhheilnaa.Pure
set_option linter.unusedVariables false
set_option linter.unusedSimpArgs false
set_option linter.unusedSectionVars false
open Go.RowKit Go.Proofs.Ytccleelhheilnaa.F Go.Proofs.Ytccleelhheilnaa.S Go.Proofs.Ytccleelhheilnaa.Flo Go.Proofs.YtccleelhheilnaaW.PrintWords Go.Proofs.YtccleelhheilnaaW.PrintLast

/-- the flat line, with its end -/
def leanA (lv n : Nat) : List Int := List.replicate n (lv : Int) ++ [((lv % 2 : Nat) : Int)]
theorem leanA_len (lv n : Nat) : (leanA lv n).length = n + 1 := by simp [leanA]
theorem leanA_lev {lv n i : Nat} (h : i ≤ n) : lev (leanA lv n) i = if i < n then (lv : Int) else ((lv % 2 : Nat) : Int) := by
  unfold leanA
  by_cases h2 : i < n
  · rw [if_pos h2, lev_app (by simpa using h2)]
    simp [lev, List.getD_eq_getElem?_getD, h2]
  · have e : i = (List.replicate n (lv : Int)).length := by simp; omega
    rw [if_neg h2, e, lev_last]
def leanM (lv n : Nat) : List Int := (List.range (n + 1)).map fun (c : Nat) => if lv % 2 = 1 then ((n - c : Nat) : Int) else (c : Int)
theorem leanM_len (lv n : Nat) : (leanM lv n).length = n + 1 := by simp [leanM]
theorem leanM_get {lv n c : Nat} (h : c < (leanM lv n).length) : (leanM lv n)[c] = if lv % 2 = 1 then ((n - c : Nat) : Int) else (c : Int) := by simp [leanM]
theorem lean_line {lv n : Nat} (h : lv ≤ 125) : LineOf (leanA lv n) := by
  unfold leanA
  refine line_of (by omega) ?_
  rw [List.all_eq_true]
  intro x hx
  have := (List.mem_replicate.1 hx).2
  subst this
  simp [fineB]
  omega
theorem lean_seen (lv n : Nat) (x : Int) : isSeen (leanA lv n) x ↔ 0 ≤ x ∧ x ≤ (n : Int) := by
  unfold isSeen
  rw [leanA_len]
  constructor
  · intro h
    exact ⟨h.1, by omega⟩
  · intro h
    obtain ⟨i, rfl⟩ : ∃ i : Nat, x = (i : Int) := ⟨x.toNat, by omega⟩
    refine ⟨by omega, by omega, ?_⟩
    rw [rd_lev, leanA_lev (by omega)]
    split <;> omega
theorem lean_odd {lv n : Nat} {x y : Int} (hx : isSeen (leanA lv n) x) (hy : isSeen (leanA lv n) y) : mm (leanA lv n) x y % 2 = ((lv % 2 : Nat) : Int) := by
  obtain ⟨z, hz, -, e⟩ := mm_mem hx hy
  have h := (lean_seen lv n z).1 hz
  obtain ⟨i, rfl⟩ : ∃ i : Nat, z = (i : Int) := ⟨z.toNat, by omega⟩
  rw [e, rd_lev, leanA_lev (by omega)]
  split <;> omega
theorem lean_order {lv n : Nat} (h : lv ≤ 125) : ordered (leanA lv n) = leanM lv n := by
  have H := lean_line (n := n) h
  refine ordered_eq H.fine ?_ ?_
  · rw [List.pairwise_iff_getElem]
    intro i j hi hj hij
    have hl := leanM_len lv n
    rw [leanM_get, leanM_get]
    unfold Lf
    by_cases ho : lv % 2 = 1
    · rw [if_pos ho, if_pos ho, lean_odd ((lean_seen lv n _).2 (by omega)) ((lean_seen lv n _).2 (by omega)), if_pos (by omega)]
      omega
    · rw [if_neg ho, if_neg ho, lean_odd ((lean_seen lv n _).2 (by omega)) ((lean_seen lv n _).2 (by omega)), if_neg (by omega)]
      omega
  · intro x
    rw [lean_seen]
    unfold leanM
    rw [List.mem_map]
    constructor
    · rintro ⟨c, hc, rfl⟩
      have := List.mem_range.1 hc
      split <;> omega
    · intro hx
      by_cases ho : lv % 2 = 1
      · refine ⟨n - x.toNat, List.mem_range.2 (by omega), ?_⟩
        rw [if_pos ho]
        omega
      · refine ⟨x.toNat, List.mem_range.2 (by omega), ?_⟩
        rw [if_neg ho]
        omega
/-- the column of a place -/
def leanC (lv n i : Nat) : Nat := if lv % 2 = 1 then n - i else i
def leanS (lv : Nat) : Int := if lv % 2 = 1 then -1 else 1
theorem lean_re {lv n i : Nat} (h : lv ≤ 125) (hi : i ≤ n) : (spAt (leanA lv n) (ordered (leanA lv n)) i).re = (leanC lv n i : Int) ∧ leanC lv n i < (ordered (leanA lv n)).length := by
  have H := lean_line (n := n) h
  have hl := leanM_len lv n
  have hs : 0 ≤ lev (leanA lv n) i := by
    rw [leanA_lev hi]
    split <;> omega
  have hc : leanC lv n i < (ordered (leanA lv n)).length := by
    rw [lean_order h, hl]
    unfold leanC
    split <;> omega
  refine ⟨?_, hc⟩
  rw [spAt_seen hs]
  refine col_get (ordered_nodup H.fine) hc ?_
  have hc2 : leanC lv n i < (leanM lv n).length := by rw [← lean_order h]; exact hc
  have e : (ordered (leanA lv n))[leanC lv n i] = (leanM lv n)[leanC lv n i] := by
    simp only [lean_order h]
  rw [e, leanM_get]
  unfold leanC
  split <;> omega
theorem lean_walk {lv n : Nat} (h : lv ≤ 125) (hn : n ≤ 300) : ∀ (d k i : Nat), n - i = d → i ≤ n → d < k →
    colophonlaw15_SpotLeans.l1 k (n : Int) (leanS lv) (spL (leanA lv n) (ordered (leanA lv n))) (i : Int) = some true := by
  have H := lean_line (n := n) h
  have hA := leanA_len lv n
  have hl := leanM_len lv n
  have hs : leanS lv = 1 ∨ leanS lv = -1 := by unfold leanS; split <;> simp
  intro d
  induction d with
  | zero =>
    intro k i hd hi hk
    obtain ⟨k, rfl⟩ : ∃ m, k = m + 1 := ⟨k - 1, by omega⟩
    obtain rfl : i = n := by omega
    obtain ⟨hre, hc⟩ := lean_re h hi
    simp only [colophonlaw15_SpotLeans.l1]
    rw [if_neg (by omega), step_out H (by omega) (by omega) hre hc hs (by
      rw [lean_order h, hl]
      unfold leanC leanS
      split <;> omega)]
    rfl
  | succ d ih =>
    intro k i hd hi hk
    obtain ⟨k, rfl⟩ : ∃ m, k = m + 1 := ⟨k - 1, by omega⟩
    have hnext := ih k (i + 1) (by omega) (by omega) (by omega)
    obtain ⟨hre, hc⟩ := lean_re h hi
    obtain ⟨hre2, hc2⟩ := lean_re (n := n) (i := i + 1) h (by omega)
    have e : (ordered (leanA lv n))[leanC lv n (i + 1)] = ((i + 1 : Nat) : Int) := by
      have hc3 : leanC lv n (i + 1) < (leanM lv n).length := by rw [← lean_order h]; exact hc2
      have e : (ordered (leanA lv n))[leanC lv n (i + 1)] = (leanM lv n)[leanC lv n (i + 1)] := by
        simp only [lean_order h]
      rw [e, leanM_get]
      unfold leanC
      split <;> omega
    simp only [colophonlaw15_SpotLeans.l1]
    rw [if_pos (by omega), step_in H (by omega) (by omega) hre hc hs (by
      unfold leanC leanS
      split <;> omega) hc2, e, wr1 (by omega)]
    simp only [Option.bind_some]
    rw [if_pos trivial, if_pos trivial]
    exact hnext
def leanF (lv n i : Nat) : List Int := (List.range n).map fun (j : Nat) => if j < i then (lv : Int) else 0
theorem leanF_len (lv n i : Nat) : (leanF lv n i).length = n := by simp [leanF]
theorem leanF_set (lv n i : Nat) : (leanF lv n i).set i (lv : Int) = leanF lv n (i + 1) := by
  apply List.ext_getElem
  · simp [leanF]
  · intro j h1 h2
    rw [List.getElem_set]
    simp only [leanF, List.getElem_map, List.getElem_range]
    by_cases e : i = j
    · rw [if_pos e, if_pos (by omega)]
    · rw [if_neg e]
      by_cases h3 : j < i
      · rw [if_pos h3, if_pos (by omega)]
      · rw [if_neg h3, if_neg (by omega)]
theorem leanF_end (lv n : Nat) : leanF lv n n = List.replicate n (lv : Int) := by
  apply List.ext_getElem
  · simp [leanF]
  · intro j h1 h2
    have : j < n := by simpa [leanF] using h1
    simp [leanF, this]
theorem lean_fill {lv n : Nat} (h : lv ≤ 125) (hn : n ≤ 300) : ∀ (d k i : Nat), n - i = d → i ≤ n → d + 2000 < k →
    colophonlaw15_SpotLeans.l0 k (n : Int) (lv : Int) ((lv % 2 : Nat) : Int) (leanS lv) (leanF lv n i) (n : Int) (i : Int) = some true := by
  intro d
  induction d with
  | zero =>
    intro k i hd hi hk
    obtain ⟨k, rfl⟩ : ∃ m, k = m + 2 := ⟨k - 2, by omega⟩
    obtain rfl : i = n := by omega
    have H := lean_line (n := i) h
    have hf : (((lv % 2 : Nat) : Int) = 0 ∨ ((lv % 2 : Nat) : Int) = 1) ∧ (List.replicate i (lv : Int)).all fineB = true := by
      refine ⟨by omega, ?_⟩
      rw [List.all_eq_true]
      intro x hx
      have := (List.mem_replicate.1 hx).2
      subst this
      simp [fineB]
      omega
    have hlen : (List.replicate i (lv : Int)).length = i := by simp
    simp only [colophonlaw15_SpotLeans.l0]
    rw [if_neg (by omega), leanF_end, own_spots _ (by omega) (by omega), Option.bind_some]
    unfold spPair
    rw [if_pos hf, if_pos rfl]
    have e : (((spL (leanA lv i) (ordered (leanA lv i))).length : Int) != wrap64 ((i : Int) + 1)) = false := by
      rw [spL_len, leanA_len, wr1 (by omega)]
      simp
    have e' : (((spL (List.replicate i (lv : Int) ++ [((lv % 2 : Nat) : Int)]) (ordered (List.replicate i (lv : Int) ++ [((lv % 2 : Nat) : Int)]))).length : Int) != wrap64 ((i : Int) + 1)) = false := e
    simp only [e']
    simp only [colophonlaw15_SpotLeans.j2]
    rw [if_neg (by decide)]
    exact lean_walk h hn i k 0 (by omega) (by omega) (by omega)
  | succ d ih =>
    intro k i hd hi hk
    obtain ⟨k, rfl⟩ : ∃ m, k = m + 1 := ⟨k - 1, by omega⟩
    have hnext := ih k (i + 1) (by omega) (by omega) (by omega)
    have hl := leanF_len lv n i
    simp only [colophonlaw15_SpotLeans.l0]
    rw [if_pos (by omega), if_pos (by omega), if_pos (by omega), Int.toNat_natCast, leanF_set, wr1 (by omega)]
    exact hnext
theorem lean_mod (x : Int) (n : Nat) (h0 : 0 < n) (hn : n ≤ 1000) : ∃ r : Nat, wrap64 (Int.tmod (IntKind.u64.wrap x) (n : Int)) = (r : Int) ∧ r < n := by
  have h1 : 0 ≤ IntKind.u64.wrap x := by unfold IntKind.wrap; exact Int.emod_nonneg _ (by decide)
  obtain ⟨y, hy⟩ := Int.eq_ofNat_of_zero_le h1
  rw [hy]
  refine ⟨y % n, ?_, Nat.mod_lt y h0⟩
  have e : Int.tmod (y : Int) (n : Int) = ((y % n : Nat) : Int) := by rw [Int.tmod_eq_emod_of_nonneg (by omega)]; rfl
  rw [e]
  have h3 : y % n < n := Nat.mod_lt y h0
  clear e hy h1
  generalize y % n = z at h3 ⊢
  unfold wrap64
  omega
theorem lean_j {lv n : Nat} (h : lv ≤ 125) (hn : n ≤ 300) {k : Nat} (hk : 3000 < k) : colophonlaw15_SpotLeans.j0 k (n : Int) (lv : Int) ((lv % 2 : Nat) : Int) (leanS lv) = some true := by
  obtain ⟨k, rfl⟩ : ∃ m, k = m + 1 := ⟨k - 1, by omega⟩
  simp only [colophonlaw15_SpotLeans.j0]
  have := lean_fill h hn n k 0 (by omega) (by omega) (by omega)
  rw [Int.natCast_zero] at this
  rw [if_pos (by omega), if_pos (by omega), Option.bind_some, Int.toNat_natCast, List.length_replicate]
  have e : List.replicate n (0 : Int) = leanF lv n 0 := by
    apply List.ext_getElem
    · simp [leanF]
    · intro j h1 h2
      simp [leanF]
  rw [e]
  exact this
theorem SpotLeans : colophonlaw15_SpotLeans.Pure := by
  intro a0 a1 _ _
  refine ⟨4000, ?_⟩
  obtain ⟨n, e0, hn⟩ := lean_mod a0 301 (by omega) (by omega)
  obtain ⟨lv, e1, hlv⟩ := lean_mod a1 126 (by omega) (by omega)
  have c0 : wrap64 (Int.tmod (IntKind.u64.wrap a0) 301) = (n : Int) := e0
  have c1 : wrap64 (Int.tmod (IntKind.u64.wrap a1) 126) = (lv : Int) := e1
  have c2 : Int.tmod (lv : Int) 2 = ((lv % 2 : Nat) : Int) := by rw [Int.tmod_eq_emod_of_nonneg (by omega)]; rfl
  have hj := lean_j (lv := lv) (n := n) (by omega) (by omega) (k := 4000) (by omega)
  unfold colophonlaw15_SpotLeans.f
  rw [works15 (by omega), Option.bind_some, if_pos rfl, c0, c1, c2]
  unfold leanS at hj
  by_cases ho : lv % 2 = 1
  · rw [if_pos ho] at hj
    rw [if_pos (by omega)]
    exact hj
  · rw [if_neg ho] at hj
    rw [if_neg (by omega)]
    exact hj
end Go.Proofs.Ytccleelhheilnaa.Pure
