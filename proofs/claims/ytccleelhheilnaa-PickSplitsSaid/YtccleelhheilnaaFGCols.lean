/- order.Columns by its contract: slices.Repeat, and the places laid out. -/
import Derived.Test.YtccleelhheilnaaFx0
import Derived.Test.YtccleelhheilnaaFx4
import Derived.WalkSpells
import Derived.WalkLawsBesides
import Derived.Laws.CopyOwn
import Derived.RangeFuncOwn
import Derived.RangeFuncBox
import Derived.Laws.MakeOwn
import Derived.Deep.RegionLaw
import Derived.Deep.RegionWith
import Derived.Test.YtccleelhheilnaaFGOrd
namespace Go.Proofs.Ytccleelhheilnaa.F
set_option linter.unusedVariables false
set_option linter.unusedSimpArgs false
open Go.RowKit Go.Proofs.YtccleelhheilnaaW.PrintWords Go.Proofs.YtccleelhheilnaaW.PrintLast Go.Proofs.YtccleelhheilnaaW.PrintMore

/-! ### columns, over lists -/
def posnF : List Int → Int → Int → Int
  | [], _, _ => -1
  | y :: l, x, k => if y = x then k else posnF l x (k + 1)
theorem posn_out : ∀ {l : List Int} {x : Int} (k : Int), x ∉ l → posnF l x k = -1
  | [], _, _, _ => rfl
  | y :: l, x, k, h => by
    simp only [List.mem_cons, not_or] at h
    rw [posnF, if_neg (fun e => h.1 e.symm), posn_out (k + 1) h.2]
theorem posn_in : ∀ {l : List Int} {x k : Int}, x ∈ l → k ≤ posnF l x k
  | [], _, _, h => by simp at h
  | y :: l, x, k, h => by
    by_cases e : y = x
    · rw [posnF, if_pos e]; exact Int.le_refl _
    · rw [posnF, if_neg e]
      have h2 : x ∈ l := (List.mem_cons.1 h).resolve_left (fun e2 => e e2.symm)
      have := posn_in (k := k + 1) h2
      omega
theorem posn_snoc_ne : ∀ {l : List Int} {x y : Int} (k : Int), y ≠ x → posnF (l ++ [y]) x k = posnF l x k
  | [], x, y, k, h => by simp [posnF, h]
  | z :: l, x, y, k, h => by
    by_cases e : z = x
    · simp [posnF, e]
    · simp only [List.cons_append, posnF, if_neg e]
      exact posn_snoc_ne (k + 1) h
theorem posn_snoc_eq : ∀ {l : List Int} {x : Int} (k : Int), x ∉ l → posnF (l ++ [x]) x k = k + l.length
  | [], x, k, _ => by simp [posnF]
  | z :: l, x, k, h => by
    simp only [List.mem_cons, not_or] at h
    simp only [List.cons_append, posnF, if_neg (fun e => h.1 (Eq.symm e)), posn_snoc_eq (k + 1) h.2, List.length_cons]
    omega
def colsOf (l : List Int) (n : Nat) : List Int := (List.range n).map fun j : Nat => posnF l (j : Int) 0
theorem cols_len (l : List Int) (n : Nat) : (colsOf l n).length = n := by simp [colsOf]
theorem cols_none (n : Nat) : colsOf [] n = List.replicate n (-1) := by
  apply List.ext_getElem
  · simp [colsOf]
  · intro i h1 h2
    simp [colsOf, posnF]
theorem cols_at (l : List Int) (n : Nat) {x : Int} (h0 : 0 ≤ x) (h1 : x < (n : Int)) : rd (colsOf l n) x = posnF l x 0 := by
  have hz : x.toNat < (colsOf l n).length := by rw [cols_len]; omega
  simp only [rd, List.getD_eq_getElem?_getD, List.getElem?_eq_getElem hz, Option.getD_some]
  simp only [colsOf, List.getElem_map, List.getElem_range]
  rw [Int.toNat_of_nonneg h0]
theorem cols_put (l : List Int) (n : Nat) {x : Int} (h0 : 0 ≤ x) (h1 : x < (n : Int)) (hx : x ∉ l) : (colsOf l n).set x.toNat (l.length : Int) = colsOf (l ++ [x]) n := by
  apply List.ext_getElem
  · simp [colsOf]
  · intro i h2 h3
    rw [List.getElem_set]
    simp only [colsOf, List.getElem_map, List.getElem_range]
    by_cases e : x.toNat = i
    · rw [if_pos e]
      have : (i : Int) = x := by omega
      rw [this, posn_snoc_eq 0 hx]
      omega
    · rw [if_neg e, posn_snoc_ne 0 (by omega)]
def fitB (l : List Int) (n : Int) : Bool := decide (l.Nodup ∧ ∀ x ∈ l, 0 ≤ x ∧ x < n)
theorem fit_bad {pre post : List Int} {x n : Int} (h : ¬ (0 ≤ x ∧ x < n) ∨ x ∈ pre) : fitB (pre ++ x :: post) n = false := by
  unfold fitB
  rw [decide_eq_false_iff_not]
  rintro ⟨h1, h2⟩
  rcases h with h | h
  · exact h (h2 x (by simp))
  · have := (List.nodup_append.1 h1).2.2 x h x (by simp)
    exact this rfl
def order_Columns.f (l0 : List Int) (a1 : Int) : Option (List Int × Int) := if l0.length ≤ 1000000000000 then (if a1 < 0 ∨ 4096 < a1 then some ([], 2) else if fitB l0 a1 = true then some (colsOf l0 a1.toNat, 0) else some ([], 50)) else none

set_option maxRecDepth 1000000 in
theorem mul_one : ∀ n : Fin 4097, bits_Mul.f 1 (n.val : Int) = some (0, (n.val : Int)) := by decide +kernel
theorem info_int : (Try.prog.info? 3).map (fun i => (i.zero, i.size, i.bytes)) = some (some (.int .i64 0), 1, 8) := by kernel_rfl
theorem size_int : (Try.prog.info? 3).map (·.size) = some 1 := by kernel_rfl
theorem R_ofRow {W : World} {base g cap n : Nat} {xs : List Int} {T : List Value} (hb : base ≤ g) (hn : xs.length = n) (hT : n + T.length = cap) (hc : cap ≤ 9223372036854775807) (h : W.heap[g]? = some (.cells (xs.map (Value.int .i64) ++ T).toArray 3 (0, 0))) :
    Kd.R (Kd.int .i64) 3 W base (fun _ => True) (.slice (some ⟨g, 0, none⟩) n cap) xs := by
  subst hn
  refine Kd.R_of_own ⟨?_, .inr ⟨g, cap, _, rfl, hb, h, ?_, ?_, ?_, ?_⟩⟩ fun _ _ => trivial
  · simp [encs]
  · omega
  · exact hc
  · simp only [List.size_toArray, List.length_append, List.length_map]; omega
  · simp [encs]
theorem row_ofR {W : World} {base g cap n : Nat} {xs : List Int} (h : Kd.R (Kd.int .i64) 3 W base (fun _ => True) (.slice (some ⟨g, 0, none⟩) n cap) xs) :
    xs.length = n ∧ n ≤ cap ∧ cap ≤ 9223372036854775807 ∧ ∃ T : List Value, n + T.length = cap ∧ W.heap[g]? = some (.cells (xs.map (Value.int .i64) ++ T).toArray 3 (0, 0)) := by
  have ho := Kd.own_of_R h
  have hn := (Kd.R_reads' h).1
  rcases ho.2 with ⟨h0, _⟩ | ⟨g', cap', cur, hv, hb, hh, h1, h2, h3, h4⟩
  · cases h0
  · cases hv
    refine ⟨hn.symm, h1, h2, cur.toList.drop xs.length, ?_, ?_⟩
    · simp only [List.length_drop, Array.length_toList]; omega
    · have e : xs.map (Value.int .i64) = cur.toList.take xs.length := by
        have := h4
        simp only [Nat.mul_one] at this
        rw [hn] at this
        exact this.symm
      rw [e, List.take_append_drop]
      exact hh

theorem cell_of_heap {W : World} {g j : Nat} {cur : Array Value} {t : TypeId} {fr : Nat × Nat} {v : Value} (h : W.heap[g]? = some (.cells cur t fr)) (hj : cur[j]? = some v) : W.cell? ⟨g, j, none⟩ = some v := by simp [World.cell?, h, hj]
theorem cells_rep {W : World} {g m k : Nat} {T : List Value} {t : TypeId} {fr : Nat × Nat} {x : Value} (h : W.heap[g]? = some (.cells (List.replicate m x ++ T).toArray t fr)) (hk : k ≤ m) : ∀ j v, (List.replicate k x)[j]? = some v → W.cell? ((⟨g, 0, none⟩ : Addr).add j) = some v := by
  intro j v hj
  obtain ⟨h1, h2⟩ := List.getElem?_eq_some_iff.1 hj
  simp at h1 h2
  subst h2
  have e : (⟨g, 0, none⟩ : Addr).add j = ⟨g, j, none⟩ := by simp [Addr.add]; omega
  rw [e]
  refine cell_of_heap h ?_
  have h3 : j < m := by omega
  have e2 : (List.replicate m x ++ T).toArray[j]? = (List.replicate m x ++ T)[j]? := List.getElem?_toArray
  rw [e2, List.getElem?_append_left (by rw [List.length_replicate]; exact h3), List.getElem?_replicate, if_pos h3]
theorem splice_rep (x : Value) (m k : Nat) (T : List Value) (hk : k ≤ T.length) : splice (List.replicate m x ++ T) m (List.replicate k x) = List.replicate (m + k) x ++ T.drop k := by
  unfold splice
  rw [List.take_left' (by simp), List.length_replicate, ← List.drop_drop, List.drop_left' (by simp), ← List.append_assoc, List.replicate_append_replicate]

set_option maxRecDepth 100000 in
set_option maxHeartbeats 2000000 in
theorem repeat_calls (b0 c n : Nat) (w0 w : World) (hn : n ≤ 4096) (hB : Below w0.heap.size w0 w) (hlt : b0 < w.heap.size) (hx : w.cell? ⟨b0, 0, none⟩ = some (.int .i64 (-1))) :
    Calls Try.prog 68 #[.slice (some ⟨b0, 0, none⟩) 1 c, .int .i64 n] w fun e w' => ∃ v, e = .returned v ∧ Kd.R (Kd.int .i64) 3 w' w0.heap.size (fun _ => True) v (List.replicate n (-1)) ∧ Below w0.heap.size w0 w' := by
  have hmul := mul_one ⟨n, by omega⟩
  simp only at hmul
  go_enter Try.func68, Try.ntmps68
  by_cases h0 : n = 0
  · subst h0
    have hm0 : bits_Mul.f 1 0 = some (0, 0) := hmul
    clear hmul
    go_wp2_with (first
      | (go_at_call 83; refine (bits_Mul.calls 1 0 0 0 _ hm0).mono ?_; rintro e w1 ⟨rfl, hd⟩; have HB1 := Aside0.mk (hB.trans (hd.below.mono hB.size)); clear hd)
      | ((with_reducible refine gate_dst (N := 30) rfl ?_); refine Kd.R_make (Kd.int .i64) w0.heap.size 3 rfl (N := 30) rfl 22 _ _ rfl 0 rfl rfl Try.underlying22 (.int .i64 0) 8 info_int rfl (by decide) (by omega) 0 (ok := fun _ => True) (okp := fun _ => True) rfl (fun _ hk => hk) trivial (by omega) (by omega) HB1.out (HB1.out.size) ?_; intro v9 w9 ho9 hb9 hg9 hnew9; obtain ⟨A9, c9, rfl⟩ := Kd.R_slice ho9; simp only [Int.toNat_zero, List.replicate_zero, List.length_nil] at ho9; clear hnew9)
      | ((with_reducible refine gate_dst (N := 33) rfl ?_); refine wpList_copy_nothing rfl _ _ 22 22 rfl 3 Try.underlying22 size_int A9 (some ⟨b0, 0, none⟩) 0 c9 1 c rfl rfl rfl ?_))
    go_loopw [8] (fun i wr => i = .int .i64 0 ∧ wr = w9) (fun _ _ => 0)
    case atStart => exact ⟨rfl, rfl⟩
    case round =>
      obtain ⟨rfl, rfl⟩ := hrel
      go_wp2
      go_ret
      exact ⟨_, rfl, ho9, hb9⟩
  · have hpos : 0 < n := by omega
    go_wp2_with (first
      | (go_at_call 83; refine (bits_Mul.calls 1 n 0 n _ hmul).mono ?_; rintro e w1 ⟨rfl, hd⟩; have HB1 := Aside0.mk (hB.trans (hd.below.mono hB.size)); have HX1 := Aside0.mk ((hd.below.cell (p := ⟨b0, 0, none⟩) hlt).trans hx); have HL1 := Aside0.mk (Nat.lt_of_lt_of_le hlt hd.below.size); clear hd)
      | ((with_reducible refine gate_dst (N := 30) rfl ?_); refine Kd.R_make (Kd.int .i64) w0.heap.size 3 rfl (N := 30) rfl 22 _ _ rfl (n : Int) rfl rfl Try.underlying22 (.int .i64 0) 8 info_int rfl (by decide) (by omega) 0 (ok := fun _ => True) (okp := fun _ => True) rfl (fun _ hk => hk) trivial (by omega) (by omega) HB1.out (HB1.out.size) ?_; intro v9 w9 ho9 hb9 hg9 hnew9; have HX9 := Aside0.mk (cell_kept HX1.out hg9 (fun r e => by cases e)); have HB9 := Aside0.mk hb9; rw [Int.toNat_natCast] at ho9; obtain ⟨g, cap, hv, hbase, -, -⟩ := Kd.R_form ho9 (by simp; omega); rw [List.length_replicate] at hv; subst hv; obtain ⟨-, hnc, hcm, T, HT, HG⟩ := row_ofR ho9; have HG9 := Aside0.mk HG; clear ho9 hg9 hnew9 hb9 HG)
      | ((with_reducible refine gate_dst (N := 33) rfl ?_); refine wpList_copy_splice rfl _ _ 22 22 rfl 3 Try.underlying22 size_int (some ⟨g, 0, none⟩) (some ⟨b0, 0, none⟩) n cap 1 c rfl rfl g 0 ((List.replicate n (0 : Int)).map (Value.int .i64) ++ T) 3 HG9.out [.int .i64 (-1)] (Nat.min_eq_left hpos).symm (fun _ => ⟨rfl, _, rfl, fun j v hj => ?_⟩) (by simp; omega) (by simp [Value.oneCell']) w0.heap.size w0 HB9.out hbase ?_; rotate_left; intro w10 HG10' HB10'; have HG10 : Aside0 (w10.heap[g]? = some (.cells (List.replicate 1 (Value.int .i64 (-1)) ++ ((List.replicate n (0 : Int)).map (Value.int .i64) ++ T).drop 1).toArray 3 (0, 0))) := ⟨HG10'.out⟩; have HB10 := Aside0.mk HB10'; clear HG10' HB10'))
    · have hT1 : (((List.replicate n (0 : Int)).map (Value.int .i64) ++ T).drop 1).length = cap - 1 := by simp; omega
      obtain ⟨T1, hT1'⟩ : ∃ T1, ((List.replicate n (0 : Int)).map (Value.int .i64) ++ T).drop 1 = T1 := ⟨_, rfl⟩
      rw [hT1'] at HG10 hT1
      clear hT1' HG9 HX9 HB9 HX1 HB1
      go_loopw [8] (fun i wr => ∃ m : Nat, i = .int .i64 (m : Int) ∧ 1 ≤ m ∧ m ≤ n ∧ Aside0 (∃ T2 : List Value, T2.length = cap - m ∧ wr.heap[g]? = some (.cells (List.replicate m (Value.int .i64 (-1)) ++ T2).toArray 3 (0, 0))) ∧ Aside0 (Below w0.heap.size w0 wr)) (fun i _ => n - (intOf i).toNat)
      case atStart => exact ⟨1, rfl, Nat.le_refl _, hpos, ⟨T1, hT1, HG10.out⟩, HB10⟩
      case round =>
        obtain ⟨m, rfl, hm1, hmn, ⟨T2, hT2, HG⟩, HB⟩ := hrel
        have hGG := Aside0.mk HG
        clear HG
        by_cases hlt2 : m < n
        · have hcd : ¬ cap = m := by omega
          have hmc : m ≤ cap := by omega
          have hmax : m ≤ 4096 := by omega
          obtain ⟨k, hk⟩ : ∃ k, Nat.min m (n - m) = k := ⟨_, rfl⟩
          have hk1 : 1 ≤ k := by rw [← hk]; exact Nat.le_min.2 ⟨hm1, by omega⟩
          have hk2 : k ≤ n - m := by rw [← hk]; exact Nat.min_le_right _ _
          have hk3 : k ≤ m := by rw [← hk]; exact Nat.min_le_left _ _
          go_wp2
          go_region_law (refine step_copy_splice rfl (.tmp 41) (.tmp 44) 22 22 rfl 3 Try.underlying22 size_int (some ⟨g, m, none⟩) (some ⟨g, 0, none⟩) (n - m) (cap - m) m cap (by simp [Act.eval, Act.put]) (by simp [Act.eval, Act.put]) g m (List.replicate m (Value.int .i64 (-1)) ++ T2) 3 (by exact hGG.out) (List.replicate k (Value.int .i64 (-1))) (by rw [List.length_replicate]; exact hk.symm) (fun _ => ⟨rfl, _, rfl, cells_rep (by exact hGG.out) hk3⟩) (by simp; omega) (by simp [Value.oneCell']) w0.heap.size w0 (by first | exact HB.out | exact pw_below_drewN HB.out _) hbase ?_; intro w4 hg4 hb4)
          all_goals
            have HG5 : Aside0 (w4.heap[g]? = some (.cells (List.replicate (m + k) (Value.int .i64 (-1)) ++ T2.drop k).toArray 3 (0, 0))) := ⟨by rw [← splice_rep _ m k T2 (by omega)]; exact hg4.out⟩
            have HB5 := Aside0.mk hb4
            clear hg4 hb4 hGG HB
            simp only [List.getElem_toArray, List.getElem_cons_succ, List.getElem_cons_zero]
            go_frame
            have hw : IntKind.i64.wrap ((m : Int) + (k : Int)) = ((m + k : Nat) : Int) := by
              rw [IntKind.wrap_i64]
              omega
            rw [hw]
            clear hw
            go_wp2
            go_roundw
            case rel => exact ⟨m + k, rfl, by omega, by omega, ⟨T2.drop k, by simp; omega, HG5.out⟩, HB5⟩
            case measure => simp [intOf] <;> omega
        · obtain rfl : m = n := by omega
          go_wp2
          go_ret
          exact ⟨_, rfl, R_ofRow (T := T2) hbase (by simp) (by omega) hcm (by rw [List.map_replicate]; exact hGG.out), HB.out⟩
    · match j, hj with
      | 0, hj =>
        simp at hj
        subst hj
        simpa [Addr.add] using HX9.out
      | j + 1, hj => simp at hj

set_option maxRecDepth 100000 in
set_option maxHeartbeats 4000000 in
theorem order_Columns.calls (A0 : Option Addr) (c0 : Nat) (l0 : List Int) (a1 : Int) (r1 : List Int) (r2 : Int) (w : World) (hr0 : Kd.C (Kd.int .i64) w A0 l0.length l0) (hc0 : l0.length ≤ c0) (h : order_Columns.f l0 a1 = some (r1, r2)) :
    Calls Try.prog 48 #[.slice A0 l0.length c0, .int .i64 a1] w fun e w' => ∃ v0_ : Value, e = .returned (.tuple #[v0_, .int .i64 r2]) ∧ Kd.R (Kd.int .i64) 3 w' w.heap.size (fun _ => True) v0_ r1 ∧ Below w.heap.size w w' := by
  unfold order_Columns.f at h
  by_cases hlen : l0.length ≤ 1000000000000
  · rw [if_pos hlen] at h
    by_cases hbad : a1 < 0 ∨ 4096 < a1
    · rw [if_pos hbad] at h
      obtain ⟨rfl, rfl⟩ := Prod.mk.inj (Option.some.inj h)
      go_enter Try.func48, Try.ntmps48
      by_cases h1 : a1 < 0
      · go_wp2
        go_ret2
        exact ⟨_, rfl, Kd.R_nil _ _ _ _ _, Below.refl _ _⟩
      · have h2 : 4096 < a1 := by omega
        go_wp2
        go_ret2
        exact ⟨_, rfl, Kd.R_nil _ _ _ _ _, Below.refl _ _⟩
    · rw [if_neg hbad] at h
      obtain ⟨n, rfl⟩ : ∃ n : Nat, a1 = n := ⟨a1.toNat, by omega⟩
      have hn : n ≤ 4096 := by omega
      have hn0 : ¬ (n : Int) < 0 := by omega
      have hn1 : ¬ 4096 < (n : Int) := by omega
      have H := Aside0.mk h
      clear h hbad
      go_enter Try.func48, Try.ntmps48
      have hcell0 : (w.alloc (Obj.cells #[Value.int IntKind.i64 (-1)] 3)).cell? ⟨w.heap.size, 0, none⟩ = some (.int .i64 (-1)) := (Boxed.new w 3 (.int .i64 (-1))).cell
      go_wp2_with (go_at_call 68; refine (repeat_calls w.heap.size 1 n w _ hn ((Below.refl _ w).alloc (Nat.le_refl _) _) (by simp) hcell0).mono ?_; rintro e w1 ⟨v, rfl, ho, hb⟩; obtain ⟨A9, c9, rfl⟩ := Kd.R_slice ho; rw [List.length_replicate, ← cols_none] at ho; have HO := Aside0.mk ho; have HB := Aside0.mk hb; clear ho hb hcell0)
      go_loopw [20] (fun i wr => ∃ k : Nat, i = .int .i64 (k : Int) ∧ k ≤ l0.length ∧ Aside0 ((l0.take k).Nodup ∧ ∀ x ∈ l0.take k, 0 ≤ x ∧ x < (n : Int)) ∧ Aside0 (Kd.R (Kd.int .i64) 3 wr w.heap.size (fun _ => True) (.slice A9 n c9) (colsOf (l0.take k) n)) ∧ Aside0 (Below w.heap.size w wr)) (fun i _ => l0.length - (intOf i).toNat)
      case atStart => exact ⟨0, rfl, Nat.zero_le _, ⟨by simp⟩, HO, HB⟩
      case round =>
        obtain ⟨k, rfl, hk, KF, KR, KB⟩ := hrel
        by_cases hlt : k < l0.length
        · obtain ⟨ad, rfl, hcl⟩ := num_read64 (Kd.C_below hr0 KB.out) (k : Int) (by omega) (by omega)
          rw [Int.toNat_natCast] at hcl
          obtain ⟨x, hx⟩ : ∃ x, rd l0 (k : Int) = x := ⟨_, rfl⟩
          rw [hx] at hcl
          have hsplit : l0 = l0.take k ++ x :: l0.drop (k + 1) := by
            have h1 : l0.drop k = x :: l0.drop (k + 1) := by
              rw [List.drop_eq_getElem_cons hlt]
              congr 1
              rw [← hx]
              simp only [rd, Int.toNat_natCast, List.getD_eq_getElem?_getD, List.getElem?_eq_getElem hlt, Option.getD_some]
            rw [← h1, List.take_append_drop]
          have htake : l0.take (k + 1) = l0.take k ++ [x] := by
            rw [List.take_succ_eq_append_getElem hlt]
            congr 2
            rw [← hx]
            simp only [rd, Int.toNat_natCast, List.getD_eq_getElem?_getD, List.getElem?_eq_getElem hlt, Option.getD_some]
          have HS := Aside0.mk hsplit
          have HT := Aside0.mk htake
          clear hsplit htake hx
          have hkmax : k ≤ 1000000000000 := by omega
          by_cases hx0 : x < 0
          · have HE : Aside0 (r1 = [] ∧ r2 = 50) := ⟨by
              have h1 := H.out
              rw [HS.out, fit_bad (.inl (by omega)), if_neg (by decide)] at h1
              obtain ⟨h2, h3⟩ := Prod.mk.inj (Option.some.inj h1)
              exact ⟨h2.symm, h3.symm⟩⟩
            go_wp2
            go_ret2
            obtain ⟨rfl, rfl⟩ := HE.out
            exact ⟨_, rfl, Kd.R_nil _ _ _ _ _, KB.out⟩
          · by_cases hx1 : x < (n : Int)
            · obtain ⟨m, rfl⟩ : ∃ m : Nat, x = m := ⟨x.toNat, by omega⟩
              have hpos : 0 < n := by omega
              obtain ⟨g, cap, hv, hbase, -, -⟩ := Kd.R_form KR.out (by rw [cols_len]; exact hpos)
              rw [cols_len] at hv
              cases hv
              have hcap : n ≤ c9 := (Kd.R_reads' KR.out).2.1
              have KR2 : Kd.R (Kd.int .i64) 3 wr w.heap.size (fun _ => True) (.slice (some ⟨g, 0, none⟩) (colsOf (l0.take k) n).length c9) (colsOf (l0.take k) n) := by rw [cols_len]; exact KR.out
              have hc2 := Kd.R_cell 0 KR2 (m : Int) (by omega) (by rw [cols_len]; exact hx1)
              obtain ⟨hc3, hc4⟩ := hc2
              obtain ⟨y, hy⟩ : ∃ y, rd (colsOf (l0.take k) n) (m : Int) = y := ⟨_, rfl⟩
              have hy2 : rdOf 0 (colsOf (l0.take k) n) (m : Int) = y := hy
              rw [hy2] at hc3
              rw [Int.toNat_natCast] at hc3 hc4
              have hpos2 := cols_at (l0.take k) n (x := (m : Int)) (by omega) hx1
              rw [hy] at hpos2
              clear hy hy2
              have HP := Aside0.mk hpos2
              clear hpos2
              by_cases hin : (m : Int) ∈ l0.take k
              · have hy0 : y ≥ 0 := by rw [HP.out]; exact posn_in hin
                have HE : Aside0 (r1 = [] ∧ r2 = 50) := ⟨by
                  have h1 := H.out
                  rw [HS.out, fit_bad (.inr hin), if_neg (by decide)] at h1
                  obtain ⟨h2, h3⟩ := Prod.mk.inj (Option.some.inj h1)
                  exact ⟨h2.symm, h3.symm⟩⟩
                go_wp2
                go_ret2
                obtain ⟨rfl, rfl⟩ := HE.out
                exact ⟨_, rfl, Kd.R_nil _ _ _ _ _, KB.out⟩
              · have hy0 : ¬ y ≥ 0 := by rw [HP.out, posn_out 0 hin]; omega
                have hput := (Kd.R_put KR2 (m : Int) (k : Int)).1
                have HPUT := Aside0.mk hput
                clear hput KR2
                go_wp2
                go_roundw
                case rel =>
                  refine ⟨k + 1, by go_num, by omega, ⟨?_⟩, ⟨?_⟩, ⟨KB.out.setCell (p := ⟨g, m, none⟩) hbase _⟩⟩
                  · rw [HT.out]
                    refine ⟨?_, fun z hz => ?_⟩
                    · rw [List.nodup_append]
                      exact ⟨KF.out.1, by simp, fun a ha b hb e => hin (by simp at hb; subst hb; subst e; exact ha)⟩
                    · rcases List.mem_append.1 hz with h1 | h1
                      · exact KF.out.2 z h1
                      · simp at h1
                        subst h1
                        exact ⟨by omega, hx1⟩
                  · have h1 := HPUT.out
                    have h2 := cols_put (l0.take k) n (x := (m : Int)) (by omega) hx1 hin
                    have h3 : (l0.take k).length = k := by rw [List.length_take]; omega
                    rw [h3] at h2
                    rw [h2, cols_len, Int.toNat_natCast, ← HT.out] at h1
                    exact h1
                case measure => simp [intOf]; omega
            · have HE : Aside0 (r1 = [] ∧ r2 = 50) := ⟨by
                have h1 := H.out
                rw [HS.out, fit_bad (.inl (by omega)), if_neg (by decide)] at h1
                obtain ⟨h2, h3⟩ := Prod.mk.inj (Option.some.inj h1)
                exact ⟨h2.symm, h3.symm⟩⟩
              have hx2 : x ≥ (n : Int) := by omega
              go_wp2
              go_ret2
              obtain ⟨rfl, rfl⟩ := HE.out
              exact ⟨_, rfl, Kd.R_nil _ _ _ _ _, KB.out⟩
        · have HK : Aside0 (l0.take k = l0) := ⟨List.take_of_length_le (by omega)⟩
          have HE : Aside0 (r1 = colsOf l0 n ∧ r2 = 0) := ⟨by
            have h1 := H.out
            have h2 := KF.out
            rw [HK.out] at h2
            rw [if_pos (by unfold fitB; exact decide_eq_true h2), Int.toNat_natCast] at h1
            obtain ⟨h3, h4⟩ := Prod.mk.inj (Option.some.inj h1)
            exact ⟨h3.symm, h4.symm⟩⟩
          have hge : l0.length ≤ k := by omega
          go_wp2
          go_ret2
          obtain ⟨rfl, rfl⟩ := HE.out
          have h5 := KR.out
          rw [HK.out] at h5
          exact ⟨_, rfl, h5, KB.out⟩
  · rw [if_neg hlen] at h
    cases h
end Go.Proofs.Ytccleelhheilnaa.F
