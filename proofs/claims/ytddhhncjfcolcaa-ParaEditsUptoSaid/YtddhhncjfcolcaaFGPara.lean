/- para.Find and para.Bounds by their contracts: the iterator over the places behind separators, and the two loops over it. -/
import Derived.RangeFuncNested
import Derived.RangeFuncBound
import Derived.RangeFuncCalls
import Derived.RangeFuncLeaves
import Derived.RangeFuncBox
import Derived.Shelf.Abstract
import Derived.WalkKit
import Derived.OwnWalkIn
import Derived.TacticsInMore
import Derived.LoopNIn
import Derived.LoopIn
import Derived.Maps.AppendAt
import Derived.Test.YtddhhncjfcolcaaFGCls
namespace Go.Proofs.Ytddhhncjfcolcaa.F
set_option linter.unusedVariables false
set_option linter.unusedSimpArgs false
open Go.RowKit Go.Shelf Go.Proofs.YtddhhncjfcolcaaW.PrintWords Go.Proofs.YtddhhncjfcolcaaW.PrintLast Go.Proofs.YtddhhncjfcolcaaW.PrintMore

attribute [local go_sem] Oper.semAt_some

/-- The places behind separators among the first k. -/
def ends (l : List Int) (k : Nat) : List Int := ((List.range k).filter fun j => decide (clsOf (l.getD j 0) = 11)).map fun j : Nat => (j : Int) + 1
theorem ends_hit {l : List Int} {k : Nat} (h : clsOf (l.getD k 0) = 11) : ends l (k + 1) = ends l k ++ [(k : Int) + 1] := by
  unfold ends
  rw [List.range_succ, List.filter_append, List.map_append]
  simp only [List.filter_cons, List.filter_nil, h]
  rfl
theorem ends_miss {l : List Int} {k : Nat} (h : ¬ clsOf (l.getD k 0) = 11) : ends l (k + 1) = ends l k := by
  unfold ends
  rw [List.range_succ, List.filter_append, List.map_append]
  simp only [List.filter_cons, List.filter_nil, h]
  simp
theorem ends_len (l : List Int) (k : Nat) : (ends l k).length ≤ k := by
  unfold ends
  rw [List.length_map]
  exact Nat.le_trans (List.length_filter_le _ _) (by simp)

theorem num_read {w : World} {A : Option Addr} {zs : List Int} (h : Kd.C (Kd.int .i32) w A zs.length zs) (k : Nat) (hk : k < zs.length) : ∃ ad, A = some ad ∧ w.cell? (ad.add k) = some (.int .i32 (zs.getD k 0)) := by
  obtain ⟨ad, c, e, hc1, hK, hc0⟩ := Kd.C_get h 0 (k : Int) (by omega) (by omega)
  have hK' : c = [.int .i32 (zs.getD k 0)] := hK
  subst hK'
  have := hc0 0 _ rfl
  refine ⟨ad, e, ?_⟩
  have h1 : (k : Int).toNat * (Kd.int .i32).sz + 0 = k := by show k * 1 + 0 = k; omega
  rw [h1] at this
  exact this

set_option maxRecDepth 100000 in
set_option maxHeartbeats 2000000 in
theorem ends1_in (n : Nat) (hn : 1 ≤ n) (lp Bs c : Nat) (A : Option Addr) (zs : List Int) (w0 W : World) (hC : Kd.C (Kd.int .i32) w0 A zs.length zs) (hlen : zs.length ≤ 1000000) (J Jx : List Int → World → Prop) (hJ : AbidesFrom W.heap.size J)
    (hY : ∀ pre x W1, J pre W1 → pre.length < zs.length → YieldAt Fence.wide (n - 1) Try.prog lp #[.int .i64 x] W1 fun e W' =>
      (e = .returned (.bool true) ∧ J (pre ++ [x]) W' ∧ Below w0.heap.size W1 W') ∨ (e = .returned (.bool false) ∧ Jx (pre ++ [x]) W'))
    (hB : Below w0.heap.size w0 W) (hBs : W.cell? ⟨Bs, 0, none⟩ = some (.slice A zs.length c)) (h0 : J [] W) :
    CallsIn Fence.wide n Try.prog 54 #[.func (.yield lp) #[] #[], .pointer (some ⟨Bs, 0, none⟩)] W fun e W' => (∃ v, e = .returned v) ∧
      ((∃ ys, ys = ends zs zs.length ∧ J ys W') ∨ (∃ pre, (∃ k, k ≤ zs.length ∧ pre = ends zs k) ∧ Jx pre W')) := by
  refine callsIn_of_wp Try.func54 rfl trivial ?_ rfl
  simp only [Try.ntmps54, List.size_toArray, List.length_cons, List.length_nil, Nat.reduceAdd, Nat.reduceSub, Array.replicate_succ, Array.replicate_zero, List.push_toArray, List.append_toArray, List.nil_append, List.cons_append]
  gi_wp2
  gi_loopw [7] (fun i wr => ∃ k : Nat, k ≤ zs.length ∧ i = .int .i64 k ∧ J (ends zs k) wr ∧ Below w0.heap.size w0 wr)
    (fun i _ => zs.length - (intOf i).toNat)
  case atStart => exact ⟨0, Nat.zero_le _, rfl, h0, hB⟩
  case round =>
    obtain ⟨k, hk, rfl, hJs, hnx⟩ := hrel
    by_cases hlt : k < zs.length
    · obtain ⟨ad, rfl, hcx⟩ := num_read (Kd.C_below hC hnx) k hlt
      obtain ⟨x, hx⟩ : ∃ x, zs.getD k 0 = x := ⟨_, rfl⟩
      rw [hx] at hcx
      obtain ⟨r, hr⟩ : ∃ r, clsOf x = r := ⟨_, rfl⟩
      have hcl : ucd_Class.f x = some r := by rw [← hr]; rfl
      by_cases h11 : r = 11
      · subst h11
        have hhit := ends_hit (l := zs) (k := k) (by rw [hx]; exact hr)
        have hle := ends_len zs k
        gi_wp2_with (refine ⟨trivial, ?_⟩; gi_at_call 31; refine (callsIn_wide.2 (ucd_Class.calls _ _ _ hcl)).mono ?_; rintro e w2 ⟨rfl, hb2⟩)
        have hJ2 := hJ _ _ _ none hJs (grown_of_below hb2 none) (fun r e => by cases e)
        obtain ⟨fn, tmps, assign, body, hy, hR⟩ := hY (ends zs k) ((k : Int) + 1) w2 hJ2 (by omega)
        rw [hy]
        gi_wp2
        refine hR.mono ?_
        rintro e W3 (⟨rfl, hJ3, hk3⟩ | ⟨rfl, hJx3⟩)
        · gi_wp2
          go_roundw
          case rel => exact ⟨k + 1, by omega, by simp, by rw [hhit]; exact hJ3, (hnx.trans (hb2.mono hnx.size)).trans hk3⟩
          case measure => simp [intOf]; omega
        · gi_wp2
          refine bodyPost_ret (results_none rfl _ _ _) rfl ?_
          exact ⟨⟨_, rfl⟩, .inr ⟨_, ⟨k + 1, by omega, hhit.symm⟩, hJx3⟩⟩
      · have hmiss := ends_miss (l := zs) (k := k) (by rw [hx, hr]; exact h11)
        gi_wp2_with (refine ⟨trivial, ?_⟩; gi_at_call 31; refine (callsIn_wide.2 (ucd_Class.calls _ _ _ hcl)).mono ?_; rintro e w2 ⟨rfl, hb2⟩)
        have hJ2 := hJ _ _ _ none hJs (grown_of_below hb2 none) (fun r e => by cases e)
        refine ⟨fun _ h => (by cases h), ?_⟩
        gi_wp2
        go_roundw
        case rel => exact ⟨k + 1, by omega, by simp, by rw [hmiss]; exact hJ2, hnx.trans (hb2.mono hnx.size)⟩
        case measure => simp [intOf]; omega
    · obtain rfl : k = zs.length := by omega
      gi_wp2
      go_end0
      exact ⟨⟨_, rfl⟩, .inl ⟨_, rfl, hJs⟩⟩

/-- ends hands back its closure over the boxed slice. -/
theorem ends_calls (n : Nat) (A : Option Addr) (len c : Nat) (w : World) :
    CallsIn Fence.wide n Try.prog 51 #[.slice A len c] w fun e w' => e = .returned (.func (.func 54) #[] #[.pointer (some ⟨w.heap.size, 0, none⟩)]) ∧ w' = w.alloc (.cells #[.slice A len c] 53) := by
  refine callsIn_of_wp Try.func51 rfl trivial ?_ rfl
  simp only [Try.ntmps51, List.size_toArray, List.length_cons, List.length_nil, Nat.reduceAdd, Nat.reduceSub, Array.replicate_succ, Array.replicate_zero, List.push_toArray, List.append_toArray, List.nil_append, List.cons_append]
  gi_wp2
  go_ret
  exact ⟨rfl, rfl⟩

/-- The value that ends hands back: the places, in their order; or as many as a loop would have. -/
theorem ends_stops (n : Nat) (hn : 1 ≤ n) (Bs c : Nat) (A : Option Addr) (zs : List Int) (w0 w : World) (hC : Kd.C (Kd.int .i32) w0 A zs.length zs) (hlen : zs.length ≤ 1000000) (hBs : Bs < w.heap.size) (hB : Below w0.heap.size w0 w)
    (hc : w.cell? ⟨Bs, 0, none⟩ = some (.slice A zs.length c)) :
    SeqStopsK Fence.wide n Try.prog 54 #[.pointer (some ⟨Bs, 0, none⟩)] (fun x : Int => #[Value.int .i64 x]) (Below w0.heap.size) (fun ys => ys = ends zs zs.length)
      (fun pre => ∃ k, k ≤ zs.length ∧ pre = ends zs k) zs.length w := fun l J Jx W hW hJ _ hY h0 =>
  ends1_in n hn l Bs c A zs w0 W hC hlen J Jx hJ hY (hB.trans (hW.mono hB.size)) ((hW.cell (p := ⟨Bs, 0, none⟩) hBs).trans hc) h0

/-! ### para.Find -/
def leads (i : Int) (l : List Int) : Int := ((l.takeWhile fun x => decide (x ≤ i)).length : Int)
theorem leads_all {i : Int} {l : List Int} (h : ∀ x ∈ l, x ≤ i) : leads i l = (l.length : Int) := by
  unfold leads
  have := List.takeWhile_append_of_pos (p := fun x => decide (x ≤ i)) (l₁ := l) (l₂ := []) (fun y hy => by simpa using h y hy)
  simp only [List.append_nil, List.takeWhile_nil] at this
  rw [this]
theorem leads_stop {i : Int} {l m : List Int} {x : Int} (h : ∀ x ∈ l, x ≤ i) (hx : i < x) : leads i (l ++ x :: m) = (l.length : Int) := by
  unfold leads
  rw [List.takeWhile_append_of_pos (fun y hy => by simpa using h y hy), List.takeWhile_cons_of_neg (by simpa using hx), List.append_nil]
theorem ends_prefix (l : List Int) {k m : Nat} (h : k ≤ m) : ∃ r, ends l m = ends l k ++ r := by
  obtain ⟨d, rfl⟩ : ∃ d, m = k + d := ⟨m - k, by omega⟩
  clear h
  induction d with
  | zero => exact ⟨[], by simp⟩
  | succ d ih =>
    obtain ⟨r, hr⟩ := ih
    by_cases h : clsOf (l.getD (k + d) 0) = 11
    · exact ⟨r ++ [((k + d : Nat) : Int) + 1], by rw [show k + (d + 1) = (k + d) + 1 from rfl, ends_hit h, hr, List.append_assoc]⟩
    · exact ⟨r, by rw [show k + (d + 1) = (k + d) + 1 from rfl, ends_miss h, hr]⟩

def para_Find.f (l0 : List Int) (a1 : Int) : Option (Int × Int) := if l0.length ≤ 1000000 then (if a1 < 0 ∨ (l0.length : Int) < a1 then some (0, 4) else some (leads a1 (ends l0 l0.length), 0)) else none

set_option maxRecDepth 100000 in
set_option maxHeartbeats 4000000 in
theorem para_Find.calls (A0 : Option Addr) (c0 : Nat) (l0 : List Int) (a1 : Int) (r1 r2 : Int) (w : World) (hr0 : Kd.C (Kd.int .i32) w A0 l0.length l0) (hc0 : l0.length ≤ c0) (h : para_Find.f l0 a1 = some (r1, r2)) :
    Calls Try.prog 33 #[.slice A0 l0.length c0, .int .i64 a1] w fun e w' => e = .returned (.tuple #[.int .i64 r1, .int .i64 r2]) ∧ Below w.heap.size w w' := by
  unfold para_Find.f at h
  by_cases hlen : l0.length ≤ 1000000
  · rw [if_pos hlen] at h
    refine (callsIn_wide (n := 5)).1 ?_
    refine callsIn_of_wp_marks Try.func33 rfl trivial ?_ rfl
    simp only [Try.ntmps33, List.size_toArray, List.length_cons, List.length_nil, Nat.reduceAdd, Nat.reduceSub, Array.replicate_succ, Array.replicate_zero, List.push_toArray, List.append_toArray, List.nil_append, List.cons_append]
    by_cases h1 : a1 < 0
    · rw [if_pos (.inl h1)] at h
      obtain ⟨rfl, rfl⟩ := Prod.mk.inj (Option.some.inj h)
      gi_wp2
      refine ⟨_, results_tmp2 rfl _ _ _, rfl, (Below.refl _ w).alloc (Nat.le_refl _) _⟩
    · by_cases h2 : (l0.length : Int) < a1
      · rw [if_pos (.inr h2)] at h
        obtain ⟨rfl, rfl⟩ := Prod.mk.inj (Option.some.inj h)
        gi_wp2
        refine ⟨_, results_tmp2 rfl _ _ _, rfl, (Below.refl _ w).alloc (Nat.le_refl _) _⟩
      · rw [if_neg (by omega)] at h
        obtain ⟨h3, rfl⟩ := Prod.mk.inj (Option.some.inj h)
        gi_wp2_with (refine ⟨trivial, ?_⟩; gi_at_call 51; refine (ends_calls _ _ _ _ _).mono ?_; rintro e w' ⟨rfl, rfl⟩)
        have bI := Boxed.new w 3 (.int .i64 a1)
        have bN := Boxed.new (w.alloc (.cells #[.int .i64 a1] 3)) 3 (.int .i64 0)
        have bS := Boxed.new ((w.alloc (.cells #[.int .i64 a1] 3)).alloc (.cells #[.int .i64 0] 3)) 53 (.slice A0 l0.length c0)
        simp only [World.size_alloc] at bN bS
        have hB0 : Below w.heap.size w (((w.alloc (.cells #[.int .i64 a1] 3)).alloc (.cells #[.int .i64 0] 3)).alloc (.cells #[.slice A0 l0.length c0] 53)) := (((Below.refl _ w).alloc (Nat.le_refl _) _).alloc (by simp) _).alloc (by simp; omega) _
        refine wpIn_rangeFunc_ownG rfl (by omega) (gf := 54) (lb := #[.pointer (some ⟨w.heap.size + 1 + 1, 0, none⟩)]) rfl trivial (enters_of Try.func54 (by kernel_rfl) rfl)
          (ends_stops _ (by omega) (w.heap.size + 1 + 1) c0 A0 l0 w _ hr0 hlen (by simp) hB0 bS.cell) belowK_t (belowK_b (by simp; omega)) (Below.refl _ _) (fun _ => rfl)
          (fun pre W => ((W.cell? ⟨w.heap.size + 1, 0, none⟩ = some (.int .i64 (pre.length : Int)) ∧ W.frozen? ⟨w.heap.size + 1, 0, none⟩ = false ∧ W.cell? ⟨w.heap.size, 0, none⟩ = some (.int .i64 a1)) ∧ ∀ x ∈ pre, x ≤ a1) ∧ Below w.heap.size w W)
          (fun c pre W => (c = .exit 0 ∧ ∃ ini last, pre = ini ++ [last] ∧ (∀ x ∈ ini, x ≤ a1) ∧ a1 < last ∧ W.cell? ⟨w.heap.size + 1, 0, none⟩ = some (.int .i64 (ini.length : Int))) ∧ Below w.heap.size w W)
          (OwnFrom.and (Own.from (fun s A B row hs hg hr => ⟨⟨cell_kept hs.1.1 hg hr, (frozen_kept hs.1.1 hg hr).trans hs.1.2.1, cell_kept hs.1.2.2 hg hr⟩, hs.2⟩) _) (ownFrom_below (Nat.le_refl _) (by simp; omega)))
          (fun c => OwnFrom.and (Own.from (fun s A B row hs hg hr => by obtain ⟨hc, ini, last, e1, e2, e3, e4⟩ := hs; exact ⟨hc, ini, last, e1, e2, e3, cell_kept e4 hg hr⟩) _) (ownFrom_below (Nat.le_refl _) (by simp; omega)))
          ⟨⟨⟨(bN.alloc _).cell, (bN.alloc _).frozen, ((bI.alloc _).alloc _).cell⟩, by simp⟩, hB0⟩
          (fun x => { tmps := #[.slice A0 l0.length c0, .int .i64 a1, undef, .pointer (some ⟨w.heap.size, 0, none⟩), .int .i64 0, .int .i64 0, .pointer (some ⟨w.heap.size + 1, 0, none⟩), .int .i64 x, .int .i64 a1, .bool false, .bool false, .int .i64 a1, .slice A0 l0.length c0, .int .i64 (l0.length : Int), .bool false, .bool false, .slice A0 l0.length c0, .func (.func 54) #[] #[.pointer (some ⟨w.heap.size + 1 + 1, 0, none⟩)], .int .i64 x, undef, undef, undef, undef, undef, undef], defers := [] }) ?assign ?body ?done ?stop
        case assign =>
          intro l x W K hK
          gi_wp2
          exact hK
        case body =>
          rintro l pre x W ⟨⟨⟨hcn, hfn, hci⟩, hp⟩, hB⟩ hlt
          gi_wp2
          · have hx : a1 < x := by assumption
            exact ⟨KeepsFrom.refl _ _, ⟨rfl, pre, x, rfl, hp, hx, hcn⟩, hB⟩
          · have hx : x ≤ a1 := by assumption
            exact ⟨(KeepsOthers.setCell _ _ _).from _, (Below.refl w.heap.size W).setCell (p := ⟨w.heap.size + 1, 0, none⟩) (Nat.le_succ _) _, ⟨⟨by rw [World.cell?_setCell_same' _ _ _ (by rw [hcn]; rfl)]; simp, by rw [World.frozen?_setCell]; exact hfn, (((Below.refl (w.heap.size + 1) W).setCell (p := ⟨w.heap.size + 1, 0, none⟩) (Nat.le_refl _) _).cell (p := ⟨w.heap.size, 0, none⟩) (Nat.lt_succ_self _)).trans hci⟩, fun y hy => (List.mem_append.1 hy).elim (hp y) (fun e => by simp at e; subst e; exact hx)⟩, hB.setCell (p := ⟨w.heap.size + 1, 0, none⟩) (Nat.le_succ _) _⟩
        case done =>
          rintro D ys W hD rfl ⟨⟨⟨hcn, hfn, hci⟩, hp⟩, hB⟩ hK
          gi_wp2
          refine ⟨by simp, .inl ⟨_, _, rfl, run_takeDeferred hK, ?_⟩⟩
          refine ⟨_, results_tmp2 rfl _ _ _, ?_, hB.trans (belowK_b (w := w) (Nat.le_refl _) W D _ _ (by simp at hD; omega) hK rfl rfl)⟩
          rw [← h3, leads_all hp]
          rfl
        case stop =>
          rintro D c pre W hD ⟨k, hk, rfl⟩ ⟨⟨rfl, ini, last, e1, e2, e3, hcn⟩, hB⟩ hK
          gi_wp2
          refine ⟨by simp, .inl ⟨_, _, rfl, run_takeDeferred hK, ?_⟩⟩
          refine ⟨_, results_tmp2 rfl _ _ _, ?_, hB.trans (belowK_b (w := w) (Nat.le_refl _) W D _ _ (by simp at hD; omega) hK rfl rfl)⟩
          obtain ⟨m, hm⟩ := ends_prefix l0 hk
          rw [← h3, hm, e1, List.append_assoc, List.singleton_append, leads_stop e2 e3]
          rfl
  · rw [if_neg hlen] at h
    cases h

/-! ### para.Bounds -/
def segs : Int → List Int → List S38
  | _, [] => []
  | s, x :: l => ⟨s, x⟩ :: segs x l
def lst : Int → List Int → Int
  | s, [] => s
  | _, x :: l => lst x l
theorem segs_snoc : ∀ (s : Int) (l : List Int) (x : Int), segs s (l ++ [x]) = segs s l ++ [⟨lst s l, x⟩]
  | _, [], _ => rfl
  | s, y :: l, x => by
    show (⟨s, y⟩ : S38) :: segs y (l ++ [x]) = (⟨s, y⟩ :: segs y l) ++ [⟨lst y l, x⟩]
    rw [segs_snoc y l x]
    rfl
theorem lst_snoc : ∀ (s : Int) (l : List Int) (x : Int), lst s (l ++ [x]) = x
  | _, [], _ => rfl
  | s, y :: l, x => lst_snoc y l x
theorem segs_len : ∀ (s : Int) (l : List Int), (segs s l).length = l.length
  | _, [] => rfl
  | s, y :: l => by
    show (segs y l).length + 1 = l.length + 1
    rw [segs_len y l]
def cellsOf (l : List S38) : List Value := l.flatMap fun p => [.int .i64 p.f0, .int .i64 p.f1]
theorem cellsOf_snoc (l : List S38) (p : S38) : cellsOf (l ++ [p]) = cellsOf l ++ [.int .i64 p.f0, .int .i64 p.f1] := by simp [cellsOf]
theorem reps_from (W : World) (base : Nat) (ok : Nat → Prop) : ∀ (l pre : List S38) (cs : List Value), Reps (k38.M W base ok) 2 pre cs → Reps (k38.M W base ok) 2 (pre ++ l) (cs ++ cellsOf l)
  | [], pre, cs, h => by simpa [cellsOf] using h
  | x :: l, pre, cs, h => by
    have := reps_from W base ok l (pre ++ [x]) (cs ++ [.int .i64 x.f0, .int .i64 x.f1]) (h.snoc (k38_mkM W base ok x) rfl)
    simpa [cellsOf, List.append_assoc] using this
theorem reps_cells (W : World) (base : Nat) (ok : Nat → Prop) (l : List S38) : Reps (k38.M W base ok) 2 l (cellsOf l) := by
  have := reps_from W base ok l [] [] (Reps.none _ _)
  simpa using this
theorem rows38 {W : World} {base : Nat} {v : Value} {l : List S38} (h : W.ownsRow base 38 2 v l.length (cellsOf l)) : Kd.R k38 38 W base (fun _ => True) v l := ⟨fun _ _ => trivial, _, h, reps_cells _ _ _ _⟩
theorem info_para : (Try.prog.info? 38).map (fun i => (i.zero, i.size, i.bytes)) = some (some (.agg #[.int .i64 0, .int .i64 0]), 2, 16) := by kernel_rfl

theorem cell_two_new (w : World) (x y : Value) (t : TypeId) : ∀ j u, [x, y][j]? = some u → (w.alloc (.cells #[x, y] t)).cell? ((⟨w.heap.size, 0, none⟩ : Addr).add j) = some u := by
  intro j u hj
  match j, hj with
  | 0, hj =>
    simp at hj
    subst hj
    simp [Addr.add]
  | 1, hj =>
    simp at hj
    subst hj
    simp [Addr.add]
  | j + 2, hj => simp at hj
theorem not_own {W : World} {base : Nat} {e : TypeId} {size : Nat} {v : Value} {k : Nat} {xs : List Value} (h : W.ownsRow base e size v k xs) {D : Nat} {o : Obj} (hD : W.heap[D]? = some o) (ho : o.isCells = false) : some D ≠ v.ownBlock := by
  rcases h.2 with ⟨rfl, _⟩ | ⟨g, cap, cur, rfl, _, hgb, _⟩
  · simp [Value.ownBlock]
  · intro e
    obtain rfl : g = D := by simpa [Value.ownBlock] using e.symm
    rw [hgb] at hD
    cases hD
    cases ho
def para_Bounds.f (l0 : List Int) : Option (List S38) := if l0.length ≤ 1000000 then some (segs 0 (ends l0 l0.length) ++ [⟨lst 0 (ends l0 l0.length), (l0.length : Int)⟩]) else none

set_option maxRecDepth 100000 in
set_option maxHeartbeats 4000000 in
theorem para_Bounds.calls (A0 : Option Addr) (c0 : Nat) (l0 : List Int) (r : List S38) (w : World) (hr0 : Kd.C (Kd.int .i32) w A0 l0.length l0) (hc0 : l0.length ≤ c0) (h : para_Bounds.f l0 = some r) :
    Calls Try.prog 35 #[.slice A0 l0.length c0] w fun e w' => ∃ v0_ : Value, e = .returned v0_ ∧ Kd.R k38 38 w' w.heap.size (fun _ => True) v0_ r ∧ Below w.heap.size w w' := by
  unfold para_Bounds.f at h
  by_cases hlen : l0.length ≤ 1000000
  · rw [if_pos hlen] at h
    obtain ⟨i0, hi, hz0, hz1, hz2⟩ := info_parts info_para
    refine (callsIn_wide (n := 5)).1 ?_
    refine callsIn_of_wp_marks Try.func35 rfl trivial ?_ rfl
    simp only [Try.ntmps35, List.size_toArray, List.length_cons, List.length_nil, Nat.reduceAdd, Nat.reduceSub, Array.replicate_succ, Array.replicate_zero, List.push_toArray, List.append_toArray, List.nil_append, List.cons_append]
    gi_wp2_with (refine ⟨trivial, ?_⟩; gi_at_call 51; refine (ends_calls _ _ _ _ _).mono ?_; rintro e w' ⟨rfl, rfl⟩)
    have bO := Boxed.new w 32 (.slice none 0 0)
    have bF := Boxed.new (w.alloc (.cells #[.slice none 0 0] 32)) 3 (.int .i64 0)
    have bS := Boxed.new ((w.alloc (.cells #[.slice none 0 0] 32)).alloc (.cells #[.int .i64 0] 3)) 53 (.slice A0 l0.length c0)
    simp only [World.size_alloc] at bF bS
    have hB0 : Below w.heap.size w (((w.alloc (.cells #[.slice none 0 0] 32)).alloc (.cells #[.int .i64 0] 3)).alloc (.cells #[.slice A0 l0.length c0] 53)) := (((Below.refl _ w).alloc (Nat.le_refl _) _).alloc (by simp) _).alloc (by simp; omega) _
    refine wpIn_rangeFunc_ownG rfl (by omega) (gf := 54) (lb := #[.pointer (some ⟨w.heap.size + 1 + 1, 0, none⟩)]) rfl trivial (enters_of Try.func54 (by kernel_rfl) rfl)
      (ends_stops _ (by omega) (w.heap.size + 1 + 1) c0 A0 l0 w _ hr0 hlen (by simp) hB0 bS.cell) belowK_t (belowK_b (by simp; omega)) (Below.refl _ _) (fun _ => rfl)
      (fun pre W => ((∃ v, Boxed W w.heap.size 32 v ∧ W.ownsRow w.heap.size 38 2 v pre.length (cellsOf (segs 0 pre)) ∧ True) ∧ Boxed W (w.heap.size + 1) 3 (.int .i64 (lst 0 pre))) ∧ Below w.heap.size w W)
      (fun _ _ _ => False)
      (OwnFrom.and (OwnFrom.and (Own.from (holdsRow_own w.heap.size w.heap.size 32 38 2 (fun pre => pre.length) (fun pre => cellsOf (segs 0 pre)) (fun _ _ => True)) _) (Own.from (boxed_own _ _ _) _)) (ownFrom_below (Nat.le_refl _) (by simp; omega)))
      (fun _ _ _ _ _ hs _ _ => hs)
      ⟨⟨⟨_, (bO.alloc _).alloc _, World.ownsRow_nil _ _ _ _, trivial⟩, bF.alloc _⟩, hB0⟩
      (fun x => { tmps := #[.slice A0 l0.length c0, undef, .slice none 0 0, .pointer (some ⟨w.heap.size, 0, none⟩), .pointer (some ⟨w.heap.size + 1, 0, none⟩), .int .i64 x, .slice A0 l0.length c0, .func (.func 54) #[] #[.pointer (some ⟨w.heap.size + 1 + 1, 0, none⟩)], .int .i64 x, undef, undef, undef, undef, undef, undef, undef, undef, undef, undef, undef, undef, undef, undef], defers := [] }) ?assign ?body ?done ?stop
    case assign =>
      intro l x W K hK
      gi_wp2
      exact hK
    case body =>
      rintro l pre x W ⟨⟨⟨v, hv, hrow, _⟩, hF⟩, hB⟩ hlt
      have hcv := hv.cell
      have hcf := hF.cell
      have hff := hF.frozen
      have hFn := hF.not_row (by decide) hrow
      have hne1 : w.heap.size + 1 ≠ w.heap.size := Nat.succ_ne_self _
      gi_wp2_with (gi_at_builtin; refine wpListIn_append_own _ rfl _ _ 32 rfl w.heap.size 38 i0 (.agg #[.int .i64 0, .int .i64 0]) 2 16 Try.underlying32 hi hz0 hz1 hz2 rfl (by decide) _ _ _ rfl (hrow.alloc _) ⟨W.heap.size, 0, none⟩ 1 1 [.int .i64 (lst 0 pre), .int .i64 (x)] rfl rfl (cell_two_new _ _ _ _) (by simp [Value.oneCell']) (by simp [maxLen]; omega) (by omega) (by have := hB.size; simp; omega) ?_; intro v' w1 hown' hgrow _; obtain ⟨g', cap', rfl⟩ := ownsRow_succ hown'; obtain ⟨hv1, hv2, hr2, hk2, hb2⟩ := hv.appended (by decide) hrow hB.size (Nat.le_refl _) hown' hgrow; have hc1 := hv1.cell; have hf1 := hv1.frozen; have hF2 := ((hF.alloc _).kept hgrow hFn).other hne1 (.slice (some ⟨g', 0, none⟩) (pre.length + 1) cap'); have hc2 := hF2.cell; have hf2 := hF2.frozen)
      refine ⟨(hk2.trans (KeepsOthers.setCell _ _ _)).from _, hb2.setCell (p := ⟨w.heap.size + 1, 0, none⟩) (Nat.le_succ _) _, ⟨⟨_, hv2.other hne1.symm _, ?_, trivial⟩, ?_⟩, (hB.trans hb2).setCell (p := ⟨w.heap.size + 1, 0, none⟩) (Nat.le_succ _) _⟩
      · rw [segs_snoc, cellsOf_snoc, List.length_append, List.length_singleton]
        exact hr2.kept (grownBy_setCell' _ _ _) (.inr (hF2.not_row (by decide) hr2).symm)
      · rw [lst_snoc]
        exact hF2.set _
    case done =>
      rintro D ys W hD rfl ⟨⟨⟨v, hv, hrow, _⟩, hF⟩, hB⟩ hK
      have hcv := hv.cell
      have hcf := hF.cell
      have hle := ends_len l0 l0.length
      have hnD := not_own hrow hK rfl
      gi_wp2_with (gi_at_builtin; refine wpListIn_append_own _ rfl _ _ 32 rfl w.heap.size 38 i0 (.agg #[.int .i64 0, .int .i64 0]) 2 16 Try.underlying32 hi hz0 hz1 hz2 rfl (by decide) _ _ _ rfl (hrow.alloc _) ⟨W.heap.size, 0, none⟩ 1 1 [.int .i64 (lst 0 (ends l0 l0.length)), .int .i64 ((l0.length : Int))] rfl rfl (cell_two_new _ _ _ _) (by simp [Value.oneCell']) (by simp [maxLen]; omega) (by omega) (by have := hB.size; simp; omega) ?_; intro v' w1 hown' hgrow _; obtain ⟨g', cap', rfl⟩ := ownsRow_succ hown'; have hbw := ((Below.refl w.heap.size W).alloc hB.size (.cells #[.int .i64 (lst 0 (ends l0 l0.length)), .int .i64 (l0.length : Int)] 38)).grown hgrow (by have := hB.size; simp; omega) (fun k hk => own_base hrow k hk); have hK1 := (hgrow.block D (by have := (Array.getElem?_eq_some_iff.1 hK).1; simp; omega) hnD).trans ((Below.heap_alloc W _ D (Array.getElem?_eq_some_iff.1 hK).1).trans hK))
      refine ⟨by simp, .inl ⟨_, _, rfl, run_takeDeferred hK1, ?_⟩⟩
      refine ⟨_, results_tmp rfl _ _ _, _, rfl, ?_, (hB.trans hbw).trans (belowK_b (w := w) (Nat.le_refl _) w1 D _ _ (by simp at hD; omega) hK1 rfl rfl)⟩
      obtain rfl := Option.some.inj h
      refine rows38 (ownsRow_putObj ?_ _ hK1 rfl)
      rw [cellsOf_snoc, List.length_append, List.length_singleton, segs_len]
      exact hown'
    case stop =>
      rintro D c pre W _ _ h _
      exact h.elim
  · rw [if_neg hlen] at h
    cases h
end Go.Proofs.Ytddhhncjfcolcaa.F
