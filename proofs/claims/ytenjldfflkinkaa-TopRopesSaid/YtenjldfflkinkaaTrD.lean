/- The texts FGRopUL, FGRopUM, FGRopUN, FGRopUO, FGRopUP, in one: what the law does not need is left out. -/
import Derived.Test.YtenjldfflkinkaaTrC
import Derived.RangeFuncNested
import Derived.RangeFuncBound
import Derived.RangeFuncCalls
import Derived.RangeFuncLeaves
import Derived.RangeFuncBox
import Derived.Shelf.Abstract
import Derived.WalkKit
import Derived.OwnWalkIn
import Derived.TacticsInMore
import Derived.LoopNIn
import Derived.LoopIn
import Derived.Maps.AppendAt
import Derived.KernelRfl
import Derived.Test.YtenjldfflkinkaaProg
import Derived.Below
import Derived.Deep.Draws
import Derived.Deep.AppendLies
import Derived.OwnWalk
import Derived.Laws.BytesArg
import Derived.Laws.MakeOwn
import Derived.Laws.OwnMore
import Derived.Deep.OwnRows
import Derived.Tactics
import Derived.Lib.ConvBytes
import Derived.Laws.Slices
import Derived.RowKit3
import Derived.Deep.LoopGhost
import Derived.Deep.QuietTactic
import Derived.BigQuiet
import Derived.WideLaws
import Derived.Deep.DeepCutAuto
import Derived.Deep.CutBlock
import Derived.Deep.RegionHeld3
import Derived.Laws.Rows
import Derived.Lib.AppendStr
import Derived.ArgAppend
import Derived.Laws.IdiomCopy
import Derived.OrdersHeld
import Derived.Laws.BitsLemmas
import Derived.RowKit
import Derived.Test.YtenjldfflkinkaaWWords
import Derived.Test.YtenjldfflkinkaaWLast
import Derived.Test.YtenjldfflkinkaaWTab
import Derived.Test.YtenjldfflkinkaaWFour
import Derived.Test.YtenjldfflkinkaaWQPut
import Derived.Test.YtenjldfflkinkaaWApart
import Derived.Test.YtenjldfflkinkaaWArr
import Derived.Test.YtenjldfflkinkaaWZeros
import Derived.Test.YtenjldfflkinkaaWFoot
import Derived.Test.YtenjldfflkinkaaWKept
import Derived.Test.YtenjldfflkinkaaWShare
import Derived.Test.YtenjldfflkinkaaWN
import Derived.Test.YtenjldfflkinkaaWFootNe
import Derived.Test.YtenjldfflkinkaaWAt
import Derived.Test.YtenjldfflkinkaaWEqStruct
import Derived.Test.YtenjldfflkinkaaWRepsOne
import Derived.Test.YtenjldfflkinkaaWInv
import Derived.Test.YtenjldfflkinkaaWInvWords
import Derived.Test.YtenjldfflkinkaaWGuard
import Derived.Test.YtenjldfflkinkaaWNEv
import Derived.Test.YtenjldfflkinkaaWMore
import Derived.WalkSpells
import Derived.WalkLawsBesides
import Derived.StillTailTactics
import Derived.IntWalk
import Derived.Maps.OwnIn
import Derived.Test.YtenjldfflkinkaaWSized
import Derived.ProofKit
import Derived.OpenShut
import Derived.ShutString
import Derived.ChangeOld
import Derived.SizedLaws
import Derived.Lib.SmallJoins
import Derived.Stop.RegionWithIn
namespace Go.Proofs.Ytenjldfflkinkaa.Rop
set_option linter.unusedVariables false
set_option linter.unusedSimpArgs false
open Go.RowKit Go.Shelf Go.Proofs.Ytenjldfflkinkaa.F Go.Proofs.YtenjldfflkinkaaW.PrintWords Go.Proofs.YtenjldfflkinkaaW.PrintLast Go.Proofs.YtenjldfflkinkaaW.PrintMore

/-! ### para.Move -/
/-- a place that Move takes -/
def okp (n : Int) : Prop := 0 ≤ n ∧ n ≤ 1099511627776
instance (n : Int) : Decidable (okp n) := by unfold okp; infer_instance
/-- what Move tells -/
def mv (i a g c : Int) : Int × Int :=
  if okp i ∧ okp a ∧ okp g ∧ okp c then (if i < a then i else if i < a + g then a else i - g + c, 0) else (0, 2)
theorem mv_bad {i a g c : Int} (h : ¬ (okp i ∧ okp a ∧ okp g ∧ okp c)) : mv i a g c = (0, 2) := by unfold mv; rw [if_neg h]
theorem mv_ahead {i a g c : Int} (h : okp i ∧ okp a ∧ okp g ∧ okp c) (h1 : i < a) : mv i a g c = (i, 0) := by unfold mv; rw [if_pos h, if_pos h1]
theorem mv_gone {i a g c : Int} (h : okp i ∧ okp a ∧ okp g ∧ okp c) (h1 : ¬ i < a) (h2 : i < a + g) : mv i a g c = (a, 0) := by unfold mv; rw [if_pos h, if_neg h1, if_pos h2]
theorem mv_behind {i a g c : Int} (h : okp i ∧ okp a ∧ okp g ∧ okp c) (h1 : ¬ i < a) (h2 : ¬ i < a + g) : mv i a g c = (i - g + c, 0) := by unfold mv; rw [if_pos h, if_neg h1, if_neg h2]
def para_Move.f (a0 a1 a2 a3 : Int) : Option (Int × Int) := some (mv a0 a1 a2 a3)
theorem mvEnd_of {i a g c p q r1 r2 : Int} (h : mv i a g c = (p, q)) (hr : some (mv i a g c) = some (r1, r2)) : (Ending.returned (.tuple #[.int .i64 p, .int .i64 q])) = .returned (.tuple #[.int .i64 r1, .int .i64 r2]) := by
  rw [h] at hr; simp only [Option.some.injEq, Prod.mk.injEq] at hr; rw [hr.1, hr.2]

set_option maxHeartbeats 1000000 in
theorem para_Move.calls (i a g c : Int) (r1 r2 : Int) (w : World) (h : para_Move.f i a g c = some (r1, r2)) :
    Calls Try.prog 44 #[.int .i64 i, .int .i64 a, .int .i64 g, .int .i64 c] w fun e w' => e = .returned (.tuple #[.int .i64 r1, .int .i64 r2]) ∧ Drawn0 w w' := by
  have HR := Aside0.mk (show some (mv i a g c) = some (r1, r2) from h)
  clear h
  have i0 : ∀ (a b c d : Int) (w : World), (Instr.index 112 (.agg #[.int .i64 a, .int .i64 b, .int .i64 c, .int .i64 d]) (.int .i64 0)).run Try.prog w = .ok (.int .i64 a) w := fun a b c d w => by kernel_rfl
  have i1 : ∀ (a b c d : Int) (w : World), (Instr.index 112 (.agg #[.int .i64 a, .int .i64 b, .int .i64 c, .int .i64 d]) (.int .i64 1)).run Try.prog w = .ok (.int .i64 b) w := fun a b c d w => by kernel_rfl
  have i2 : ∀ (a b c d : Int) (w : World), (Instr.index 112 (.agg #[.int .i64 a, .int .i64 b, .int .i64 c, .int .i64 d]) (.int .i64 2)).run Try.prog w = .ok (.int .i64 c) w := fun a b c d w => by kernel_rfl
  have i3 : ∀ (a b c d : Int) (w : World), (Instr.index 112 (.agg #[.int .i64 a, .int .i64 b, .int .i64 c, .int .i64 d]) (.int .i64 3)).run Try.prog w = .ok (.int .i64 d) w := fun a b c d w => by kernel_rfl
  go_enter Try.func44, Try.ntmps44
  go_wp2_with fail
  refine wp_loop_rounds 5 ?_
  rw [rounds_succ]
  go_wp2_with fail
  all_goals first
    | (go_ret2; exact ⟨mvEnd_of (mv_bad (by unfold okp; omega)) HR.out, Drawn0.refl _⟩)
    | (rw [rounds_succ]; go_wp2_with fail)
  all_goals first
    | (go_ret2; exact ⟨mvEnd_of (mv_bad (by unfold okp; omega)) HR.out, Drawn0.refl _⟩)
    | (rw [rounds_succ]; go_wp2_with fail)
  all_goals first
    | (go_ret2; exact ⟨mvEnd_of (mv_bad (by unfold okp; omega)) HR.out, Drawn0.refl _⟩)
    | (rw [rounds_succ]; go_wp2_with fail)
  all_goals first
    | (go_ret2; exact ⟨mvEnd_of (mv_bad (by unfold okp; omega)) HR.out, Drawn0.refl _⟩)
    | (rw [rounds_succ]; go_wp2_with fail)
  · go_ret2; exact ⟨mvEnd_of (mv_ahead (by unfold okp; omega) (by omega)) HR.out, Drawn0.refl _⟩
  · go_ret2; exact ⟨mvEnd_of (mv_gone (by unfold okp; omega) (by omega) (by omega)) HR.out, Drawn0.refl _⟩
  · go_ret2; exact ⟨mvEnd_of (mv_behind (by unfold okp; omega) (by omega) (by omega)) HR.out, Drawn0.refl _⟩

/-! ### pairs -/
structure SB where
  f0 : Int
  f1 : Int
def zB : SB := ⟨(0 : Int), (0 : Int)⟩
def kB : Kd SB := Kd.iso (Kd.pair (Kd.int .i64) (Kd.int .i64)) (fun x : SB => (x.f0, x.f1))
theorem kB_open {w : World} {x : SB} {cs : List Value} (h : kB.K w x cs) : cs = [.int .i64 x.f0, .int .i64 x.f1] := by
  obtain ⟨_, _, rfl, rfl, rfl⟩ := h
  exact rfl
theorem kB_mkM (w : World) (base : Nat) (ok : Nat → Prop) (x : SB)  : kB.M w base ok x [.int .i64 x.f0, .int .i64 x.f1] := ⟨[.int .i64 x.f0], [.int .i64 x.f1], rfl, rfl, rfl⟩
def rdB (xs : List SB) (i : Int) : SB := xs.getD i.toNat zB
theorem atB {w : World} {A : Option Addr} {n : Nat} {xs : List SB} (h : Kd.C kB w A n xs) (i : Int) (h0 : 0 ≤ i) (h1 : i < n) : ∃ ad , A = some ad ∧ w.cell? (ad.add (i.toNat * 2)) = some (.int .i64 (rdB xs i).f0) ∧ w.cell? ⟨(ad.add (i.toNat * 2)).block, (ad.add (i.toNat * 2)).off + 1, none⟩ = some (.int .i64 (rdB xs i).f1) := by
  obtain ⟨ad, c, e, _, hK, hc0⟩ := Kd.C_get h zB i h0 h1
  have hc : ∀ j u, c[j]? = some u → w.cell? (ad.add (i.toNat * 2 + j)) = some u := hc0
  obtain rfl := kB_open hK
  exact ⟨ad, e, hc 0 _ rfl, by rw [← add_field _ _ 1 (by omega)]; exact hc 1 _ rfl⟩
/-! ### para.Bounds -/
attribute [local go_sem] Oper.semAt_some

/-- The places behind separators among the first k. -/
def ends (l : List Int) (k : Nat) : List Int := ((List.range k).filter fun j => decide (clsOf (l.getD j 0) = 11)).map fun j : Nat => (j : Int) + 1
theorem ends_hit {l : List Int} {k : Nat} (h : clsOf (l.getD k 0) = 11) : ends l (k + 1) = ends l k ++ [(k : Int) + 1] := by
  unfold ends
  rw [List.range_succ, List.filter_append, List.map_append]
  simp only [List.filter_cons, List.filter_nil, h]
  rfl
theorem ends_miss {l : List Int} {k : Nat} (h : ¬ clsOf (l.getD k 0) = 11) : ends l (k + 1) = ends l k := by
  unfold ends
  rw [List.range_succ, List.filter_append, List.map_append]
  simp only [List.filter_cons, List.filter_nil, h]
  simp
theorem ends_len (l : List Int) (k : Nat) : (ends l k).length ≤ k := by
  unfold ends
  rw [List.length_map]
  exact Nat.le_trans (List.length_filter_le _ _) (by simp)

theorem num_read {w : World} {A : Option Addr} {zs : List Int} (h : Kd.C (Kd.int .i32) w A zs.length zs) (k : Nat) (hk : k < zs.length) : ∃ ad, A = some ad ∧ w.cell? (ad.add k) = some (.int .i32 (zs.getD k 0)) := by
  obtain ⟨ad, c, e, hc1, hK, hc0⟩ := Kd.C_get h 0 (k : Int) (by omega) (by omega)
  have hK' : c = [.int .i32 (zs.getD k 0)] := hK
  subst hK'
  have := hc0 0 _ rfl
  refine ⟨ad, e, ?_⟩
  have h1 : (k : Int).toNat * (Kd.int .i32).sz + 0 = k := by show k * 1 + 0 = k; omega
  rw [h1] at this
  exact this

set_option maxRecDepth 100000 in
set_option maxHeartbeats 2000000 in
theorem ends1_in (n : Nat) (hn : 1 ≤ n) (lp Bs c : Nat) (A : Option Addr) (zs : List Int) (w0 W : World) (hC : Kd.C (Kd.int .i32) w0 A zs.length zs) (hlen : zs.length ≤ 1000000) (J Jx : List Int → World → Prop) (hJ : AbidesFrom W.heap.size J)
    (hY : ∀ pre x W1, J pre W1 → pre.length < zs.length → YieldAt Fence.wide (n - 1) Try.prog lp #[.int .i64 x] W1 fun e W' =>
      (e = .returned (.bool true) ∧ J (pre ++ [x]) W' ∧ Below w0.heap.size W1 W') ∨ (e = .returned (.bool false) ∧ Jx (pre ++ [x]) W'))
    (hB : Below w0.heap.size w0 W) (hBs : W.cell? ⟨Bs, 0, none⟩ = some (.slice A zs.length c)) (h0 : J [] W) :
    CallsIn Fence.wide n Try.prog 74 #[.func (.yield lp) #[] #[], .pointer (some ⟨Bs, 0, none⟩)] W fun e W' => (∃ v, e = .returned v) ∧
      ((∃ ys, ys = ends zs zs.length ∧ J ys W') ∨ (∃ pre, (∃ k, k ≤ zs.length ∧ pre = ends zs k) ∧ Jx pre W')) := by
  refine callsIn_of_wp Try.func74 rfl trivial ?_ rfl
  simp only [Try.ntmps74, List.size_toArray, List.length_cons, List.length_nil, Nat.reduceAdd, Nat.reduceSub, Array.replicate_succ, Array.replicate_zero, List.push_toArray, List.append_toArray, List.nil_append, List.cons_append]
  gi_wp2
  gi_loopw [7] (fun i wr => ∃ k : Nat, k ≤ zs.length ∧ i = .int .i64 k ∧ J (ends zs k) wr ∧ Below w0.heap.size w0 wr)
    (fun i _ => zs.length - (intOf i).toNat)
  case atStart => exact ⟨0, Nat.zero_le _, rfl, h0, hB⟩
  case round =>
    obtain ⟨k, hk, rfl, hJs, hnx⟩ := hrel
    by_cases hlt : k < zs.length
    · obtain ⟨ad, rfl, hcx⟩ := num_read (Kd.C_below hC hnx) k hlt
      obtain ⟨x, hx⟩ : ∃ x, zs.getD k 0 = x := ⟨_, rfl⟩
      rw [hx] at hcx
      obtain ⟨r, hr⟩ : ∃ r, clsOf x = r := ⟨_, rfl⟩
      have hcl : ucd_Class.f x = some r := by rw [← hr]; rfl
      by_cases h11 : r = 11
      · subst h11
        have hhit := ends_hit (l := zs) (k := k) (by rw [hx]; exact hr)
        have hle := ends_len zs k
        gi_wp2_with (refine ⟨trivial, ?_⟩; gi_at_call 67; refine (callsIn_wide.2 (ucd_Class.calls _ _ _ hcl)).mono ?_; rintro e w2 ⟨rfl, hb2⟩)
        have hJ2 := hJ _ _ _ none hJs (grown_of_below hb2 none) (fun r e => by cases e)
        obtain ⟨fn, tmps, assign, body, hy, hR⟩ := hY (ends zs k) ((k : Int) + 1) w2 hJ2 (by omega)
        rw [hy]
        gi_wp2
        refine hR.mono ?_
        rintro e W3 (⟨rfl, hJ3, hk3⟩ | ⟨rfl, hJx3⟩)
        · gi_wp2
          go_roundw
          case rel => exact ⟨k + 1, by omega, by simp, by rw [hhit]; exact hJ3, (hnx.trans (hb2.mono hnx.size)).trans hk3⟩
          case measure => simp [intOf]; omega
        · gi_wp2
          refine bodyPost_ret (results_none rfl _ _ _) rfl ?_
          exact ⟨⟨_, rfl⟩, .inr ⟨_, ⟨k + 1, by omega, hhit.symm⟩, hJx3⟩⟩
      · have hmiss := ends_miss (l := zs) (k := k) (by rw [hx, hr]; exact h11)
        gi_wp2_with (refine ⟨trivial, ?_⟩; gi_at_call 67; refine (callsIn_wide.2 (ucd_Class.calls _ _ _ hcl)).mono ?_; rintro e w2 ⟨rfl, hb2⟩)
        have hJ2 := hJ _ _ _ none hJs (grown_of_below hb2 none) (fun r e => by cases e)
        refine ⟨fun _ h => (by cases h), ?_⟩
        gi_wp2
        go_roundw
        case rel => exact ⟨k + 1, by omega, by simp, by rw [hmiss]; exact hJ2, hnx.trans (hb2.mono hnx.size)⟩
        case measure => simp [intOf]; omega
    · obtain rfl : k = zs.length := by omega
      gi_wp2
      go_end0
      exact ⟨⟨_, rfl⟩, .inl ⟨_, rfl, hJs⟩⟩

/-- ends hands back its closure over the boxed slice. -/
theorem ends_calls (n : Nat) (A : Option Addr) (len c : Nat) (w : World) :
    CallsIn Fence.wide n Try.prog 65 #[.slice A len c] w fun e w' => e = .returned (.func (.func 74) #[] #[.pointer (some ⟨w.heap.size, 0, none⟩)]) ∧ w' = w.alloc (.cells #[.slice A len c] 23) := by
  refine callsIn_of_wp Try.func65 rfl trivial ?_ rfl
  simp only [Try.ntmps65, List.size_toArray, List.length_cons, List.length_nil, Nat.reduceAdd, Nat.reduceSub, Array.replicate_succ, Array.replicate_zero, List.push_toArray, List.append_toArray, List.nil_append, List.cons_append]
  gi_wp2
  go_ret
  exact ⟨rfl, rfl⟩

/-- The value that ends hands back: the places, in their order; or as many as a loop would have. -/
theorem ends_stops (n : Nat) (hn : 1 ≤ n) (Bs c : Nat) (A : Option Addr) (zs : List Int) (w0 w : World) (hC : Kd.C (Kd.int .i32) w0 A zs.length zs) (hlen : zs.length ≤ 1000000) (hBs : Bs < w.heap.size) (hB : Below w0.heap.size w0 w)
    (hc : w.cell? ⟨Bs, 0, none⟩ = some (.slice A zs.length c)) :
    SeqStopsK Fence.wide n Try.prog 74 #[.pointer (some ⟨Bs, 0, none⟩)] (fun x : Int => #[Value.int .i64 x]) (Below w0.heap.size) (fun ys => ys = ends zs zs.length)
      (fun pre => ∃ k, k ≤ zs.length ∧ pre = ends zs k) zs.length w := fun l J Jx W hW hJ _ hY h0 =>
  ends1_in n hn l Bs c A zs w0 W hC hlen J Jx hJ hY (hB.trans (hW.mono hB.size)) ((hW.cell (p := ⟨Bs, 0, none⟩) hBs).trans hc) h0

/-! ### para.Find -/
def segs : Int → List Int → List SB
  | _, [] => []
  | s, x :: l => ⟨s, x⟩ :: segs x l
def lst : Int → List Int → Int
  | s, [] => s
  | _, x :: l => lst x l
theorem segs_snoc : ∀ (s : Int) (l : List Int) (x : Int), segs s (l ++ [x]) = segs s l ++ [⟨lst s l, x⟩]
  | _, [], _ => rfl
  | s, y :: l, x => by
    show (⟨s, y⟩ : SB) :: segs y (l ++ [x]) = (⟨s, y⟩ :: segs y l) ++ [⟨lst y l, x⟩]
    rw [segs_snoc y l x]
    rfl
theorem lst_snoc : ∀ (s : Int) (l : List Int) (x : Int), lst s (l ++ [x]) = x
  | _, [], _ => rfl
  | s, y :: l, x => lst_snoc y l x
theorem segs_len : ∀ (s : Int) (l : List Int), (segs s l).length = l.length
  | _, [] => rfl
  | s, y :: l => by
    show (segs y l).length + 1 = l.length + 1
    rw [segs_len y l]
def cellsOf (l : List SB) : List Value := l.flatMap fun p => [.int .i64 p.f0, .int .i64 p.f1]
theorem cellsOf_snoc (l : List SB) (p : SB) : cellsOf (l ++ [p]) = cellsOf l ++ [.int .i64 p.f0, .int .i64 p.f1] := by simp [cellsOf]
theorem reps_from (W : World) (base : Nat) (ok : Nat → Prop) : ∀ (l pre : List SB) (cs : List Value), Reps (kB.M W base ok) 2 pre cs → Reps (kB.M W base ok) 2 (pre ++ l) (cs ++ cellsOf l)
  | [], pre, cs, h => by simpa [cellsOf] using h
  | x :: l, pre, cs, h => by
    have := reps_from W base ok l (pre ++ [x]) (cs ++ [.int .i64 x.f0, .int .i64 x.f1]) (h.snoc (kB_mkM W base ok x) rfl)
    simpa [cellsOf, List.append_assoc] using this
theorem reps_cells (W : World) (base : Nat) (ok : Nat → Prop) (l : List SB) : Reps (kB.M W base ok) 2 l (cellsOf l) := by
  have := reps_from W base ok l [] [] (Reps.none _ _)
  simpa using this
theorem rowsB {W : World} {base : Nat} {v : Value} {l : List SB} (h : W.ownsRow base 96 2 v l.length (cellsOf l)) : Kd.R kB 96 W base (fun _ => True) v l := ⟨fun _ _ => trivial, _, h, reps_cells _ _ _ _⟩
theorem info_para : (Try.prog.info? 96).map (fun i => (i.zero, i.size, i.bytes)) = some (some (.agg #[.int .i64 0, .int .i64 0]), 2, 16) := by kernel_rfl

theorem cell_two_new (w : World) (x y : Value) (t : TypeId) : ∀ j u, [x, y][j]? = some u → (w.alloc (.cells #[x, y] t)).cell? ((⟨w.heap.size, 0, none⟩ : Addr).add j) = some u := by
  intro j u hj
  match j, hj with
  | 0, hj =>
    simp at hj
    subst hj
    simp [Addr.add]
  | 1, hj =>
    simp at hj
    subst hj
    simp [Addr.add]
  | j + 2, hj => simp at hj
theorem not_own {W : World} {base : Nat} {e : TypeId} {size : Nat} {v : Value} {k : Nat} {xs : List Value} (h : W.ownsRow base e size v k xs) {D : Nat} {o : Obj} (hD : W.heap[D]? = some o) (ho : o.isCells = false) : some D ≠ v.ownBlock := by
  rcases h.2 with ⟨rfl, _⟩ | ⟨g, cap, cur, rfl, _, hgb, _⟩
  · simp [Value.ownBlock]
  · intro e
    obtain rfl : g = D := by simpa [Value.ownBlock] using e.symm
    rw [hgb] at hD
    cases hD
    cases ho
def para_Bounds.f (l0 : List Int) : Option (List SB) := if l0.length ≤ 1000000 then some (segs 0 (ends l0 l0.length) ++ [⟨lst 0 (ends l0 l0.length), (l0.length : Int)⟩]) else none

set_option maxRecDepth 100000 in
set_option maxHeartbeats 4000000 in
theorem para_Bounds.calls (A0 : Option Addr) (c0 : Nat) (l0 : List Int) (r : List SB) (w : World) (hr0 : Kd.C (Kd.int .i32) w A0 l0.length l0) (hc0 : l0.length ≤ c0) (h : para_Bounds.f l0 = some r) :
    Calls Try.prog 47 #[.slice A0 l0.length c0] w fun e w' => ∃ v0_ : Value, e = .returned v0_ ∧ Kd.R kB 96 w' w.heap.size (fun _ => True) v0_ r ∧ Below w.heap.size w w' := by
  unfold para_Bounds.f at h
  by_cases hlen : l0.length ≤ 1000000
  · rw [if_pos hlen] at h
    obtain ⟨i0, hi, hz0, hz1, hz2⟩ := info_parts info_para
    refine (callsIn_wide (n := 5)).1 ?_
    refine callsIn_of_wp_marks Try.func47 rfl trivial ?_ rfl
    simp only [Try.ntmps47, List.size_toArray, List.length_cons, List.length_nil, Nat.reduceAdd, Nat.reduceSub, Array.replicate_succ, Array.replicate_zero, List.push_toArray, List.append_toArray, List.nil_append, List.cons_append]
    gi_wp2_with (refine ⟨trivial, ?_⟩; gi_at_call 65; refine (ends_calls _ _ _ _ _).mono ?_; rintro e w' ⟨rfl, rfl⟩)
    have bO := Boxed.new w 94 (.slice none 0 0)
    have bF := Boxed.new (w.alloc (.cells #[.slice none 0 0] 94)) 3 (.int .i64 0)
    have bS := Boxed.new ((w.alloc (.cells #[.slice none 0 0] 94)).alloc (.cells #[.int .i64 0] 3)) 23 (.slice A0 l0.length c0)
    simp only [World.size_alloc] at bF bS
    have hB0 : Below w.heap.size w (((w.alloc (.cells #[.slice none 0 0] 94)).alloc (.cells #[.int .i64 0] 3)).alloc (.cells #[.slice A0 l0.length c0] 23)) := (((Below.refl _ w).alloc (Nat.le_refl _) _).alloc (by simp) _).alloc (by simp; omega) _
    refine wpIn_rangeFunc_ownG rfl (by omega) (gf := 74) (lb := #[.pointer (some ⟨w.heap.size + 1 + 1, 0, none⟩)]) rfl trivial (enters_of Try.func74 (by kernel_rfl) rfl)
      (ends_stops _ (by omega) (w.heap.size + 1 + 1) c0 A0 l0 w _ hr0 hlen (by simp) hB0 bS.cell) belowK_t (belowK_b (by simp; omega)) (Below.refl _ _) (fun _ => rfl)
      (fun pre W => ((∃ v, Boxed W w.heap.size 94 v ∧ W.ownsRow w.heap.size 96 2 v pre.length (cellsOf (segs 0 pre)) ∧ True) ∧ Boxed W (w.heap.size + 1) 3 (.int .i64 (lst 0 pre))) ∧ Below w.heap.size w W)
      (fun _ _ _ => False)
      (OwnFrom.and (OwnFrom.and (Own.from (holdsRow_own w.heap.size w.heap.size 94 96 2 (fun pre => pre.length) (fun pre => cellsOf (segs 0 pre)) (fun _ _ => True)) _) (Own.from (boxed_own _ _ _) _)) (ownFrom_below (Nat.le_refl _) (by simp; omega)))
      (fun _ _ _ _ _ hs _ _ => hs)
      ⟨⟨⟨_, (bO.alloc _).alloc _, World.ownsRow_nil _ _ _ _, trivial⟩, bF.alloc _⟩, hB0⟩
      (fun x => { tmps := #[.slice A0 l0.length c0, undef, .slice none 0 0, .pointer (some ⟨w.heap.size, 0, none⟩), .pointer (some ⟨w.heap.size + 1, 0, none⟩), .int .i64 x, .slice A0 l0.length c0, .func (.func 74) #[] #[.pointer (some ⟨w.heap.size + 1 + 1, 0, none⟩)], .int .i64 x, undef, undef, undef, undef, undef, undef, undef, undef, undef, undef, undef, undef, undef, undef], defers := [] }) ?assign ?body ?done ?stop
    case assign =>
      intro l x W K hK
      gi_wp2
      exact hK
    case body =>
      rintro l pre x W ⟨⟨⟨v, hv, hrow, _⟩, hF⟩, hB⟩ hlt
      have hcv := hv.cell
      have hcf := hF.cell
      have hff := hF.frozen
      have hFn := hF.not_row (by decide) hrow
      have hne1 : w.heap.size + 1 ≠ w.heap.size := Nat.succ_ne_self _
      gi_wp2_with (gi_at_builtin; refine wpListIn_append_own _ rfl _ _ 94 rfl w.heap.size 96 i0 (.agg #[.int .i64 0, .int .i64 0]) 2 16 Try.underlying94 hi hz0 hz1 hz2 rfl (by decide) _ _ _ rfl (hrow.alloc _) ⟨W.heap.size, 0, none⟩ 1 1 [.int .i64 (lst 0 pre), .int .i64 (x)] rfl rfl (cell_two_new _ _ _ _) (by simp [Value.oneCell']) (by simp [maxLen]; omega) (by omega) (by have := hB.size; simp; omega) ?_; intro v' w1 hown' hgrow _; obtain ⟨g', cap', rfl⟩ := ownsRow_succ hown'; obtain ⟨hv1, hv2, hr2, hk2, hb2⟩ := hv.appended (by decide) hrow hB.size (Nat.le_refl _) hown' hgrow; have hc1 := hv1.cell; have hf1 := hv1.frozen; have hF2 := ((hF.alloc _).kept hgrow hFn).other hne1 (.slice (some ⟨g', 0, none⟩) (pre.length + 1) cap'); have hc2 := hF2.cell; have hf2 := hF2.frozen)
      refine ⟨(hk2.trans (KeepsOthers.setCell _ _ _)).from _, hb2.setCell (p := ⟨w.heap.size + 1, 0, none⟩) (Nat.le_succ _) _, ⟨⟨_, hv2.other hne1.symm _, ?_, trivial⟩, ?_⟩, (hB.trans hb2).setCell (p := ⟨w.heap.size + 1, 0, none⟩) (Nat.le_succ _) _⟩
      · rw [segs_snoc, cellsOf_snoc, List.length_append, List.length_singleton]
        exact hr2.kept (grownBy_setCell' _ _ _) (.inr (hF2.not_row (by decide) hr2).symm)
      · rw [lst_snoc]
        exact hF2.set _
    case done =>
      rintro D ys W hD rfl ⟨⟨⟨v, hv, hrow, _⟩, hF⟩, hB⟩ hK
      have hcv := hv.cell
      have hcf := hF.cell
      have hle := ends_len l0 l0.length
      have hnD := not_own hrow hK rfl
      gi_wp2_with (gi_at_builtin; refine wpListIn_append_own _ rfl _ _ 94 rfl w.heap.size 96 i0 (.agg #[.int .i64 0, .int .i64 0]) 2 16 Try.underlying94 hi hz0 hz1 hz2 rfl (by decide) _ _ _ rfl (hrow.alloc _) ⟨W.heap.size, 0, none⟩ 1 1 [.int .i64 (lst 0 (ends l0 l0.length)), .int .i64 ((l0.length : Int))] rfl rfl (cell_two_new _ _ _ _) (by simp [Value.oneCell']) (by simp [maxLen]; omega) (by omega) (by have := hB.size; simp; omega) ?_; intro v' w1 hown' hgrow _; obtain ⟨g', cap', rfl⟩ := ownsRow_succ hown'; have hbw := ((Below.refl w.heap.size W).alloc hB.size (.cells #[.int .i64 (lst 0 (ends l0 l0.length)), .int .i64 (l0.length : Int)] 96)).grown hgrow (by have := hB.size; simp; omega) (fun k hk => own_base hrow k hk); have hK1 := (hgrow.block D (by have := (Array.getElem?_eq_some_iff.1 hK).1; simp; omega) hnD).trans ((Below.heap_alloc W _ D (Array.getElem?_eq_some_iff.1 hK).1).trans hK))
      refine ⟨by simp, .inl ⟨_, _, rfl, run_takeDeferred hK1, ?_⟩⟩
      refine ⟨_, results_tmp rfl _ _ _, _, rfl, ?_, (hB.trans hbw).trans (belowK_b (w := w) (Nat.le_refl _) w1 D _ _ (by simp at hD; omega) hK1 rfl rfl)⟩
      obtain rfl := Option.some.inj h
      refine rowsB (ownsRow_putObj ?_ _ hK1 rfl)
      rw [cellsOf_snoc, List.length_append, List.length_singleton, segs_len]
      exact hown'
    case stop =>
      rintro D c pre W _ _ h _
      exact h.elim
  · rw [if_neg hlen] at h
    cases h


/-! ### what they tell, in plain Lean -/
theorem ends_cnt (l : List Int) : ∀ m, m ≤ l.length → (ends l m).length = cnt l m ∧ ∀ i x, (ends l m)[i]? = some x → ∃ j : Nat, x = (j : Int) + 1 ∧ j + 1 ≤ m ∧ cnt l (j + 1) = i + 1 ∧ ∀ m', m' < j + 1 → cnt l m' < i + 1
  | 0, _ => ⟨rfl, fun i x h => by simp [ends] at h⟩
  | m + 1, hm => by
    obtain ⟨h1, h2⟩ := ends_cnt l m (by omega)
    have hcs : cnt l (m + 1) = cnt l m + (if clsOf (l.getD m 0) = 11 then 1 else 0) := by
      rw [cnt_add]
      have hlt : m < l.length := by omega
      rw [List.drop_eq_getElem_cons hlt]
      have e : l.getD m 0 = l[m] := by simp [List.getD_eq_getElem?_getD, List.getElem?_eq_getElem hlt]
      rw [e]
      simp only [List.take_succ_cons, List.take_zero, List.countP_cons, List.countP_nil, Nat.zero_add, sep]
      by_cases hc : clsOf l[m] = 11
      · simp [hc]
      · simp [hc]
    by_cases hc : clsOf (l.getD m 0) = 11
    · rw [if_pos hc] at hcs
      rw [ends_hit hc]
      refine ⟨by rw [List.length_append, h1, List.length_singleton, hcs], fun i x hx => ?_⟩
      by_cases hi : i < (ends l m).length
      · rw [List.getElem?_append_left hi] at hx
        obtain ⟨j, q1, q2, q3, q4⟩ := h2 i x hx
        exact ⟨j, q1, by omega, q3, q4⟩
      · rw [List.getElem?_append_right (by omega)] at hx
        have hi0 : i - (ends l m).length = 0 := by
          rcases Nat.eq_zero_or_pos (i - (ends l m).length) with e | e
          · exact e
          · rw [List.getElem?_eq_none (by simp; omega)] at hx
            cases hx
        rw [hi0] at hx
        simp at hx
        refine ⟨m, hx.symm, Nat.le_refl _, by omega, fun m' hm' => ?_⟩
        have := cnt_mono l (show m' ≤ m by omega)
        omega
    · rw [if_neg hc] at hcs
      rw [ends_miss hc]
      refine ⟨by omega, fun i x hx => ?_⟩
      obtain ⟨j, q1, q2, q3, q4⟩ := h2 i x hx
      exact ⟨j, q1, by omega, q3, q4⟩
theorem Begins.uniq {l : List Int} {k e e' : Nat} (h : Begins l k e) (h' : Begins l k e') : e = e' := by
  rcases Nat.lt_trichotomy e e' with q | q | q
  · have h1 := h'.lt e q
    have h2 := h.ge (by have := h'.le; omega)
    omega
  · exact q
  · have h1 := h.lt e' q
    have h2 := h'.ge (by have := h.le; omega)
    omega
theorem segs_at : ∀ (s : Int) (l : List Int) (x : Int) (k : Nat), k ≤ l.length → (segs s l ++ [⟨lst s l, x⟩])[k]? = some ⟨(s :: l).getD k 0, (l ++ [x]).getD k 0⟩
  | s, [], x, k, hk => by
    obtain rfl : k = 0 := by simpa using hk
    rfl
  | s, y :: l, x, 0, hk => rfl
  | s, y :: l, x, k + 1, hk => by
    have := segs_at y l x k (by simpa using hk)
    simpa [segs, lst] using this
/-- the bounds are the paragraphs -/
theorem bounds_at {l : List Int} {k : Nat} (hk : k ≤ l.countP sep) : ∃ a b : Nat, (segs 0 (ends l l.length) ++ [⟨lst 0 (ends l l.length), (l.length : Int)⟩])[k]? = some ⟨(a : Int), (b : Int)⟩ ∧ Begins l k a ∧ Begins l (k + 1) b := by
  obtain ⟨h1, h2⟩ := ends_cnt l l.length (Nat.le_refl _)
  rw [cnt_all] at h1
  have hat : ∀ i, i < l.countP sep → ∃ j : Nat, (ends l l.length)[i]? = some ((j : Int) + 1) ∧ Begins l (i + 1) (j + 1) := by
    intro i hi
    have hx : (ends l l.length)[i]? = some (ends l l.length)[i] := List.getElem?_eq_getElem (by omega)
    obtain ⟨j, q1, q2, q3, q4⟩ := h2 i _ hx
    exact ⟨j, by rw [hx, q1], ⟨q2, q4, fun _ => by omega⟩⟩
  have hlast : Begins l (l.countP sep + 1) l.length := ⟨Nat.le_refl _, fun m hm => by have := cnt_mono l (show m ≤ l.length by omega); rw [cnt_all] at this; omega, fun h => by omega⟩
  rw [segs_at 0 _ _ k (by omega)]
  have hb : ∃ b : Nat, (ends l l.length ++ [(l.length : Int)]).getD k 0 = (b : Int) ∧ Begins l (k + 1) b := by
    by_cases hlt : k < l.countP sep
    · obtain ⟨j, q1, q2⟩ := hat k hlt
      refine ⟨j + 1, ?_, q2⟩
      rw [List.getD_eq_getElem?_getD, List.getElem?_append_left (by omega), q1]
      simp
    · obtain rfl : k = l.countP sep := by omega
      refine ⟨l.length, ?_, hlast⟩
      rw [List.getD_eq_getElem?_getD, List.getElem?_append_right (by omega), h1]
      simp
  obtain ⟨b, hb1, hb2⟩ := hb
  cases k with
  | zero => exact ⟨0, b, by rw [hb1]; rfl, Begins.zero l, hb2⟩
  | succ k =>
    obtain ⟨j, q1, q2⟩ := hat k (by omega)
    refine ⟨j + 1, b, ?_, q2, hb2⟩
    rw [hb1, List.getD_eq_getElem?_getD, List.getElem?_cons_succ, q1]
    simp
theorem bounds_len (l : List Int) : (segs 0 (ends l l.length) ++ [(⟨lst 0 (ends l l.length), (l.length : Int)⟩ : SB)]).length = l.countP sep + 1 := by
  obtain ⟨h1, h2⟩ := ends_cnt l l.length (Nat.le_refl _)
  rw [cnt_all] at h1
  rw [List.length_append, segs_len, h1]
  rfl
end Go.Proofs.Ytenjldfflkinkaa.Rop

namespace Go.Proofs.Ytenjldfflkinkaa.Rop
set_option linter.unusedVariables false
set_option linter.unusedSimpArgs false
open Go.RowKit Go.Proofs.Ytenjldfflkinkaa.F Go.Proofs.YtenjldfflkinkaaW.PrintWords Go.Proofs.YtenjldfflkinkaaW.PrintLast Go.Proofs.YtenjldfflkinkaaW.PrintMore
/-- pair k of a slice of pairs: paragraph k's two ends -/
def BdAt (W : World) (A : Option Addr) (l : List Int) (k : Nat) : Prop := ∃ (ad : Addr) (a b : Nat), A = some ad ∧ W.cell? (ad.add (k * 2)) = some (.int .i64 (a : Int)) ∧ W.cell? ⟨(ad.add (k * 2)).block, (ad.add (k * 2)).off + 1, none⟩ = some (.int .i64 (b : Int)) ∧ Begins l k a ∧ Begins l (k + 1) b
theorem BdAt.below {W W' : World} {A : Option Addr} {l : List Int} {k : Nat} (h : BdAt W A l k) (hb : Below W.heap.size W W') : BdAt W' A l k := by
  obtain ⟨ad, a, b, h1, h2, h3, h4⟩ := h
  exact ⟨ad, a, b, h1, (hb.cell (p := ad.add (k * 2)) (World.block_lt_of_cell? W _ h2)).trans h2, (hb.cell (p := ⟨(ad.add (k * 2)).block, (ad.add (k * 2)).off + 1, none⟩) (World.block_lt_of_cell? W _ h3)).trans h3, h4⟩
theorem Bounds_L {w : World} {A : Option Addr} {n c B : Nat} {l : List Int} (h : Sl w A n c l) (hn : n ≤ 1000000) (hB : l.countP sep = B) :
    Calls Try.prog 47 #[.slice A n c] w fun e w' => ∃ A' c', e = .returned (.slice A' (B + 1) c') ∧ (∀ k, k < B + 1 → BdAt w' A' l k) ∧ Below w.heap.size w w' := by
  have hl := h.hn
  have hf : para_Bounds.f l = some (segs 0 (ends l l.length) ++ [⟨lst 0 (ends l l.length), (l.length : Int)⟩]) := by
    unfold para_Bounds.f
    rw [if_pos (by omega)]
  have h1 := para_Bounds.calls A c l _ w (by rw [hl]; exact h.hC) (by rw [hl]; exact h.hc) hf
  rw [hl] at h1
  refine h1.mono fun e w' ⟨v, he, hr, hb⟩ => ?_
  have hbl := bounds_len l
  have hat := fun k => bounds_at (l := l) (k := k)
  rw [hl] at hbl hat
  rw [hB] at hbl hat
  generalize segs 0 (ends l n) ++ [(⟨lst 0 (ends l n), (n : Int)⟩ : SB)] = r at hr hbl hat
  obtain ⟨A', c', rfl⟩ := Kd.R_slice hr
  have hC := (Kd.R_reads' hr).2.2
  rw [hbl] at hC he
  refine ⟨A', c', he, fun k hk => ?_, hb⟩
  obtain ⟨a, b, q1, q2, q3⟩ := hat k (by omega)
  obtain ⟨ad, e1, e2, e3⟩ := atB hC (k : Int) (by omega) (by omega)
  have hrd : rdB r (k : Int) = ⟨(a : Int), (b : Int)⟩ := by
    unfold rdB
    rw [Int.toNat_natCast, List.getD_eq_getElem?_getD, q1]
    rfl
  rw [hrd, Int.toNat_natCast] at e2 e3
  exact ⟨ad, a, b, e1, e2, e3, q2, q3⟩
set_option maxRecDepth 100000 in
set_option maxHeartbeats 4000000 in
theorem paragraphs_L {w : World} {b n c : Nat} {A : Option Addr} {l : List Int} (hT : RL w b l) (hS : Sl w A n c l) (hn : n ≤ 5000) :
    Calls Try.prog 19 #[.pointer (some ⟨b, 0, none⟩), .slice A n c] w fun e w' => e = .returned (.bool true) ∧ Below w.heap.size w w' := by
  obtain ⟨B, hB⟩ : ∃ B, l.countP sep = B := ⟨_, rfl⟩
  have hl := hS.hn
  have hBn : B ≤ n := by rw [← hl, ← hB]; exact List.countP_le_length
  have CBd := Aside0.mk (Bounds_L hS (by omega) hB)
  have T0 := Aside0.mk hT
  have CBrk := Aside0.mk (fun W (h : RL W b l) => (by have := Breaks_L h; rw [hB] at this; exact this : Calls Try.prog 23 #[.pointer (some ⟨b, 0, none⟩)] W fun e w' => e = .returned (.int .i64 (B : Int)) ∧ W = w'))
  have CPara := Aside0.mk (fun W (h : RL W b l) k a x (hk : k ≤ B) (ha : Begins l k a) (hx : Begins l (k + 1) x) => (Para_L h a ha.le (by omega)).mono (R' := fun e' w' => e' = .returned (.tuple #[.int .i64 (k : Int), .int .i64 (a : Int), .int .i64 (x : Int), .int .i64 0]) ∧ Below W.heap.size W w')
    (fun e' w' ⟨m, a', b', he, hp, hb⟩ => by
      obtain ⟨rfl, rfl, h1, h2, h3⟩ := para_at ha (by omega) hp
      obtain rfl := h1.uniq hx
      exact ⟨he, hb⟩))
  clear hT hS hB hl
  go_enter Try.func19, Try.ntmps19
  go_wp2_with (first
    | (go_at_call 47; (with_reducible refine CBd.out.mono ?_); rintro e w1 ⟨A1, c1, rfl, hat, hb⟩; have AT := Aside0.mk hat; have B1 := Aside0.mk hb; have T1 := Aside0.mk (T0.out.below hb); clear hat hb)
    | (go_at_call 23; (with_reducible refine (CBrk.out _ T1.out).mono ?_); rintro e w2 ⟨rfl, rfl⟩))
  go_loopw [22] (fun v22 wr => ∃ k : Nat, v22 = .int .i64 (k : Int) ∧ k ≤ B + 1 ∧ Aside0 (Below w1.heap.size w1 wr)) (fun v22 _ => B + 1 - (intOf v22).toNat)
  case atStart => exact ⟨0, rfl, Nat.zero_le _, ⟨Below.refl _ _⟩⟩
  case round =>
    obtain ⟨k, rfl, hk, HB⟩ := hrel
    by_cases hlt : k < B + 1
    · have hlt' : (k : Int) < ((B + 1 : Nat) : Int) := by omega
      obtain ⟨ad, a, x, rfl, k0, k1, ha, hx⟩ := (AT.out k hlt).below HB.out
      have HA := Aside0.mk ha
      have HX := Aside0.mk hx
      clear ha hx
      have hba : Below wr.heap.size wr (wr.alloc (Obj.cells #[Value.int IntKind.i64 (a : Int), Value.int IntKind.i64 (x : Int)] 96)) := (Below.refl _ _).alloc (Nat.le_refl _) _
      have TX := Aside0.mk ((T1.out.below HB.out).below hba)
      have BX := Aside0.mk (below_step HB.out hba)
      clear hba
      go_wp2_with (go_at_call 24; (with_reducible refine (CPara.out _ TX.out k a x (by omega) HA.out HX.out).mono ?_); rintro e w3 ⟨rfl, hb⟩; have z0 := (hb.cell (p := ⟨wr.heap.size, 0, none⟩) (by simp)).trans new_cell; have z1 := (hb.cell (p := ⟨wr.heap.size, 1, none⟩) (by simp)).trans new_cell; have B3 := Aside0.mk (below_step BX.out hb); clear hb)
      go_roundw
      case measure => simp [intOf]; omega
      case rel => exact ⟨k + 1, by go_num, by omega, B3⟩
    · obtain rfl : k = B + 1 := by omega
      have hge : ¬ (((B + 1 : Nat) : Int) < ((B + 1 : Nat) : Int)) := by omega
      go_wp2
      go_ret
      exact ⟨rfl, below_step B1.out HB.out⟩
end Go.Proofs.Ytenjldfflkinkaa.Rop

namespace Go.Proofs.Ytenjldfflkinkaa.Rop
set_option linter.unusedVariables false
set_option linter.unusedSimpArgs false
open Go.RowKit Go.Proofs.Ytenjldfflkinkaa.F Go.Proofs.YtenjldfflkinkaaW.PrintWords Go.Proofs.YtenjldfflkinkaaW.PrintLast Go.Proofs.YtenjldfflkinkaaW.PrintMore
theorem atP (t : Int) (n : Nat) (hn : n ≤ 1000000) : ∃ i : Nat, wrap64 ((IntKind.u64.wrap t).tmod ((n : Int) + 1)) = (i : Int) ∧ i ≤ n := by
  have h0 : 0 ≤ IntKind.u64.wrap t := by
    rw [IntKind.wrap_u64]
    omega
  obtain ⟨y, hy⟩ : ∃ y : Nat, IntKind.u64.wrap t = (y : Int) := ⟨(IntKind.u64.wrap t).toNat, by omega⟩
  rw [hy]
  have h1 : ((y : Int)).tmod ((n : Int) + 1) = ((y % (n + 1) : Nat) : Int) := by
    rw [Int.tmod_eq_emod_of_nonneg (by omega)]
    rfl
  have h2 : y % (n + 1) < n + 1 := Nat.mod_lt _ (by omega)
  refine ⟨y % (n + 1), ?_, by omega⟩
  rw [h1]
  unfold wrap64
  omega
/-- what stood there stands there still -/
theorem done_ahead {l : List Int} {x : Ch} {p i : Nat} (hp : x.at_ = (p : Int)) (hb : p + x.gone.length ≤ l.length) (h : i < p) : (doneT l x).getD i 0 = l.getD i 0 := by
  unfold doneT
  rw [hp, Int.toNat_natCast, List.getD_eq_getElem?_getD, List.getD_eq_getElem?_getD, List.append_assoc, List.getElem?_append_left (by simp; omega), List.getElem?_take_of_lt h]
theorem done_behind {l : List Int} {x : Ch} {p i : Nat} (hp : x.at_ = (p : Int)) (hb : p + x.gone.length ≤ l.length) (h : p + x.gone.length ≤ i) : (doneT l x).getD (i - x.gone.length + x.came.length) 0 = l.getD i 0 := by
  unfold doneT
  rw [hp, Int.toNat_natCast, List.getD_eq_getElem?_getD, List.getD_eq_getElem?_getD, List.getElem?_append_right (by simp; omega), List.getElem?_drop]
  congr 2
  simp
  omega
theorem done_len {l : List Int} {x : Ch} {p : Nat} (hp : x.at_ = (p : Int)) (hb : p + x.gone.length ≤ l.length) : (doneT l x).length = l.length - x.gone.length + x.came.length := by
  unfold doneT
  rw [hp, Int.toNat_natCast]
  simp
  omega
set_option maxRecDepth 100000 in
set_option maxHeartbeats 8000000 in
theorem moves_L {w : World} {A A' B D : Option Addr} {n c n' c' m d q r : Nat} {p t : Int} {l l' : List Int} {x : Ch} (hS : Sl w A n c l) (hS' : Sl w A' n' c' l') (hx : ChV w p B m d D q r x) (hf : fitsB l x = true) (hl : l' = doneT l x) (hn : n ≤ 5000) (hq : q ≤ 5000) :
    Calls Try.prog 15 #[.slice A n c, .slice A' n' c', .agg #[.int .i64 p, .slice B m d, .slice D q r], .int .i64 t] w fun e w' => e = .returned (.bool true) ∧ Below w.heap.size w w' := by
  have hln := hS.hn
  have hln' := hS'.hn
  have hgm := hx.g.hn
  have hcq := hx.k.hn
  have hpp := hx.hp
  unfold fitsB at hf
  have hf := of_decide_eq_true hf
  obtain ⟨f1, f2, -⟩ := hf
  obtain ⟨p0, hp0⟩ : ∃ p0 : Nat, x.at_ = (p0 : Int) := ⟨x.at_.toNat, by omega⟩
  have hpb : p0 + x.gone.length ≤ l.length := by omega
  have hA := fun i (h : i < p0) => done_ahead hp0 hpb h
  have hBh := fun i (h : p0 + x.gone.length ≤ i) => done_behind hp0 hpb h
  have hL := done_len hp0 hpb
  rw [hp0] at hpp
  subst hpp
  rw [← hl] at hA hBh hL
  rw [hgm, hcq] at hBh
  have hL2 : n' = n - m + q := by omega
  have hpm : p0 + m ≤ n := by omega
  obtain ⟨i, hi, hin⟩ := atP t n (by omega)
  have HI := Aside0.mk hi
  have HRD := Aside0.mk (fun W (hb : Below w.heap.size w W) j (hj : j < n) => num_read (k := j) (by rw [hln]; exact Kd.C_below hS.hC hb) (by omega))
  have HRD' := Aside0.mk (fun W (hb : Below w.heap.size w W) j (hj : j < n') => num_read (k := j) (by rw [hln']; exact Kd.C_below hS'.hC hb) (by omega))
  have HA := Aside0.mk hA
  have HBH := Aside0.mk hBh
  have HL2 := Aside0.mk hL2
  have hq' := hq
  clear hS hS' f1 f2 hl hx hi hA hBh hL hgm hcq hp0 hpb hln hln' hL2
  obtain ⟨kk, hmv, hkn, hcase⟩ : ∃ kk : Nat, mv (i : Int) (p0 : Int) (m : Int) (q : Int) = ((kk : Int), 0) ∧ kk ≤ n' ∧ ((i < p0 ∧ kk = i) ∨ (p0 ≤ i ∧ i < p0 + m ∧ kk = p0) ∨ (p0 + m ≤ i ∧ kk = i - m + q)) := by
    have hok : okp (i : Int) ∧ okp (p0 : Int) ∧ okp (m : Int) ∧ okp (q : Int) := by unfold okp; omega
    have h2 := HL2.out
    by_cases h1 : i < p0
    · exact ⟨i, mv_ahead hok (by omega), by omega, .inl ⟨h1, rfl⟩⟩
    · by_cases h3 : i < p0 + m
      · exact ⟨p0, mv_gone hok (by omega) (by omega), by omega, .inr (.inl ⟨by omega, h3, rfl⟩)⟩
      · exact ⟨i - m + q, by rw [mv_behind hok (by omega) (by omega)]; congr 1; omega, by omega, .inr (.inr ⟨by omega, rfl⟩)⟩
  have CM := Aside0.mk (fun W => para_Move.calls (i : Int) (p0 : Int) (m : Int) (q : Int) (kk : Int) 0 W (by unfold para_Move.f; rw [hmv]))
  clear hmv
  go_enter Try.func15, Try.ntmps15
  go_upto_region 2 with (fail)
  rw [HI.out]
  obtain ⟨W0, hW0⟩ : ∃ W0, w.alloc (Obj.cells #[Value.int IntKind.i64 (p0 : Int), Value.slice B m d, Value.slice D q r] 32) = W0 := ⟨_, rfl⟩
  have e0 : W0.cell? ⟨w.heap.size, 0, none⟩ = some (.int .i64 (p0 : Int)) := by rw [← hW0, new_cell]; rfl
  have e1 : W0.cell? ⟨w.heap.size, 1, none⟩ = some (.slice B m d) := by rw [← hW0, new_cell]; rfl
  have e2 : W0.cell? ⟨w.heap.size, 2, none⟩ = some (.slice D q r) := by rw [← hW0, new_cell]; rfl
  have hg0 : w.heap.size < W0.heap.size := by rw [← hW0]; simp
  have hb0 : Below w.heap.size w W0 := by rw [← hW0]; exact (Below.refl _ _).alloc (Nat.le_refl _) _
  rw [hW0]
  clear hW0
  have hkn' : ¬ ((n' : Int) < (kk : Int)) := by omega
  go_upto_region 5 with (go_at_call 44; (with_reducible refine (CM.out _).mono ?_); rintro e W1 ⟨rfl, hd⟩; have hb1 := drawn_below hd; have g0 := (hb1.cell (p := ⟨w.heap.size, 0, none⟩) hg0).trans e0; have g1 := (hb1.cell (p := ⟨w.heap.size, 1, none⟩) hg0).trans e1; have g2 := (hb1.cell (p := ⟨w.heap.size, 2, none⟩) hg0).trans e2; have BW := Aside0.mk (below_step hb0 hb1); clear hd hb1)
  clear hkn'
  rcases hcase with ⟨h1, h2⟩ | ⟨h1, h2, h3⟩ | ⟨h1, h3⟩
  · have hil : i < n := by omega
    have hkl : kk < n' := by have := HL2.out; omega
    have hv : l'.getD kk 0 = l.getD i 0 := by rw [h2]; exact HA.out i h1
    clear h2
    have c1 : ¬ ((p0 : Int) ≤ (i : Int)) := by omega
    have c2 : ¬ ((i : Int) = (n : Int)) := by omega
    go_upto_region 9 with (fail)
    obtain ⟨adn, rfl, q1⟩ := HRD'.out W1 BW.out kk hkl
    obtain ⟨adw, rfl, q2⟩ := HRD.out W1 BW.out i hil
    rw [hv] at q1
    generalize l.getD i 0 = v at q1 q2
    have HS := Aside0.mk (And.intro ((below_drew1 (Below.refl W1.heap.size W1)).cell (World.block_lt_of_cell? W1 _ q1) |>.trans q1) ((below_drew1 (Below.refl W1.heap.size W1)).cell (World.block_lt_of_cell? W1 _ q2) |>.trans q2))
    have BW := Aside0.mk (below_step BW.out (below_drew1 (Below.refl W1.heap.size W1)))
    have hk1 : ((kk : Int) < (n' : Int)) := by omega
    have hk1n : kk < n' := by omega
    have hi1 : ((i : Int) < (n : Int)) := by omega
    clear q1 q2 hv
    refine start_ (n := 16) (S := fun w' => w'.cell? (adn.add kk) = some (.int .i32 v) ∧ w'.cell? (adw.add i) = some (.int .i32 v)) (ds := []) #[false, false, false, false, false, false, false, false, false, false, false, false, false, false, false, false] (by kernel_rfl) rfl rfl HS.out (fun hHeld => ?_)
    generalize W1.drew = D at HS BW hHeld ⊢
    refine pure_ (i := 0) (N := some 71) (v := ?_) (a' := ?_) #[true, false, false, false, false, false, false, false, false, false, false, false, false, false, false, false] rfl rfl (by kernel_rfl) (fun _ _ _ h => h) (Or.inl ⟨by rfl, ?_⟩) ?_ ?_
    rotate_left
    · intro w'
      go_simp
      with_reducible rfl
    rotate_left
    · simp only [Act.put, List.setIfInBounds_toArray, List.set_cons_zero, List.set_cons_succ, i64_w, i32_w]
      rfl
    refine pure_ (i := 1) (N := some 72) (v := ?_) (a' := ?_) #[true, true, false, false, false, false, false, false, false, false, false, false, false, false, false, false] rfl rfl (by kernel_rfl) (fun _ _ _ h => h) (Or.inl ⟨by rfl, ?_⟩) ?_ ?_
    rotate_left
    · intro w'
      go_simp
      with_reducible rfl
    rotate_left
    · simp only [Act.put, List.setIfInBounds_toArray, List.set_cons_zero, List.set_cons_succ, i64_w, i32_w]
      rfl
    refine pure_ (i := 2) (N := some 73) (v := ?_) (a' := ?_) #[true, true, true, false, false, false, false, false, false, false, false, false, false, false, false, false] rfl rfl (by kernel_rfl) (fun _ _ _ h => h) (Or.inl ⟨by rfl, ?_⟩) ?_ ?_
    rotate_left
    · intro w'
      go_simp
      with_reducible rfl
    rotate_left
    · simp only [Act.put, List.setIfInBounds_toArray, List.set_cons_zero, List.set_cons_succ, i64_w, i32_w]
      rfl
    refine pure_ (i := 3) (N := some 74) (v := ?_) (a' := ?_) #[true, true, true, true, false, false, false, false, false, false, false, false, false, false, false, false] rfl rfl (by kernel_rfl) (fun _ _ _ h => h) (Or.inl ⟨by rfl, ?_⟩) ?_ ?_
    rotate_left
    · intro w'
      go_simp
      try simp only [hk1, hk1n, decide_true]
      try with_reducible rfl
    rotate_left
    · simp only [Act.put, List.setIfInBounds_toArray, List.set_cons_zero, List.set_cons_succ, i64_w, i32_w]
      rfl
    refine pure_ (i := 4) (N := some 75) (v := ?_) (a' := ?_) #[true, true, true, true, true, false, false, false, false, false, false, false, false, false, false, false] rfl rfl (by kernel_rfl) (fun _ _ _ h => h) (Or.inl ⟨by rfl, ?_⟩) ?_ ?_
    rotate_left
    · intro w'
      go_simp
      with_reducible rfl
    rotate_left
    · simp only [Act.put, List.setIfInBounds_toArray, List.set_cons_zero, List.set_cons_succ, i64_w, i32_w]
      rfl
    refine pure_ (i := 5) (N := some 76) (v := ?_) (a' := ?_) #[true, true, true, true, true, true, false, false, false, false, false, false, false, false, false, false] rfl rfl (by kernel_rfl) (fun _ _ _ h => h) (Or.inl ⟨by rfl, ?_⟩) ?_ ?_
    rotate_left
    · intro w'
      go_simp
      with_reducible rfl
    rotate_left
    · simp only [Act.put, List.setIfInBounds_toArray, List.set_cons_zero, List.set_cons_succ, i64_w, i32_w]
      rfl
    refine pure_ (i := 6) (N := some 77) (v := ?_) (a' := ?_) #[true, true, true, true, true, true, true, false, false, false, false, false, false, false, false, false] rfl rfl (by kernel_rfl) (fun _ _ _ h => h) (Or.inl ⟨by rfl, ?_⟩) ?_ ?_
    rotate_left
    · intro w'
      go_simp
      with_reducible rfl
    rotate_left
    · simp only [Act.put, List.setIfInBounds_toArray, List.set_cons_zero, List.set_cons_succ, i64_w, i32_w]
      rfl
    refine pure_ (i := 7) (N := some 78) (v := ?_) (a' := ?_) #[true, true, true, true, true, true, true, true, false, false, false, false, false, false, false, false] rfl rfl (by kernel_rfl) (fun _ _ _ h => h) (Or.inl ⟨by rfl, ?_⟩) ?_ ?_
    rotate_left
    · intro w'
      go_simp
      with_reducible rfl
    rotate_left
    · simp only [Act.put, List.setIfInBounds_toArray, List.set_cons_zero, List.set_cons_succ, i64_w, i32_w]
      rfl
    refine pure_ (i := 9) (N := some 80) (v := ?_) (a' := ?_) #[true, true, true, true, true, true, true, true, false, true, false, false, false, false, false, false] rfl rfl (by kernel_rfl) (fun _ _ _ h => h) (Or.inl ⟨by rfl, ?_⟩) ?_ ?_
    rotate_left
    · intro w'
      go_simp
      with_reducible rfl
    rotate_left
    · simp only [Act.put, List.setIfInBounds_toArray, List.set_cons_zero, List.set_cons_succ, i64_w, i32_w]
      rfl
    refine pure_ (i := 10) (N := some 81) (v := ?_) (a' := ?_) #[true, true, true, true, true, true, true, true, false, true, true, false, false, false, false, false] rfl rfl (by kernel_rfl) (fun _ _ _ h => h) (Or.inl ⟨by rfl, ?_⟩) ?_ ?_
    rotate_left
    · intro w'
      go_simp
      with_reducible rfl
    rotate_left
    · simp only [Act.put, List.setIfInBounds_toArray, List.set_cons_zero, List.set_cons_succ, i64_w, i32_w]
      rfl
    refine pure_ (i := 11) (N := some 82) (v := ?_) (a' := ?_) #[true, true, true, true, true, true, true, true, false, true, true, true, false, false, false, false] rfl rfl (by kernel_rfl) (fun _ _ _ h => h) (Or.inl ⟨by rfl, ?_⟩) ?_ ?_
    rotate_left
    · intro w'
      go_simp
      with_reducible rfl
    rotate_left
    · simp only [Act.put, List.setIfInBounds_toArray, List.set_cons_zero, List.set_cons_succ, i64_w, i32_w]
      rfl
    refine take_ (i := 8) (N := some 79) (v := ?_) (a' := ?_) #[true, true, true, true, true, true, true, true, true, true, true, true, false, false, false, false] rfl rfl (by kernel_rfl) (fun _ _ _ h => h) (Or.inl ⟨by rfl, ?_⟩) hHeld ?_ ?_
    rotate_left
    · rintro w' ⟨s0, s1⟩
      go_simp
      with_reducible rfl
    rotate_left
    · simp only [Act.put, List.setIfInBounds_toArray, List.set_cons_zero, List.set_cons_succ, i64_w, i32_w]
      rfl
    refine take_ (i := 12) (N := some 83) (v := ?_) (a' := ?_) #[true, true, true, true, true, true, true, true, true, true, true, true, true, false, false, false] rfl rfl (by kernel_rfl) (fun _ _ _ h => h) (Or.inl ⟨by rfl, ?_⟩) hHeld ?_ ?_
    rotate_left
    · rintro w' ⟨s0, s1⟩
      go_simp
      with_reducible rfl
    rotate_left
    · simp only [Act.put, List.setIfInBounds_toArray, List.set_cons_zero, List.set_cons_succ, i64_w, i32_w]
      rfl
    refine pure_ (i := 13) (N := some 84) (v := ?_) (a' := ?_) #[true, true, true, true, true, true, true, true, true, true, true, true, true, true, false, false] rfl rfl (by kernel_rfl) (fun _ _ _ h => h) (Or.inl ⟨by rfl, ?_⟩) ?_ ?_
    rotate_left
    · intro w'
      go_simp
      with_reducible rfl
    rotate_left
    · simp only [Act.put, List.setIfInBounds_toArray, List.set_cons_zero, List.set_cons_succ, i64_w, i32_w]
      rfl
    refine pure_ (i := 14) (N := some 85) (v := ?_) (a' := ?_) #[true, true, true, true, true, true, true, true, true, true, true, true, true, true, true, false] rfl rfl (by kernel_rfl) (fun _ _ _ h => h) (Or.inl ⟨by rfl, ?_⟩) ?_ ?_
    rotate_left
    · intro w'
      go_simp
      with_reducible rfl
    rotate_left
    · simp only [Act.put, List.setIfInBounds_toArray, List.set_cons_zero, List.set_cons_succ, i64_w, i32_w]
      rfl
    refine pure_ (i := 15) (N := some 8) (v := ?_) (a' := ?_) #[true, true, true, true, true, true, true, true, true, true, true, true, true, true, true, true] rfl rfl (by kernel_rfl) (fun _ _ _ h => h) (Or.inl ⟨by rfl, ?_⟩) ?_ ?_
    rotate_left
    · intro w'
      go_simp
      with_reducible rfl
    rotate_left
    · simp only [Act.put, List.setIfInBounds_toArray, List.set_cons_zero, List.set_cons_succ, i64_w, i32_w]
      rfl
    refine done_ (by kernel_rfl) ?_
    go_wp2
    go_ret
    exact ⟨rfl, BW.out⟩
  · have hkp : ((kk : Int) = (p0 : Int)) := by omega
    have c1 : ((p0 : Int) ≤ (i : Int)) := by omega
    have c2 : ((i : Int) < (p0 : Int) + (m : Int)) := by omega
    go_wp2
    go_ret
    exact ⟨rfl, BW.out⟩
  · have c1 : ((p0 : Int) ≤ (i : Int)) := by omega
    have c2 : ¬ ((i : Int) < (p0 : Int) + (m : Int)) := by omega
    by_cases hin2 : i = n
    · have c3 : ((i : Int) = (n : Int)) := by omega
      have e4 : kk = n' := by have := HL2.out; omega
      clear h3
      subst e4
      go_wp2
      go_ret
      exact ⟨rfl, BW.out⟩
    · have c3 : ¬ ((i : Int) = (n : Int)) := by omega
      have hil : i < n := by omega
      have hkl : kk < n' := by have := HL2.out; omega
      have hv : l'.getD kk 0 = l.getD i 0 := by rw [h3]; exact HBH.out i h1
      clear h3
      go_upto_region 9 with (fail)
      obtain ⟨adn, rfl, q1⟩ := HRD'.out W1 BW.out kk hkl
      obtain ⟨adw, rfl, q2⟩ := HRD.out W1 BW.out i hil
      rw [hv] at q1
      generalize l.getD i 0 = v at q1 q2
      have HS := Aside0.mk (And.intro ((below_drew1 (Below.refl W1.heap.size W1)).cell (World.block_lt_of_cell? W1 _ q1) |>.trans q1) ((below_drew1 (Below.refl W1.heap.size W1)).cell (World.block_lt_of_cell? W1 _ q2) |>.trans q2))
      have BW := Aside0.mk (below_step BW.out (below_drew1 (Below.refl W1.heap.size W1)))
      have hk1 : ((kk : Int) < (n' : Int)) := by omega
      have hk1n : kk < n' := by omega
      have hi1 : ((i : Int) < (n : Int)) := by omega
      clear q1 q2 hv
      refine start_ (n := 16) (S := fun w' => w'.cell? (adn.add kk) = some (.int .i32 v) ∧ w'.cell? (adw.add i) = some (.int .i32 v)) (ds := []) #[false, false, false, false, false, false, false, false, false, false, false, false, false, false, false, false] (by kernel_rfl) rfl rfl HS.out (fun hHeld => ?_)
      generalize W1.drew = D at HS BW hHeld ⊢
      refine pure_ (i := 0) (N := some 71) (v := ?_) (a' := ?_) #[true, false, false, false, false, false, false, false, false, false, false, false, false, false, false, false] rfl rfl (by kernel_rfl) (fun _ _ _ h => h) (Or.inl ⟨by rfl, ?_⟩) ?_ ?_
      rotate_left
      · intro w'
        go_simp
        with_reducible rfl
      rotate_left
      · simp only [Act.put, List.setIfInBounds_toArray, List.set_cons_zero, List.set_cons_succ, i64_w, i32_w]
        rfl
      refine pure_ (i := 1) (N := some 72) (v := ?_) (a' := ?_) #[true, true, false, false, false, false, false, false, false, false, false, false, false, false, false, false] rfl rfl (by kernel_rfl) (fun _ _ _ h => h) (Or.inl ⟨by rfl, ?_⟩) ?_ ?_
      rotate_left
      · intro w'
        go_simp
        with_reducible rfl
      rotate_left
      · simp only [Act.put, List.setIfInBounds_toArray, List.set_cons_zero, List.set_cons_succ, i64_w, i32_w]
        rfl
      refine pure_ (i := 2) (N := some 73) (v := ?_) (a' := ?_) #[true, true, true, false, false, false, false, false, false, false, false, false, false, false, false, false] rfl rfl (by kernel_rfl) (fun _ _ _ h => h) (Or.inl ⟨by rfl, ?_⟩) ?_ ?_
      rotate_left
      · intro w'
        go_simp
        with_reducible rfl
      rotate_left
      · simp only [Act.put, List.setIfInBounds_toArray, List.set_cons_zero, List.set_cons_succ, i64_w, i32_w]
        rfl
      refine pure_ (i := 3) (N := some 74) (v := ?_) (a' := ?_) #[true, true, true, true, false, false, false, false, false, false, false, false, false, false, false, false] rfl rfl (by kernel_rfl) (fun _ _ _ h => h) (Or.inl ⟨by rfl, ?_⟩) ?_ ?_
      rotate_left
      · intro w'
        go_simp
        try simp only [hk1, hk1n, decide_true]
        try with_reducible rfl
      rotate_left
      · simp only [Act.put, List.setIfInBounds_toArray, List.set_cons_zero, List.set_cons_succ, i64_w, i32_w]
        rfl
      refine pure_ (i := 4) (N := some 75) (v := ?_) (a' := ?_) #[true, true, true, true, true, false, false, false, false, false, false, false, false, false, false, false] rfl rfl (by kernel_rfl) (fun _ _ _ h => h) (Or.inl ⟨by rfl, ?_⟩) ?_ ?_
      rotate_left
      · intro w'
        go_simp
        with_reducible rfl
      rotate_left
      · simp only [Act.put, List.setIfInBounds_toArray, List.set_cons_zero, List.set_cons_succ, i64_w, i32_w]
        rfl
      refine pure_ (i := 5) (N := some 76) (v := ?_) (a' := ?_) #[true, true, true, true, true, true, false, false, false, false, false, false, false, false, false, false] rfl rfl (by kernel_rfl) (fun _ _ _ h => h) (Or.inl ⟨by rfl, ?_⟩) ?_ ?_
      rotate_left
      · intro w'
        go_simp
        with_reducible rfl
      rotate_left
      · simp only [Act.put, List.setIfInBounds_toArray, List.set_cons_zero, List.set_cons_succ, i64_w, i32_w]
        rfl
      refine pure_ (i := 6) (N := some 77) (v := ?_) (a' := ?_) #[true, true, true, true, true, true, true, false, false, false, false, false, false, false, false, false] rfl rfl (by kernel_rfl) (fun _ _ _ h => h) (Or.inl ⟨by rfl, ?_⟩) ?_ ?_
      rotate_left
      · intro w'
        go_simp
        with_reducible rfl
      rotate_left
      · simp only [Act.put, List.setIfInBounds_toArray, List.set_cons_zero, List.set_cons_succ, i64_w, i32_w]
        rfl
      refine pure_ (i := 7) (N := some 78) (v := ?_) (a' := ?_) #[true, true, true, true, true, true, true, true, false, false, false, false, false, false, false, false] rfl rfl (by kernel_rfl) (fun _ _ _ h => h) (Or.inl ⟨by rfl, ?_⟩) ?_ ?_
      rotate_left
      · intro w'
        go_simp
        with_reducible rfl
      rotate_left
      · simp only [Act.put, List.setIfInBounds_toArray, List.set_cons_zero, List.set_cons_succ, i64_w, i32_w]
        rfl
      refine pure_ (i := 9) (N := some 80) (v := ?_) (a' := ?_) #[true, true, true, true, true, true, true, true, false, true, false, false, false, false, false, false] rfl rfl (by kernel_rfl) (fun _ _ _ h => h) (Or.inl ⟨by rfl, ?_⟩) ?_ ?_
      rotate_left
      · intro w'
        go_simp
        with_reducible rfl
      rotate_left
      · simp only [Act.put, List.setIfInBounds_toArray, List.set_cons_zero, List.set_cons_succ, i64_w, i32_w]
        rfl
      refine pure_ (i := 10) (N := some 81) (v := ?_) (a' := ?_) #[true, true, true, true, true, true, true, true, false, true, true, false, false, false, false, false] rfl rfl (by kernel_rfl) (fun _ _ _ h => h) (Or.inl ⟨by rfl, ?_⟩) ?_ ?_
      rotate_left
      · intro w'
        go_simp
        with_reducible rfl
      rotate_left
      · simp only [Act.put, List.setIfInBounds_toArray, List.set_cons_zero, List.set_cons_succ, i64_w, i32_w]
        rfl
      refine pure_ (i := 11) (N := some 82) (v := ?_) (a' := ?_) #[true, true, true, true, true, true, true, true, false, true, true, true, false, false, false, false] rfl rfl (by kernel_rfl) (fun _ _ _ h => h) (Or.inl ⟨by rfl, ?_⟩) ?_ ?_
      rotate_left
      · intro w'
        go_simp
        with_reducible rfl
      rotate_left
      · simp only [Act.put, List.setIfInBounds_toArray, List.set_cons_zero, List.set_cons_succ, i64_w, i32_w]
        rfl
      refine take_ (i := 8) (N := some 79) (v := ?_) (a' := ?_) #[true, true, true, true, true, true, true, true, true, true, true, true, false, false, false, false] rfl rfl (by kernel_rfl) (fun _ _ _ h => h) (Or.inl ⟨by rfl, ?_⟩) hHeld ?_ ?_
      rotate_left
      · rintro w' ⟨s0, s1⟩
        go_simp
        with_reducible rfl
      rotate_left
      · simp only [Act.put, List.setIfInBounds_toArray, List.set_cons_zero, List.set_cons_succ, i64_w, i32_w]
        rfl
      refine take_ (i := 12) (N := some 83) (v := ?_) (a' := ?_) #[true, true, true, true, true, true, true, true, true, true, true, true, true, false, false, false] rfl rfl (by kernel_rfl) (fun _ _ _ h => h) (Or.inl ⟨by rfl, ?_⟩) hHeld ?_ ?_
      rotate_left
      · rintro w' ⟨s0, s1⟩
        go_simp
        with_reducible rfl
      rotate_left
      · simp only [Act.put, List.setIfInBounds_toArray, List.set_cons_zero, List.set_cons_succ, i64_w, i32_w]
        rfl
      refine pure_ (i := 13) (N := some 84) (v := ?_) (a' := ?_) #[true, true, true, true, true, true, true, true, true, true, true, true, true, true, false, false] rfl rfl (by kernel_rfl) (fun _ _ _ h => h) (Or.inl ⟨by rfl, ?_⟩) ?_ ?_
      rotate_left
      · intro w'
        go_simp
        with_reducible rfl
      rotate_left
      · simp only [Act.put, List.setIfInBounds_toArray, List.set_cons_zero, List.set_cons_succ, i64_w, i32_w]
        rfl
      refine pure_ (i := 14) (N := some 85) (v := ?_) (a' := ?_) #[true, true, true, true, true, true, true, true, true, true, true, true, true, true, true, false] rfl rfl (by kernel_rfl) (fun _ _ _ h => h) (Or.inl ⟨by rfl, ?_⟩) ?_ ?_
      rotate_left
      · intro w'
        go_simp
        with_reducible rfl
      rotate_left
      · simp only [Act.put, List.setIfInBounds_toArray, List.set_cons_zero, List.set_cons_succ, i64_w, i32_w]
        rfl
      refine pure_ (i := 15) (N := some 8) (v := ?_) (a' := ?_) #[true, true, true, true, true, true, true, true, true, true, true, true, true, true, true, true] rfl rfl (by kernel_rfl) (fun _ _ _ h => h) (Or.inl ⟨by rfl, ?_⟩) ?_ ?_
      rotate_left
      · intro w'
        go_simp
        with_reducible rfl
      rotate_left
      · simp only [Act.put, List.setIfInBounds_toArray, List.set_cons_zero, List.set_cons_succ, i64_w, i32_w]
        rfl
      refine done_ (by kernel_rfl) ?_
      go_wp2
      go_ret
      exact ⟨rfl, BW.out⟩
end Go.Proofs.Ytenjldfflkinkaa.Rop

namespace Go.Proofs.Ytenjldfflkinkaa.Rop
set_option linter.unusedVariables false
set_option linter.unusedSimpArgs false
open Go.RowKit Go.Proofs.Ytenjldfflkinkaa.F Go.Proofs.YtenjldfflkinkaaW.PrintWords Go.Proofs.YtenjldfflkinkaaW.PrintLast Go.Proofs.YtenjldfflkinkaaW.PrintMore
theorem cells_op : Try.prog.cellsOf 30 = 4 := by kernel_rfl
set_option maxRecDepth 100000 in
theorem open_ops {H : Type} {enc : TypeId × Value → H} {W : World} {a : Option Addr} {len cap : Nat} {d : DataW H} {p : List MemPlace} (h : DataW.Trod enc Try.prog W 0 (fun _ => true) true 22 (.slice a len cap) d p) :
    ActRow2 W a len cap := by
  obtain ⟨fuel, hf⟩ := h
  rcases DataW.trod_slice Try.underlying22 hf with ⟨hcs, _⟩ | ⟨x, l, c, elems, rest, n, -, hcs, -, -, hl, hm, hlen, hel, -, -⟩
  · simp [Value.cells] at hcs
    obtain ⟨rfl, rfl, rfl⟩ := hcs
    exact .inl ⟨rfl, rfl, rfl⟩
  · simp [Value.cells] at hcs
    obtain ⟨rfl, rfl, rfl⟩ := hcs
    refine .inr ⟨x, rfl, hl, by simpa [maxLen] using hm, fun i hi => ?_⟩
    have h1 := hel i hi
    rw [cells_op, List.getElem?_eq_getElem (by omega), Option.bind_eq_some_iff] at h1
    obtain ⟨cs, hcs, ht⟩ := h1
    have hget := World.cells?_some hcs
    obtain ⟨xs, m, -, -, hcl, hxl, hparts⟩ := DataW.trod_struct Try.underlying30 ht
    rw [cells_op] at hcl
    match cs, hcl with
    | [c0, c1, c2, c3], _ =>
      match xs, hxl with
      | [y0, y1, y2, y3], _ =>
        have g0 : DataW.trod enc Try.prog W 0 (fun _ => true) true m 3 [c0] = some y0 := by simpa [cells_int] using hparts 0 _ rfl
        have g1 : DataW.trod enc Try.prog W 0 (fun _ => true) true m 3 [c1] = some y1 := by simpa [cells_int] using hparts 1 _ rfl
        have g2 : DataW.trod enc Try.prog W 0 (fun _ => true) true m 3 [c2] = some y2 := by simpa [cells_int] using hparts 2 _ rfl
        have g3 : DataW.trod enc Try.prog W 0 (fun _ => true) true m 23 [c3] = some y3 := by simpa [cells_runes] using hparts 3 _ rfl
        obtain ⟨a0, e0, -, v0⟩ := DataW.trod_int Try.underlying3 g0
        obtain ⟨a1, e1, -, v1⟩ := DataW.trod_int Try.underlying3 g1
        obtain ⟨a2, e2, -, v2⟩ := DataW.trod_int Try.underlying3 g2
        obtain ⟨A, ln, cp, zs, rfl, hin⟩ := open_runes g3
        simp at e0 e1 e2
        subst e0 e1 e2
        have k0 := hget.2.2 0 (by decide)
        have k1 := hget.2.2 1 (by decide)
        have k2 := hget.2.2 2 (by decide)
        have k3 := hget.2.2 3 (by decide)
        rw [add_lit (by decide)] at k1 k2 k3
        obtain ⟨z, rfl, hC, hc, hm2, hwf⟩ := hin.list
        exact ⟨a0, a1, a2, A, z, cp, ⟨by simpa [Addr.add_add] using k0, by simpa using k1, by simpa using k2, by simpa using k3, int_range v0, int_range v1, int_range v2, hC, hc, hm2⟩, runes_wf hwf⟩

/-- three slices stand there: no number -/
theorem C3.sl {W : World} {q : Nat} {A B C : Option Addr} {x y z x' y' z' : Nat} (h : C3 W q (.slice A x x') (.slice B y y') (.slice C z z')) {a : Addr} {v : Value} (ha : a.block = q) (hv : W.cell? a = some v) : ∃ D m m', v = .slice D m m' := by
  rw [World.cell?, ha, h] at hv
  simp only at hv
  split at hv
  · cases hv
  · generalize a.off = i at hv
    match i with
    | 0 => simp at hv; exact ⟨_, _, _, hv.symm⟩
    | 1 => simp at hv; exact ⟨_, _, _, hv.symm⟩
    | 2 => simp at hv; exact ⟨_, _, _, hv.symm⟩
    | i + 3 => simp at hv
theorem Rc.putC {W W1 : World} {n c q : Nat} {A : Option Addr} {vs : Nat → CV} {xs : Nat → Ch} {A0 B0 C0 : Option Addr} {x y z x' y' z' : Nat} (h : Rc W A n c vs xs) (hC : C3 W q (.slice A0 x x') (.slice B0 y y') (.slice C0 z z')) (hp : Put1 W W1 q) : Rc W1 A n c vs xs :=
  ⟨(fun i hi => by
    obtain ⟨ad, hA, hat⟩ := h.at_ i hi
    refine ⟨ad, hA, hat.put hp hC.noI (fun e => ?_)⟩
    obtain ⟨_, _, _, h1⟩ := hC.sl (a := ad.add (i * 3)) (by rw [add_blk]; exact e) hat.c0
    cases h1), h.hc, h.hm, h.h0⟩
theorem StOk.putC {W W1 : World} {q : Nat} {v : SV} {s : SP} {A0 B0 C0 : Option Addr} {x y z x' y' z' : Nat} (h : StOk W v s) (hC : C3 W q (.slice A0 x x') (.slice B0 y y') (.slice C0 z z')) (hp : Put1 W W1 q) : StOk W1 v s :=
  ⟨h.t.only hC.noI hp.2, h.u.putC hC hp, h.r.putC hC hp, h.bn, h.b1, h.b2, h.s1, h.s2⟩
theorem RL.putC {W W1 : World} {q b : Nat} {l : List Int} {A0 B0 C0 : Option Addr} {x y z x' y' z' : Nat} (h : RL W b l) (hC : C3 W q (.slice A0 x x') (.slice B0 y y') (.slice C0 z z')) (hp : Put1 W W1 q) : RL W1 b l :=
  h.keep (fun pl e => by
    obtain ⟨_, _, _, h1⟩ := hC.sl (a := ⟨q, 1, none⟩) rfl e
    cases h1) hp.2 hp.1
/-- a change's block -/
def H3 (W : World) (q : Nat) (a b c : Value) : Prop := W.heap[q]? = some (.cells #[a, b, c] 32 (0, 0))
theorem H3.below {W W' : World} {q : Nat} {a b c : Value} (h : H3 W q a b c) (hb : Below W.heap.size W W') : H3 W' q a b c := (hb.block _ (Array.getElem?_eq_some_iff.1 h).1).trans h
theorem H3.noI {W : World} {q : Nat} {p : Int} {B C : Option Addr} {y z y' z' : Nat} (h : H3 W q (.int .i64 p) (.slice B y y') (.slice C z z')) : ∀ (a : Addr) (v : Value), a.block = q → W.cell? a = some v → NoI v := fun a v ha hv => blk_noI h noI_ch a v ha hv
theorem H3.all {W : World} {q : Nat} {a b c : Value} (h : H3 W q a b c) (u v x : Value) : H3 (((W.setCell ⟨q, 0, none⟩ u).setCell ⟨q, 1, none⟩ v).setCell ⟨q, 2, none⟩ x) q u v x := set_blk (set_blk (set_blk h))
theorem C3.all {W : World} {q : Nat} {a b c : Value} (h : C3 W q a b c) (u v x : Value) : C3 (((W.setCell ⟨q, 0, none⟩ u).setCell ⟨q, 1, none⟩ v).setCell ⟨q, 2, none⟩ x) q u v x := set_blk (set_blk (set_blk h))
theorem C3.size {W : World} {q : Nat} {a b c : Value} (h : C3 W q a b c) : q < W.heap.size := (Array.getElem?_eq_some_iff.1 h).1
theorem H3.size {W : World} {q : Nat} {a b c : Value} (h : H3 W q a b c) : q < W.heap.size := (Array.getElem?_eq_some_iff.1 h).1
/-- the state that a round begins with: g the box of the state, b the rope -/
structure Tr (w W : World) (g b : Nat) (v : SV) (s : SP) : Prop where
  bel : Below w.heap.size w W
  gg : w.heap.size ≤ g
  c3 : C3 W g (.slice v.A v.n v.c) (.slice v.A1 v.n1 v.c1) (.slice v.A2 v.n2 v.c2)
  ok : StOk W v s
  rl : RL W b s.text
theorem Tr.below {w W W' : World} {g b : Nat} {v : SV} {s : SP} (h : Tr w W g b v s) (hb : Below W.heap.size W W') : Tr w W' g b v s := ⟨below_step h.bel hb, h.gg, h.c3.below hb, h.ok.below hb, h.rl.below hb⟩
/-- what the two orders of the call of Effect and its box leave -/
def J9 (D : World) (x : Ch) (q : Int) (s : Value × Value × Nat) (W : World) : Prop := ∃ p A n c B m d, s.1 = .tuple #[s.2.1, .int .i64 q] ∧ s.2.1 = .agg #[.int .i64 p, .slice A n c, .slice B m d] ∧ ChV W p A n c B m d x ∧ Below D.heap.size D W ∧ D.heap.size ≤ s.2.2 ∧ H3 W s.2.2 (.int .i64 0) (.slice none 0 0) (.slice none 0 0)
def J10 (D : World) (t : List Int) (q : Int) (s : Value × Value × Nat) (W : World) : Prop := ∃ A n c A1 n1 c1 A2 n2 c2, s.1 = .tuple #[s.2.1, .int .i64 q] ∧ s.2.1 = .agg #[.slice A n c, .slice A1 n1 c1, .slice A2 n2 c2] ∧
  (q = 0 → ∃ v1 v2 x1 x2, StOk W ⟨A, n, c, A1, n1, c1, A2, n2, c2, v1, v2⟩ ⟨t, x1, x2⟩ ∧ n1 ≤ 17 ∧ n2 ≤ 17 ∧ n ≤ 4096) ∧ Below D.heap.size D W ∧ D.heap.size ≤ s.2.2 ∧ C3 W s.2.2 (.slice none 0 0) (.slice none 0 0) (.slice none 0 0)
/-- deleting what goes, inserting what comes -/
theorem gone_came {l : List Int} {x : Ch} {p : Nat} (hp : x.at_ = (p : Int)) (hb : p + x.gone.length ≤ l.length) : (l.take p ++ l.drop (p + x.gone.length)).take p ++ x.came ++ (l.take p ++ l.drop (p + x.gone.length)).drop p = doneT l x := by
  have e : (l.take p).length = p := by simp; omega
  unfold doneT
  rw [hp, Int.toNat_natCast, List.take_append_of_le_length (by omega), List.take_of_length_le (by omega), List.drop_append_of_le_length (by omega), List.drop_of_length_le (by omega), List.nil_append]
theorem lit_ab (W : World) (T : Nat) : Sl (W.alloc (.cells #[.int .i32 97, .int .i32 98] T)) (some ⟨W.heap.size, 0, none⟩) 2 2 [97, 98] :=
  ⟨C_lit (zs := [97, 98]) (by decide) (fun j hj => by
    rw [new_cell]
    match j, hj with
    | 0, _ => rfl
    | 1, _ => rfl), rfl, Nat.le_refl _, by omega⟩
theorem lit_abk (W : World) (T k : Nat) (h : W.heap.size = k) : Sl (W.alloc (.cells #[.int .i32 97, .int .i32 98] T)) (some ⟨k, 0, none⟩) 2 2 [97, 98] := by
  rw [← h]
  exact lit_ab W T
theorem lit_below (W : World) (T : Nat) : Below W.heap.size W (W.alloc (.cells #[.int .i32 97, .int .i32 98] T)) := (Below.refl _ _).alloc (Nat.le_refl _) _
theorem ok_zero (W : World) : StOk W ⟨none, 0, 0, none, 0, 0, none, 0, 0, fun _ => ⟨0, none, 0, 0, none, 0, 0⟩, fun _ => ⟨0, none, 0, 0, none, 0, 0⟩⟩ ⟨[], fun _ => Ch.zero, fun _ => Ch.zero⟩ :=
  ⟨Sl.nil W, ⟨fun i hi => by dsimp only at hi; omega, Nat.le_refl _, by dsimp only; omega, fun _ => rfl⟩, ⟨fun i hi => by dsimp only at hi; omega, Nat.le_refl _, by dsimp only; omega, fun _ => rfl⟩, by dsimp only; omega, by dsimp only; omega, by dsimp only; omega, fun i hi => by dsimp only at hi; omega, fun i hi => by dsimp only at hi; omega⟩
theorem eff_ab : effE ⟨none, 0, 0, none, 0, 0, none, 0, 0, fun _ => ⟨0, none, 0, 0, none, 0, 0⟩, fun _ => ⟨0, none, 0, 0, none, 0, 0⟩⟩ ⟨[], fun _ => Ch.zero, fun _ => Ch.zero⟩ 1 0 0 [97, 98] = (⟨0, [], [97, 98]⟩, 0) := by
  have hr : rightE ⟨none, 0, 0, none, 0, 0, none, 0, 0, fun _ => ⟨0, none, 0, 0, none, 0, 0⟩, fun _ => ⟨0, none, 0, 0, none, 0, 0⟩⟩ ⟨[], fun _ => Ch.zero, fun _ => Ch.zero⟩ = 0 := by
    unfold rightE
    rw [if_neg (by decide), if_neg (by decide)]
    rfl
  unfold effE
  rw [hr, if_neg (by decide), if_pos rfl]
  unfold insE
  rw [if_neg (by decide), if_neg (by decide), if_neg (by decide), if_neg (by decide)]
end Go.Proofs.Ytenjldfflkinkaa.Rop

namespace Go.Proofs.Ytenjldfflkinkaa.Rop
set_option linter.unusedVariables false
set_option linter.unusedSimpArgs false
open Go.RowKit Go.Proofs.Ytenjldfflkinkaa.F Go.Proofs.YtenjldfflkinkaaW.PrintWords Go.Proofs.YtenjldfflkinkaaW.PrintLast Go.Proofs.YtenjldfflkinkaaW.PrintMore
set_option maxRecDepth 100000 in
set_option maxHeartbeats 16000000 in
theorem ropes_walk {w : World} {A0 : Option Addr} {n0 c0 : Nat} {t : Int} (hA : ActRow2 w A0 n0 c0) :
    Calls Try.prog 3 #[.slice A0 n0 c0, .int .i64 t] w fun e w' => e = .returned (.bool true) ∧ Below w.heap.size w w' := by
  have HA := Aside0.mk hA
  clear hA
  have CNew := Aside0.mk (fun W => (show Calls Try.prog 10 #[.slice none 0 0] W (OneR [] W) from New_L (w := W) (l := []) (A := none) (c := 0) (C_nil W) (Nat.le_refl _) (by omega) (by simp)))
  go_enter Try.func3, Try.ntmps3
  go_upto_region 5 with (go_at_call 10; (with_reducible refine (CNew.out _).mono ?_); rintro e w1 ⟨b1, rfl, hr, hb⟩; have RL1 := Aside0.mk hr; have BN := Aside0.mk hb; clear hr hb)
  obtain ⟨g, hg⟩ : ∃ g, w.heap.size = g := ⟨_, rfl⟩
  have HTR : Aside0 (Tr w w1 g b1 ⟨none, 0, 0, none, 0, 0, none, 0, 0, fun _ => ⟨0, none, 0, 0, none, 0, 0⟩, fun _ => ⟨0, none, 0, 0, none, 0, 0⟩⟩ ⟨[], fun _ => Ch.zero, fun _ => Ch.zero⟩) := ⟨⟨below_step ((Below.refl _ _).alloc (Nat.le_refl _) _) BN.out, by omega, (show C3 _ g _ _ _ by rw [← hg]; exact World.alloc_heap_new w _).below BN.out, ok_zero _, RL1.out⟩⟩
  rw [hg]
  clear BN RL1
  go_wp2
  go_loopw [6, 7] (fun v6 v7 wr => ∃ (b i : Nat) (v : SV) (s : SP), v6 = .pointer (some ⟨b, 0, none⟩) ∧ v7 = .int .i64 (i : Int) ∧ i ≤ 40 ∧ Aside0 (Tr w wr g b v s)) (fun _ v7 _ => 40 - (intOf v7).toNat)
  case atStart => exact ⟨b1, 0, _, _, rfl, rfl, by omega, HTR⟩
  case round =>
    obtain ⟨b, i, v, s, rfl, rfl, hi, HT⟩ := hrel

    obtain ⟨A, n, c, A1, n1, c1, A2, n2, c2, v1, v2⟩ := v
    obtain ⟨l, x1, x2⟩ := s
    by_cases hin1 : i < n0
    · have hin1' : (i : Int) < (n0 : Int) := by omega
      by_cases hin2 : i < 40
      · have hin2' : decide ((i : Int) < 40) = true := decide_eq_true (by omega)
        obtain ⟨ad, rfl, hlc, hcm, hact⟩ : ∃ ad, A0 = some ad ∧ n0 ≤ c0 ∧ c0 ≤ 9223372036854775807 ∧ ∃ k f t A z c, ActAt wr ad i k f t A z c ∧ Runes z := by
          rcases HA.out with ⟨_, h, _⟩ | ⟨ad, h1, h2, h3, h4⟩
          · omega
          · obtain ⟨k, f, t, A, z, c, ha, hz⟩ := h4 i hin1
            exact ⟨ad, h1, h2, h3, k, f, t, A, z, c, ha.below HT.out.bel, hz⟩
        obtain ⟨ka, fa, ta, Az, z, cz, ha, -⟩ := hact
        have HACT := Aside0.mk ha
        obtain ⟨k0, k1, k2, k3, _, _, _, _, _, _⟩ := ha
        obtain ⟨nz, hnz⟩ : ∃ nz, z.length = nz := ⟨_, rfl⟩
        rw [hnz] at k3
        have HSZ := Aside0.mk (show Sl wr Az nz cz z from ⟨by rw [← hnz]; exact HACT.out.hC, hnz, by rw [← hnz]; exact HACT.out.hc, HACT.out.hm⟩)
        clear hnz
        by_cases h60 : 60 < nz
        · have h60' : (60 : Int) < (nz : Int) := by omega
          go_wp2
          go_roundw
          case measure => simp [intOf]; omega
          case rel => exact ⟨b, i + 1, _, _, rfl, by go_num, by omega, HT⟩
        · have h60' : ¬ (60 : Int) < (nz : Int) := by omega
          obtain ⟨x, q, hxq⟩ : ∃ x q, effE ⟨A, n, c, A1, n1, c1, A2, n2, c2, v1, v2⟩ ⟨l, x1, x2⟩ ka fa ta z = (x, q) := ⟨_, _, rfl⟩
          have C9 := Aside0.mk (fun W (hb : Below wr.heap.size wr W) => (show Calls Try.prog 11 #[.agg #[.slice A n c, .slice A1 n1 c1, .slice A2 n2 c2], .agg #[.int .i64 ka, .int .i64 fa, .int .i64 ta, .slice Az nz cz]] W (GivesCE x q W) from by
            have h1 := Effect_calls (k := ka) (a := fa) (b := ta) (HT.out.ok.below hb) (HSZ.out.below hb) (by omega)
            rw [hxq] at h1
            exact h1))
          have C10 := Aside0.mk (fun W (hb : Below wr.heap.size wr W) => (show Calls Try.prog 12 #[.agg #[.slice A n c, .slice A1 n1 c1, .slice A2 n2 c2], .agg #[.int .i64 ka, .int .i64 fa, .int .i64 ta, .slice Az nz cz]] W (GivesSt (doneT l x) q W) from by
            have h1 := Apply_calls (k := ka) (a := fa) (b := ta) (HT.out.ok.below hb) (HSZ.out.below hb) (by omega)
            rw [hxq] at h1
            exact h1))
          have EOK := Aside0.mk (fun (hq : q = 0) => (by
            have h1 := eff_ok (k := ka) (a := fa) (b := ta) (z := z) HT.out.ok (by rw [HSZ.out.hn]; omega) (by rw [hxq]; exact hq)
            rw [hxq] at h1
            exact ⟨h1.1, h1.2.1, h1.2.2.1, h1.2.2.2.1⟩ : fitsB l x = true ∧ (doneT l x).length ≤ 4096 ∧ x.gone.length ≤ 5000 ∧ x.came.length ≤ 5000))
          clear hxq
          have CF := Aside0.mk (fun W (hb : Below wr.heap.size wr W) => (show (W.cell? ⟨g, 0, none⟩ = some (.slice A n c) ∧ W.cell? ⟨g, 1, none⟩ = some (.slice A1 n1 c1) ∧ W.cell? ⟨g, 2, none⟩ = some (.slice A2 n2 c2)) ∧ W.cell? (ad.add (i * 4)) = some (.int .i64 ka) ∧ W.cell? ⟨(ad.add (i * 4)).block, (ad.add (i * 4)).off + 1, none⟩ = some (.int .i64 fa) ∧ W.cell? ⟨(ad.add (i * 4)).block, (ad.add (i * 4)).off + 2, none⟩ = some (.int .i64 ta) ∧ W.cell? ⟨(ad.add (i * 4)).block, (ad.add (i * 4)).off + 3, none⟩ = some (.slice Az nz cz) from by
            have hc := HT.out.c3.below hb
            have h0 := hb.cell (World.block_lt_of_cell? wr _ k0)
            have h1 := hb.cell (World.block_lt_of_cell? wr _ k1)
            have h2 := hb.cell (World.block_lt_of_cell? wr _ k2)
            have h3 := hb.cell (World.block_lt_of_cell? wr _ k3)
            exact ⟨⟨blk_cell (j := 0) hc, blk_cell (j := 1) hc, blk_cell (j := 2) hc⟩, h0.trans k0, h1.trans k1, h2.trans k2, h3.trans k3⟩))
          go_upto_region 9 with (fail)
          clear k0 k1 k2 k3
          have HB := Aside0.mk (below_drew1 (Below.refl wr.heap.size wr))
          refine start_ (n := 12) (S := fun w' => Below wr.heap.size wr w') (ds := []) #[false, false, false, false, false, false, false, false, false, false, false, false] (by kernel_rfl) rfl rfl HB.out (fun hHeld => ?_)
          generalize wr.drew = D at HB hHeld ⊢
          refine pure_ (i := 1) (N := some 43) (v := ?_) (a' := ?_) #[false, true, false, false, false, false, false, false, false, false, false, false] rfl rfl (by kernel_rfl) (fun _ _ _ h => h) (Or.inl ⟨by rfl, ?_⟩) ?_ ?_
          rotate_left
          · intro w'
            go_simp
            with_reducible rfl
          rotate_left
          · simp only [Act.put, List.setIfInBounds_toArray, List.set_cons_zero, List.set_cons_succ, i64_w, i32_w]
            rfl
          refine pure_ (i := 2) (N := some 44) (v := ?_) (a' := ?_) #[false, true, true, false, false, false, false, false, false, false, false, false] rfl rfl (by kernel_rfl) (fun _ _ _ h => h) (Or.inl ⟨by rfl, ?_⟩) ?_ ?_
          rotate_left
          · intro w'
            go_simp
            with_reducible rfl
          rotate_left
          · simp only [Act.put, List.setIfInBounds_toArray, List.set_cons_zero, List.set_cons_succ, i64_w, i32_w]
            rfl
          refine pure_ (i := 3) (N := some 45) (v := ?_) (a' := ?_) #[false, true, true, true, false, false, false, false, false, false, false, false] rfl rfl (by kernel_rfl) (fun _ _ _ h => h) (Or.inl ⟨by rfl, ?_⟩) ?_ ?_
          rotate_left
          · intro w'
            go_simp
            with_reducible rfl
          rotate_left
          · simp only [Act.put, List.setIfInBounds_toArray, List.set_cons_zero, List.set_cons_succ, i64_w, i32_w]
            rfl
          refine take_ (i := 0) (N := some 42) (v := ?_) (a' := ?_) #[true, true, true, true, false, false, false, false, false, false, false, false] rfl rfl (by kernel_rfl) (fun _ _ _ h => h) (Or.inl ⟨by rfl, ?_⟩) hHeld ?_ ?_
          rotate_left
          · rintro w' hs
            obtain ⟨⟨s0, s1, s2⟩, l0, l1, l2, l3⟩ := CF.out w' hs
            go_simp
            with_reducible rfl
          rotate_left
          · simp only [Act.put, List.setIfInBounds_toArray, List.set_cons_zero, List.set_cons_succ, i64_w, i32_w]
            rfl
          refine take_ (i := 4) (N := some 46) (v := ?_) (a' := ?_) #[true, true, true, true, true, false, false, false, false, false, false, false] rfl rfl (by kernel_rfl) (fun _ _ _ h => h) (Or.inl ⟨by rfl, ?_⟩) hHeld ?_ ?_
          rotate_left
          · rintro w' hs
            obtain ⟨⟨s0, s1, s2⟩, l0, l1, l2, l3⟩ := CF.out w' hs
            go_simp
            with_reducible rfl
          rotate_left
          · simp only [Act.put, List.setIfInBounds_toArray, List.set_cons_zero, List.set_cons_succ, i64_w, i32_w]
            rfl
          refine join_ (σ := Value × Value × Nat) 2 #[true, true, true, true, true, true, true, true, true, true, false, false] (fun s_ => [(47, s_.1), (41, s_.1), (48, s_.2.1), (49, .int .i64 q), (8, .pointer (some ⟨s_.2.2, 0, none⟩))]) (J9 wr x q) ?_ ?_
          rotate_left
          · intro hCont
            refine two_ (i := 5) (j := 9) (Ni := some 47) (Nj := some 8) #[true, true, true, true, true, true, false, false, false, false, false, false] #[true, true, true, true, true, false, false, false, false, true, false, false] rfl rfl rfl rfl (by kernel_rfl) (by decide) (by decide) (fun K hK => ?_) (fun K hK => ?_)
            · skip
              refine goes_ Try.func11 (by kernel_rfl) rfl #[.agg #[.slice A n c, .slice A1 n1 c1, .slice A2 n2 c2], .agg #[.int .i64 ka, .int .i64 fa, .int .i64 ta, .slice Az nz cz]] (by rfl) rfl rfl (by (try simp only [List.map_toArray, List.map_cons, List.map_nil]); first | done | rfl) ?_
              (with_reducible refine (C9.out _ HB.out).mono ?_)
              rintro e Z9_1 ⟨p3, A3, n3, c3, B3, m3, d3, rfl, h_, hb⟩
              refine ⟨_, rfl, ?_⟩
              have V := Aside0.mk h_
              clear h_
              replace HB := Aside0.mk (below_step HB.out hb)
              clear hb
              refine hK.out _ _ HB.out (fun hHeld => ?_)
              clear hK K
              refine norm_ (a' := ?_) ?_ ?_
              rotate_left
              · show Act.put _ (some 47) _ = _
                simp only [Act.put, List.setIfInBounds_toArray, List.set_cons_zero, List.set_cons_succ, i64_w, i32_w]
                rfl
              refine pure_ (i := 6) (N := some 41) (v := ?_) (a' := ?_) #[true, true, true, true, true, true, true, false, false, false, false, false] rfl rfl (by kernel_rfl) (fun _ _ _ h => h) (Or.inl ⟨by rfl, ?_⟩) ?_ ?_
              rotate_left
              · intro w'
                go_simp
                with_reducible rfl
              rotate_left
              · simp only [Act.put, List.setIfInBounds_toArray, List.set_cons_zero, List.set_cons_succ, i64_w, i32_w]
                rfl
              refine pure_ (i := 7) (N := some 48) (v := ?_) (a' := ?_) #[true, true, true, true, true, true, true, true, false, false, false, false] rfl rfl (by kernel_rfl) (fun _ _ _ h => h) (Or.inl ⟨by rfl, ?_⟩) ?_ ?_
              rotate_left
              · intro w'
                go_simp
                with_reducible rfl
              rotate_left
              · simp only [Act.put, List.setIfInBounds_toArray, List.set_cons_zero, List.set_cons_succ, i64_w, i32_w]
                rfl
              refine pure_ (i := 8) (N := some 49) (v := ?_) (a' := ?_) #[true, true, true, true, true, true, true, true, true, false, false, false] rfl rfl (by kernel_rfl) (fun _ _ _ h => h) (Or.inl ⟨by rfl, ?_⟩) ?_ ?_
              rotate_left
              · intro w'
                go_simp
                with_reducible rfl
              rotate_left
              · simp only [Act.put, List.setIfInBounds_toArray, List.set_cons_zero, List.set_cons_succ, i64_w, i32_w]
                rfl
              refine one_ (i := 9) (N := some 8) #[true, true, true, true, true, true, true, true, true, true, false, false] rfl rfl (by kernel_rfl) (by decide) (fun K hK => ?_)
              refine event_step (w1 := ?_) (v := ?_) (by rfl) ?_ ?_
              rotate_left 2
              · go_simp
                constructor
                · rfl
                · rfl
              generalize hZ : World.alloc Z9_1 (Obj.cells #[Value.int IntKind.i64 0, Value.slice none 0 0, Value.slice none 0 0] 32) = Z9_2
              have hb : Below Z9_1.heap.size Z9_1 Z9_2 := by rw [← hZ]; exact (Below.refl _ _).alloc (Nat.le_refl _) _
              have hc : H3 Z9_2 Z9_1.heap.size (.int .i64 0) (.slice none 0 0) (.slice none 0 0) := by rw [← hZ]; exact World.alloc_heap_new _ _
              have G8 := Aside0.mk (HB.out.size)
              clear hZ
              replace V := Aside0.mk (V.out.below hb)
              have C8 := Aside0.mk hc
              clear hc
              replace HB := Aside0.mk (below_step HB.out hb)
              clear hb
              refine hK.out _ _ HB.out (fun hHeld => ?_)
              clear hK K
              refine norm_ (a' := ?_) ?_ ?_
              rotate_left
              · show Act.put _ (some 8) _ = _
                simp only [Act.put, List.setIfInBounds_toArray, List.set_cons_zero, List.set_cons_succ, i64_w, i32_w]
                rfl
              exact norm_ (by first | rfl | simp only [Go.Proofs.YtenjldfflkinkaaW.PrintLast.putAll, Act.put, List.setIfInBounds_toArray, List.set_cons_zero, List.set_cons_succ]) (hCont (.tuple #[.agg #[.int .i64 p3, .slice A3 n3 c3, .slice B3 m3 d3], .int .i64 q], .agg #[.int .i64 p3, .slice A3 n3 c3, .slice B3 m3 d3], Z9_1.heap.size) _ ⟨p3, A3, n3, c3, B3, m3, d3, rfl, rfl, V.out, HB.out, G8.out, C8.out⟩)
            · skip
              refine event_step (w1 := ?_) (v := ?_) (by rfl) ?_ ?_
              rotate_left 2
              · go_simp
                constructor
                · rfl
                · rfl
              generalize hZ : World.alloc D (Obj.cells #[Value.int IntKind.i64 0, Value.slice none 0 0, Value.slice none 0 0] 32) = Z9_3
              have hb : Below D.heap.size D Z9_3 := by rw [← hZ]; exact (Below.refl _ _).alloc (Nat.le_refl _) _
              have hc : H3 Z9_3 D.heap.size (.int .i64 0) (.slice none 0 0) (.slice none 0 0) := by rw [← hZ]; exact World.alloc_heap_new _ _
              have G8 := Aside0.mk (HB.out.size)
              clear hZ
              have C8 := Aside0.mk hc
              clear hc
              replace HB := Aside0.mk (below_step HB.out hb)
              clear hb
              refine hK.out _ _ HB.out (fun hHeld => ?_)
              clear hK K
              refine norm_ (a' := ?_) ?_ ?_
              rotate_left
              · show Act.put _ (some 8) _ = _
                simp only [Act.put, List.setIfInBounds_toArray, List.set_cons_zero, List.set_cons_succ, i64_w, i32_w]
                rfl
              refine one_ (i := 5) (N := some 47) #[true, true, true, true, true, true, false, false, false, true, false, false] rfl rfl (by kernel_rfl) (by decide) (fun K hK => ?_)
              refine goes_ Try.func11 (by kernel_rfl) rfl #[.agg #[.slice A n c, .slice A1 n1 c1, .slice A2 n2 c2], .agg #[.int .i64 ka, .int .i64 fa, .int .i64 ta, .slice Az nz cz]] (by rfl) rfl rfl (by (try simp only [List.map_toArray, List.map_cons, List.map_nil]); first | done | rfl) ?_
              (with_reducible refine (C9.out _ HB.out).mono ?_)
              rintro e Z9_4 ⟨p3, A3, n3, c3, B3, m3, d3, rfl, h_, hb⟩
              refine ⟨_, rfl, ?_⟩
              have V := Aside0.mk h_
              clear h_
              replace C8 := Aside0.mk (C8.out.below hb)
              replace HB := Aside0.mk (below_step HB.out hb)
              clear hb
              refine hK.out _ _ HB.out (fun hHeld => ?_)
              clear hK K
              refine norm_ (a' := ?_) ?_ ?_
              rotate_left
              · show Act.put _ (some 47) _ = _
                simp only [Act.put, List.setIfInBounds_toArray, List.set_cons_zero, List.set_cons_succ, i64_w, i32_w]
                rfl
              refine pure_ (i := 6) (N := some 41) (v := ?_) (a' := ?_) #[true, true, true, true, true, true, true, false, false, true, false, false] rfl rfl (by kernel_rfl) (fun _ _ _ h => h) (Or.inl ⟨by rfl, ?_⟩) ?_ ?_
              rotate_left
              · intro w'
                go_simp
                with_reducible rfl
              rotate_left
              · simp only [Act.put, List.setIfInBounds_toArray, List.set_cons_zero, List.set_cons_succ, i64_w, i32_w]
                rfl
              refine pure_ (i := 7) (N := some 48) (v := ?_) (a' := ?_) #[true, true, true, true, true, true, true, true, false, true, false, false] rfl rfl (by kernel_rfl) (fun _ _ _ h => h) (Or.inl ⟨by rfl, ?_⟩) ?_ ?_
              rotate_left
              · intro w'
                go_simp
                with_reducible rfl
              rotate_left
              · simp only [Act.put, List.setIfInBounds_toArray, List.set_cons_zero, List.set_cons_succ, i64_w, i32_w]
                rfl
              refine pure_ (i := 8) (N := some 49) (v := ?_) (a' := ?_) #[true, true, true, true, true, true, true, true, true, true, false, false] rfl rfl (by kernel_rfl) (fun _ _ _ h => h) (Or.inl ⟨by rfl, ?_⟩) ?_ ?_
              rotate_left
              · intro w'
                go_simp
                with_reducible rfl
              rotate_left
              · simp only [Act.put, List.setIfInBounds_toArray, List.set_cons_zero, List.set_cons_succ, i64_w, i32_w]
                rfl
              exact norm_ (by first | rfl | simp only [Go.Proofs.YtenjldfflkinkaaW.PrintLast.putAll, Act.put, List.setIfInBounds_toArray, List.set_cons_zero, List.set_cons_succ]) (hCont (.tuple #[.agg #[.int .i64 p3, .slice A3 n3 c3, .slice B3 m3 d3], .int .i64 q], .agg #[.int .i64 p3, .slice A3 n3 c3, .slice B3 m3 d3], D.heap.size) _ ⟨p3, A3, n3, c3, B3, m3, d3, rfl, rfl, V.out, HB.out, G8.out, C8.out⟩)
          rintro ⟨e5, e6, q9⟩ W5 ⟨p3, A3, n3, c3, B3, m3, d3, h5, h6, hV, hb, hg9, hh⟩
          dsimp only at h5 h6 hg9 hh
          subst h6
          subst h5
          refine norm_ (a' := ?_) ?_ ?_
          rotate_left
          · simp only [Go.Proofs.YtenjldfflkinkaaW.PrintLast.putAll, Act.put, List.setIfInBounds_toArray, List.set_cons_zero, List.set_cons_succ]
            rfl
          refine one_ (i := 10) (N := none) #[true, true, true, true, true, true, true, true, true, true, true, false] rfl rfl (by kernel_rfl) (by decide) (fun K hK => ?_)
          have p0 := blk_cell (j := 0) hh
          have p1 := blk_cell (j := 1) hh
          have p2 := blk_cell (j := 2) hh
          have f0 := blk_frozen (j := 0) hh
          have f1 := blk_frozen (j := 1) hh
          have f2 := blk_frozen (j := 2) hh
          refine skip_ (w1 := ?_) (by rfl) rfl ?_ ?_
          rotate_left
          · go_simp
            rfl
          have hh9 := hh.all (.int .i64 p3) (.slice A3 n3 c3) (.slice B3 m3 d3)
          have hbs := below_set3 (a := (.int .i64 p3)) (b := (.slice A3 n3 c3)) (c := (.slice B3 m3 d3)) hg9 hb
          have PT := Put1.three W5 q9 (.int .i64 p3) (.slice A3 n3 c3) (.slice B3 m3 d3)
          have V9 := Aside0.mk (hV.only hh.noI PT.2)
          clear hV hb hh PT p0 p1 p2 f0 f1 f2 HB
          have HH9 := Aside0.mk hh9
          have B9 := Aside0.mk hbs
          clear hh9 hbs
          have G9 := Aside0.mk hg9
          clear hg9
          generalize ((W5.setCell ⟨q9, 0, none⟩ (.int .i64 p3)).setCell ⟨q9, 1, none⟩ (.slice A3 n3 c3)).setCell ⟨q9, 2, none⟩ (.slice B3 m3 d3) = W9 at HH9 B9 V9 ⊢
          refine hK.out _ _ B9.out (fun hHeld => ?_)
          clear hK K
          refine pure_ (i := 11) (N := some 9) (v := ?_) (a' := ?_) #[true, true, true, true, true, true, true, true, true, true, true, true] rfl rfl (by kernel_rfl) (fun _ _ _ h => h) (Or.inl ⟨by rfl, ?_⟩) ?_ ?_
          rotate_left
          · intro w'
            go_simp
            with_reducible rfl
          rotate_left
          · simp only [Act.put, List.setIfInBounds_toArray, List.set_cons_zero, List.set_cons_succ, i64_w, i32_w]
            rfl
          refine done_ (by kernel_rfl) ?_
          clear hHeld
          go_upto_region 10 with (fail)
          have HB := Aside0.mk (below_drew1 (Below.refl W9.heap.size W9))
          refine start_ (n := 12) (S := fun w' => Below W9.heap.size W9 w') (ds := []) #[false, false, false, false, false, false, false, false, false, false, false, false] (by kernel_rfl) rfl rfl HB.out (fun hHeld => ?_)
          generalize W9.drew = D at HB hHeld ⊢
          refine pure_ (i := 1) (N := some 52) (v := ?_) (a' := ?_) #[false, true, false, false, false, false, false, false, false, false, false, false] rfl rfl (by kernel_rfl) (fun _ _ _ h => h) (Or.inl ⟨by rfl, ?_⟩) ?_ ?_
          rotate_left
          · intro w'
            go_simp
            with_reducible rfl
          rotate_left
          · simp only [Act.put, List.setIfInBounds_toArray, List.set_cons_zero, List.set_cons_succ, i64_w, i32_w]
            rfl
          refine pure_ (i := 2) (N := some 53) (v := ?_) (a' := ?_) #[false, true, true, false, false, false, false, false, false, false, false, false] rfl rfl (by kernel_rfl) (fun _ _ _ h => h) (Or.inl ⟨by rfl, ?_⟩) ?_ ?_
          rotate_left
          · intro w'
            go_simp
            with_reducible rfl
          rotate_left
          · simp only [Act.put, List.setIfInBounds_toArray, List.set_cons_zero, List.set_cons_succ, i64_w, i32_w]
            rfl
          refine pure_ (i := 3) (N := some 54) (v := ?_) (a' := ?_) #[false, true, true, true, false, false, false, false, false, false, false, false] rfl rfl (by kernel_rfl) (fun _ _ _ h => h) (Or.inl ⟨by rfl, ?_⟩) ?_ ?_
          rotate_left
          · intro w'
            go_simp
            with_reducible rfl
          rotate_left
          · simp only [Act.put, List.setIfInBounds_toArray, List.set_cons_zero, List.set_cons_succ, i64_w, i32_w]
            rfl
          refine take_ (i := 0) (N := some 51) (v := ?_) (a' := ?_) #[true, true, true, true, false, false, false, false, false, false, false, false] rfl rfl (by kernel_rfl) (fun _ _ _ h => h) (Or.inl ⟨by rfl, ?_⟩) hHeld ?_ ?_
          rotate_left
          · rintro w' hs
            obtain ⟨⟨s0, s1, s2⟩, l0, l1, l2, l3⟩ := CF.out w' (below_step B9.out hs)
            go_simp
            with_reducible rfl
          rotate_left
          · simp only [Act.put, List.setIfInBounds_toArray, List.set_cons_zero, List.set_cons_succ, i64_w, i32_w]
            rfl
          refine take_ (i := 4) (N := some 55) (v := ?_) (a' := ?_) #[true, true, true, true, true, false, false, false, false, false, false, false] rfl rfl (by kernel_rfl) (fun _ _ _ h => h) (Or.inl ⟨by rfl, ?_⟩) hHeld ?_ ?_
          rotate_left
          · rintro w' hs
            obtain ⟨⟨s0, s1, s2⟩, l0, l1, l2, l3⟩ := CF.out w' (below_step B9.out hs)
            go_simp
            with_reducible rfl
          rotate_left
          · simp only [Act.put, List.setIfInBounds_toArray, List.set_cons_zero, List.set_cons_succ, i64_w, i32_w]
            rfl
          refine join_ (σ := Value × Value × Nat) 2 #[true, true, true, true, true, true, true, true, true, true, false, false] (fun s_ => [(56, s_.1), (50, s_.1), (57, s_.2.1), (58, .int .i64 q), (10, .pointer (some ⟨s_.2.2, 0, none⟩))]) (J10 W9 (doneT l x) q) ?_ ?_
          rotate_left
          · intro hCont
            refine two_ (i := 5) (j := 9) (Ni := some 56) (Nj := some 10) #[true, true, true, true, true, true, false, false, false, false, false, false] #[true, true, true, true, true, false, false, false, false, true, false, false] rfl rfl rfl rfl (by kernel_rfl) (by decide) (by decide) (fun K hK => ?_) (fun K hK => ?_)
            · skip
              refine goes_ Try.func12 (by kernel_rfl) rfl #[.agg #[.slice A n c, .slice A1 n1 c1, .slice A2 n2 c2], .agg #[.int .i64 ka, .int .i64 fa, .int .i64 ta, .slice Az nz cz]] (by rfl) rfl rfl (by (try simp only [List.map_toArray, List.map_cons, List.map_nil]); first | done | rfl) ?_
              (with_reducible refine (C10.out _ (below_step B9.out HB.out)).mono ?_)
              rintro e Z10_1 ⟨A5, n5, c5, A6, n6, c6, A7, n7, c7, rfl, hb, h_⟩
              refine ⟨_, rfl, ?_⟩
              have V := Aside0.mk h_
              clear h_
              replace HB := Aside0.mk (below_step HB.out hb)
              clear hb
              refine hK.out _ _ HB.out (fun hHeld => ?_)
              clear hK K
              refine norm_ (a' := ?_) ?_ ?_
              rotate_left
              · show Act.put _ (some 56) _ = _
                simp only [Act.put, List.setIfInBounds_toArray, List.set_cons_zero, List.set_cons_succ, i64_w, i32_w]
                rfl
              refine pure_ (i := 6) (N := some 50) (v := ?_) (a' := ?_) #[true, true, true, true, true, true, true, false, false, false, false, false] rfl rfl (by kernel_rfl) (fun _ _ _ h => h) (Or.inl ⟨by rfl, ?_⟩) ?_ ?_
              rotate_left
              · intro w'
                go_simp
                with_reducible rfl
              rotate_left
              · simp only [Act.put, List.setIfInBounds_toArray, List.set_cons_zero, List.set_cons_succ, i64_w, i32_w]
                rfl
              refine pure_ (i := 7) (N := some 57) (v := ?_) (a' := ?_) #[true, true, true, true, true, true, true, true, false, false, false, false] rfl rfl (by kernel_rfl) (fun _ _ _ h => h) (Or.inl ⟨by rfl, ?_⟩) ?_ ?_
              rotate_left
              · intro w'
                go_simp
                with_reducible rfl
              rotate_left
              · simp only [Act.put, List.setIfInBounds_toArray, List.set_cons_zero, List.set_cons_succ, i64_w, i32_w]
                rfl
              refine pure_ (i := 8) (N := some 58) (v := ?_) (a' := ?_) #[true, true, true, true, true, true, true, true, true, false, false, false] rfl rfl (by kernel_rfl) (fun _ _ _ h => h) (Or.inl ⟨by rfl, ?_⟩) ?_ ?_
              rotate_left
              · intro w'
                go_simp
                with_reducible rfl
              rotate_left
              · simp only [Act.put, List.setIfInBounds_toArray, List.set_cons_zero, List.set_cons_succ, i64_w, i32_w]
                rfl
              refine one_ (i := 9) (N := some 10) #[true, true, true, true, true, true, true, true, true, true, false, false] rfl rfl (by kernel_rfl) (by decide) (fun K hK => ?_)
              refine event_step (w1 := ?_) (v := ?_) (by rfl) ?_ ?_
              rotate_left 2
              · go_simp
                constructor
                · rfl
                · rfl
              generalize hZ : World.alloc Z10_1 (Obj.cells #[Value.slice none 0 0, Value.slice none 0 0, Value.slice none 0 0] 26) = Z10_2
              have hb : Below Z10_1.heap.size Z10_1 Z10_2 := by rw [← hZ]; exact (Below.refl _ _).alloc (Nat.le_refl _) _
              have hc : C3 Z10_2 Z10_1.heap.size (.slice none 0 0) (.slice none 0 0) (.slice none 0 0) := by rw [← hZ]; exact World.alloc_heap_new _ _
              have G8 := Aside0.mk (HB.out.size)
              clear hZ
              replace V := Aside0.mk (show q = 0 → ∃ v1 v2 x1 x2, StOk Z10_2 ⟨A5, n5, c5, A6, n6, c6, A7, n7, c7, v1, v2⟩ ⟨doneT l x, x1, x2⟩ ∧ n6 ≤ 17 ∧ n7 ≤ 17 ∧ n5 ≤ 4096 from fun hq => by
                obtain ⟨v1, v2, x1, x2, h1, h2⟩ := V.out hq
                exact ⟨v1, v2, x1, x2, h1.below hb, h2⟩)
              have C8 := Aside0.mk hc
              clear hc
              replace HB := Aside0.mk (below_step HB.out hb)
              clear hb
              refine hK.out _ _ HB.out (fun hHeld => ?_)
              clear hK K
              refine norm_ (a' := ?_) ?_ ?_
              rotate_left
              · show Act.put _ (some 10) _ = _
                simp only [Act.put, List.setIfInBounds_toArray, List.set_cons_zero, List.set_cons_succ, i64_w, i32_w]
                rfl
              exact norm_ (by first | rfl | simp only [Go.Proofs.YtenjldfflkinkaaW.PrintLast.putAll, Act.put, List.setIfInBounds_toArray, List.set_cons_zero, List.set_cons_succ]) (hCont (.tuple #[.agg #[.slice A5 n5 c5, .slice A6 n6 c6, .slice A7 n7 c7], .int .i64 q], .agg #[.slice A5 n5 c5, .slice A6 n6 c6, .slice A7 n7 c7], Z10_1.heap.size) _ ⟨A5, n5, c5, A6, n6, c6, A7, n7, c7, rfl, rfl, V.out, HB.out, G8.out, C8.out⟩)
            · skip
              refine event_step (w1 := ?_) (v := ?_) (by rfl) ?_ ?_
              rotate_left 2
              · go_simp
                constructor
                · rfl
                · rfl
              generalize hZ : World.alloc D (Obj.cells #[Value.slice none 0 0, Value.slice none 0 0, Value.slice none 0 0] 26) = Z10_3
              have hb : Below D.heap.size D Z10_3 := by rw [← hZ]; exact (Below.refl _ _).alloc (Nat.le_refl _) _
              have hc : C3 Z10_3 D.heap.size (.slice none 0 0) (.slice none 0 0) (.slice none 0 0) := by rw [← hZ]; exact World.alloc_heap_new _ _
              have G8 := Aside0.mk (HB.out.size)
              clear hZ
              have C8 := Aside0.mk hc
              clear hc
              replace HB := Aside0.mk (below_step HB.out hb)
              clear hb
              refine hK.out _ _ HB.out (fun hHeld => ?_)
              clear hK K
              refine norm_ (a' := ?_) ?_ ?_
              rotate_left
              · show Act.put _ (some 10) _ = _
                simp only [Act.put, List.setIfInBounds_toArray, List.set_cons_zero, List.set_cons_succ, i64_w, i32_w]
                rfl
              refine one_ (i := 5) (N := some 56) #[true, true, true, true, true, true, false, false, false, true, false, false] rfl rfl (by kernel_rfl) (by decide) (fun K hK => ?_)
              refine goes_ Try.func12 (by kernel_rfl) rfl #[.agg #[.slice A n c, .slice A1 n1 c1, .slice A2 n2 c2], .agg #[.int .i64 ka, .int .i64 fa, .int .i64 ta, .slice Az nz cz]] (by rfl) rfl rfl (by (try simp only [List.map_toArray, List.map_cons, List.map_nil]); first | done | rfl) ?_
              (with_reducible refine (C10.out _ (below_step B9.out HB.out)).mono ?_)
              rintro e Z10_4 ⟨A5, n5, c5, A6, n6, c6, A7, n7, c7, rfl, hb, h_⟩
              refine ⟨_, rfl, ?_⟩
              have V := Aside0.mk h_
              clear h_
              replace C8 := Aside0.mk (C8.out.below hb)
              replace HB := Aside0.mk (below_step HB.out hb)
              clear hb
              refine hK.out _ _ HB.out (fun hHeld => ?_)
              clear hK K
              refine norm_ (a' := ?_) ?_ ?_
              rotate_left
              · show Act.put _ (some 56) _ = _
                simp only [Act.put, List.setIfInBounds_toArray, List.set_cons_zero, List.set_cons_succ, i64_w, i32_w]
                rfl
              refine pure_ (i := 6) (N := some 50) (v := ?_) (a' := ?_) #[true, true, true, true, true, true, true, false, false, true, false, false] rfl rfl (by kernel_rfl) (fun _ _ _ h => h) (Or.inl ⟨by rfl, ?_⟩) ?_ ?_
              rotate_left
              · intro w'
                go_simp
                with_reducible rfl
              rotate_left
              · simp only [Act.put, List.setIfInBounds_toArray, List.set_cons_zero, List.set_cons_succ, i64_w, i32_w]
                rfl
              refine pure_ (i := 7) (N := some 57) (v := ?_) (a' := ?_) #[true, true, true, true, true, true, true, true, false, true, false, false] rfl rfl (by kernel_rfl) (fun _ _ _ h => h) (Or.inl ⟨by rfl, ?_⟩) ?_ ?_
              rotate_left
              · intro w'
                go_simp
                with_reducible rfl
              rotate_left
              · simp only [Act.put, List.setIfInBounds_toArray, List.set_cons_zero, List.set_cons_succ, i64_w, i32_w]
                rfl
              refine pure_ (i := 8) (N := some 58) (v := ?_) (a' := ?_) #[true, true, true, true, true, true, true, true, true, true, false, false] rfl rfl (by kernel_rfl) (fun _ _ _ h => h) (Or.inl ⟨by rfl, ?_⟩) ?_ ?_
              rotate_left
              · intro w'
                go_simp
                with_reducible rfl
              rotate_left
              · simp only [Act.put, List.setIfInBounds_toArray, List.set_cons_zero, List.set_cons_succ, i64_w, i32_w]
                rfl
              exact norm_ (by first | rfl | simp only [Go.Proofs.YtenjldfflkinkaaW.PrintLast.putAll, Act.put, List.setIfInBounds_toArray, List.set_cons_zero, List.set_cons_succ]) (hCont (.tuple #[.agg #[.slice A5 n5 c5, .slice A6 n6 c6, .slice A7 n7 c7], .int .i64 q], .agg #[.slice A5 n5 c5, .slice A6 n6 c6, .slice A7 n7 c7], D.heap.size) _ ⟨A5, n5, c5, A6, n6, c6, A7, n7, c7, rfl, rfl, V.out, HB.out, G8.out, C8.out⟩)
          rintro ⟨e5, e6, q10⟩ W5 ⟨A5, n5, c5, A6, n6, c6, A7, n7, c7, h5, h6, hV, hb, hg9, hh⟩
          dsimp only at h5 h6 hg9 hh
          subst h6
          subst h5
          refine norm_ (a' := ?_) ?_ ?_
          rotate_left
          · simp only [Go.Proofs.YtenjldfflkinkaaW.PrintLast.putAll, Act.put, List.setIfInBounds_toArray, List.set_cons_zero, List.set_cons_succ]
            rfl
          refine one_ (i := 10) (N := none) #[true, true, true, true, true, true, true, true, true, true, true, false] rfl rfl (by kernel_rfl) (by decide) (fun K hK => ?_)
          have p0 := blk_cell (j := 0) hh
          have p1 := blk_cell (j := 1) hh
          have p2 := blk_cell (j := 2) hh
          have f0 := blk_frozen (j := 0) hh
          have f1 := blk_frozen (j := 1) hh
          have f2 := blk_frozen (j := 2) hh
          refine skip_ (w1 := ?_) (by rfl) rfl ?_ ?_
          rotate_left
          · go_simp
            rfl
          have hh9 := hh.all (.slice A5 n5 c5) (.slice A6 n6 c6) (.slice A7 n7 c7)
          have hbs := below_set3 (a := (.slice A5 n5 c5)) (b := (.slice A6 n6 c6)) (c := (.slice A7 n7 c7)) hg9 hb
          have PT := Put1.three W5 q10 (.slice A5 n5 c5) (.slice A6 n6 c6) (.slice A7 n7 c7)
          have OK10 := Aside0.mk (show q = 0 → ∃ v1 v2 x1 x2, StOk (((W5.setCell ⟨q10, 0, none⟩ (.slice A5 n5 c5)).setCell ⟨q10, 1, none⟩ (.slice A6 n6 c6)).setCell ⟨q10, 2, none⟩ (.slice A7 n7 c7)) ⟨A5, n5, c5, A6, n6, c6, A7, n7, c7, v1, v2⟩ ⟨doneT l x, x1, x2⟩ ∧ n6 ≤ 17 ∧ n7 ≤ 17 ∧ n5 ≤ 4096 from fun hq => by
            obtain ⟨v1, v2, x1, x2, h1, h2⟩ := hV hq
            exact ⟨v1, v2, x1, x2, h1.putC hh PT, h2⟩)
          clear hV hb hh PT p0 p1 p2 f0 f1 f2 HB
          have HH10 := Aside0.mk hh9
          have B10 := Aside0.mk hbs
          clear hh9 hbs
          have G10 := Aside0.mk hg9
          clear hg9
          generalize ((W5.setCell ⟨q10, 0, none⟩ (.slice A5 n5 c5)).setCell ⟨q10, 1, none⟩ (.slice A6 n6 c6)).setCell ⟨q10, 2, none⟩ (.slice A7 n7 c7) = W10 at HH10 B10 OK10 ⊢
          refine hK.out _ _ B10.out (fun hHeld => ?_)
          clear hK K
          refine pure_ (i := 11) (N := some 11) (v := ?_) (a' := ?_) #[true, true, true, true, true, true, true, true, true, true, true, true] rfl rfl (by kernel_rfl) (fun _ _ _ h => h) (Or.inl ⟨by rfl, ?_⟩) ?_ ?_
          rotate_left
          · intro w'
            go_simp
            with_reducible rfl
          rotate_left
          · simp only [Act.put, List.setIfInBounds_toArray, List.set_cons_zero, List.set_cons_succ, i64_w, i32_w]
            rfl
          refine done_ (by kernel_rfl) ?_
          clear hHeld
          have TR10 := Aside0.mk (HT.out.below (below_step B9.out B10.out))
          have V10 := Aside0.mk (V9.out.below B10.out)
          have H10 := Aside0.mk (HH9.out.below B10.out)
          clear V9 HH9 B9 C9 C10 CF HSZ HACT HT
          by_cases hq : q = 0
          · subst hq
            obtain ⟨hfit, hdl, hgl, hcl⟩ := EOK.out rfl
            obtain ⟨vu, vr, xu, xr, hok, hu17, hr17, hn5⟩ := OK10.out rfl
            have OKA := Aside0.mk hok
            obtain ⟨p0, hp0⟩ : ∃ p0 : Nat, x.at_ = (p0 : Int) ∧ p0 + x.gone.length ≤ l.length := by
              unfold fitsB at hfit
              obtain ⟨f1, f2, -⟩ := of_decide_eq_true hfit
              exact ⟨x.at_.toNat, by omega, by omega⟩
            obtain ⟨hpx, hpl⟩ := hp0
            obtain rfl : p3 = (p0 : Int) := by rw [V10.out.hp]; exact hpx
            have hn3 := V10.out.g.hn
            have hm3 := V10.out.k.hn
            have hnl := TR10.out.ok.t.hn
            have hbn := TR10.out.ok.bn
            dsimp only at hnl hbn
            have hgc := gone_came hpx hpl
            rw [hn3] at hgc hpl
            rw [hn3] at hgl
            rw [hm3] at hcl
            have CDel := Aside0.mk (fun W (h : RL W b l) => (show Calls Try.prog 13 #[.pointer (some ⟨b, 0, none⟩), .int .i64 (p0 : Int), .int .i64 ((p0 : Int) + (n3 : Int))] W (OneE (l.take p0 ++ l.drop (p0 + n3)) W) from by
              have h1 := Delete_L h p0 (p0 + n3) (by omega) (by omega) (by omega)
              rw [Int.natCast_add] at h1
              exact h1))
            have CIns := Aside0.mk (fun W u (h : RL W u (l.take p0 ++ l.drop (p0 + n3))) (hs : Sl W B3 m3 d3 x.came) => (show Calls Try.prog 14 #[.pointer (some ⟨u, 0, none⟩), .int .i64 (p0 : Int), .slice B3 m3 d3] W (OneE (doneT l x) W) from by
              have h1 := Insert_L (c := d3) h (A := B3) (zs := x.came) (by rw [hs.hn]; exact hs.hC) (by rw [hs.hn]; exact hs.hc) hs.hm p0 (by simp; omega) (by simp; omega)
              rw [hgc, hs.hn] at h1
              exact h1))
            have CMv := Aside0.mk (fun W (hb : Below W10.heap.size W10 W) => moves_L (t := t) (TR10.out.ok.t.below hb) (OKA.out.t.below hb) (V10.out.below hb) hfit rfl hbn (by omega))
            dsimp only at CMv
            have hpn : p0 + n3 ≤ 5000 := by omega
            clear hgc hfit EOK OK10 hpx hpl
            have z0 := blk_cell (j := 0) H10.out
            have z1 := blk_cell (j := 1) H10.out
            have z2 := blk_cell (j := 2) H10.out
            have hq9 := H10.out.size
            go_upto_region 18 with (first
              | (go_at_call 13; (with_reducible refine (CDel.out _ TR10.out.rl).mono ?_); rintro e W11 ⟨b2, rfl, hr, hb⟩; have RL11 := Aside0.mk hr; have B11 := Aside0.mk hb; have z0' := (hb.cell (p := ⟨q9, 0, none⟩) hq9).trans z0; have z2' := (hb.cell (p := ⟨q9, 2, none⟩) hq9).trans z2; clear hr hb)
              | (go_at_call 14; (with_reducible refine (CIns.out _ _ RL11.out (V10.out.k.below B11.out)).mono ?_); rintro e W12 ⟨b3, rfl, hr, hb⟩; have RL12 := Aside0.mk hr; have B12 := Aside0.mk (below_step B11.out hb); clear hr hb))
            clear z0 z1 z2 z0' z2' RL11 CDel CIns
            have H12 := H10.out.below B12.out
            have z0 := blk_cell (j := 0) H12
            have z1 := blk_cell (j := 1) H12
            have z2 := blk_cell (j := 2) H12
            have hG12 := TR10.out.c3.below B12.out
            have y0 := blk_cell (j := 0) hG12
            have hN12 := HH10.out.below B12.out
            have e0 := blk_cell (j := 0) hN12
            clear H12 hG12 hN12
            go_upto_region 20 with (go_at_call 15; (with_reducible refine (CMv.out _ B12.out).mono ?_); rintro e W13 ⟨rfl, hb⟩; have RL13 := Aside0.mk (RL12.out.below hb); have B13 := Aside0.mk (below_step B12.out hb); clear hb)
            clear z0 z1 z2 y0 e0 CMv B12 RL12
            have hG13 := TR10.out.c3.below B13.out
            have hN13 := HH10.out.below B13.out
            have g0 := blk_cell (j := 0) hG13
            have g1 := blk_cell (j := 1) hG13
            have g2 := blk_cell (j := 2) hG13
            have f0 := blk_frozen (j := 0) hG13
            have f1 := blk_frozen (j := 1) hG13
            have f2 := blk_frozen (j := 2) hG13
            have e0 := blk_cell (j := 0) hN13
            have e1 := blk_cell (j := 1) hN13
            have e2 := blk_cell (j := 2) hN13
            have PT := Put1.three W13 g (.slice A5 n5 c5) (.slice A6 n6 c6) (.slice A7 n7 c7)
            have TR14 := Aside0.mk (show Tr w (((W13.setCell ⟨g, 0, none⟩ (.slice A5 n5 c5)).setCell ⟨g, 1, none⟩ (.slice A6 n6 c6)).setCell ⟨g, 2, none⟩ (.slice A7 n7 c7)) g b3 ⟨A5, n5, c5, A6, n6, c6, A7, n7, c7, vu, vr⟩ ⟨doneT l x, xu, xr⟩ from ⟨below_set3 TR10.out.gg (below_step TR10.out.bel B13.out), TR10.out.gg, hG13.all _ _ _, (OKA.out.below B13.out).putC hG13 PT, RL13.out.putC hG13 PT⟩)
            clear hG13 hN13 PT RL13 H10 HH10
            go_upto_region 21 with (fail)
            clear g0 g1 g2 f0 f1 f2 e0 e1 e2 OKA TR10 B13 V10
            generalize ((W13.setCell ⟨g, 0, none⟩ (.slice A5 n5 c5)).setCell ⟨g, 1, none⟩ (.slice A6 n6 c6)).setCell ⟨g, 2, none⟩ (.slice A7 n7 c7) = W14 at TR14 ⊢
            have hl5 := TR14.out.ok.t.hn
            dsimp only at hl5
            generalize doneT l x = L5 at TR14 hl5 hdl
            have CLen := Aside0.mk (fun W (h : RL W b3 L5) => Len_Q h hl5)
            have CSl := Aside0.mk (fun W (h : RL W b3 L5) => (show Calls Try.prog 16 #[.pointer (some ⟨b3, 0, none⟩), .int .i64 0, .int .i64 (n5 : Int)] W fun e w' => ∃ A c, e = .returned (.tuple #[.slice A n5 c, .int .i64 0]) ∧ Kd.C (Kd.int .i32) w' A n5 L5 ∧ n5 ≤ c ∧ Below W.heap.size W w' from
              (Slice_row h 0 n5 (Nat.zero_le _) (by omega) (by omega)).mono fun e w' ⟨A, c, h1, h2, h3, _, h5⟩ => ⟨A, c, h1, by
                rw [List.drop_zero, Nat.sub_zero, List.take_of_length_le (by omega)] at h2
                exact h2, by simpa using h3, h5⟩))
            have y0 := blk_cell (j := 0) TR14.out.c3
            have hgl := TR14.out.c3.size
            dsimp only at y0
            go_upto_region 22 with (first
              | (go_at_call 17; (with_reducible refine (CLen.out _ TR14.out.rl).mono ?_); rintro e W15 ⟨rfl, rfl⟩)
              | (go_at_call 16; (with_reducible refine (CSl.out _ TR14.out.rl).mono ?_); rintro e W16 ⟨A8, c8, rfl, h8, h8c, hb⟩; have HC8 := Aside0.mk h8; have HC8c := Aside0.mk h8c; have TR16 := Aside0.mk (TR14.out.below hb); have y0' := (hb.cell (p := ⟨g, 0, none⟩) hgl).trans y0; have hgl' : g < W16.heap.size := Nat.lt_of_lt_of_le hgl hb.size; clear h8 h8c hb))
            clear y0 hgl
            have CSame := Aside0.mk (Same_n HC8.out hl5 HC8c.out TR16.out.ok.t.hC TR16.out.ok.t.hc (by omega))
            dsimp only at CSame
            have CPar := Aside0.mk (fun W (h : Tr w W g b3 ⟨A5, n5, c5, A6, n6, c6, A7, n7, c7, vu, vr⟩ ⟨L5, xu, xr⟩) => (show Calls Try.prog 19 #[.pointer (some ⟨b3, 0, none⟩), .slice A5 n5 c5] W fun e w' => e = .returned (.bool true) ∧ Below W.heap.size W w' from paragraphs_L h.rl h.ok.t (show n5 ≤ 5000 by omega)))
            go_wp2_with (first
              | (go_at_call 18; (with_reducible refine CSame.out.mono ?_); rintro e W17 ⟨rfl, hb⟩; have TR17 := Aside0.mk (TR16.out.below hb); have y0'' := (hb.cell (p := ⟨g, 0, none⟩) hgl').trans y0'; clear hb)
              | (go_at_call 19; (with_reducible refine (CPar.out _ TR17.out).mono ?_); rintro e W18 ⟨rfl, hb⟩; have TR18 := Aside0.mk (TR17.out.below hb); clear hb))
            go_roundw
            case measure => simp [intOf]; omega
            case rel => exact ⟨b3, i + 1, _, _, rfl, by go_num, by omega, TR18⟩
          · clear EOK OK10 V10 H10 HH10
            go_wp2
            go_roundw
            case measure => simp [intOf]; omega
            case rel => exact ⟨b, i + 1, _, _, rfl, by go_num, by omega, TR10⟩
      · have hin2' : decide ((i : Int) < 40) = false := decide_eq_false (by omega)
        have hin1' : (i : Int) < (n0 : Int) := by omega
        have BW := Aside0.mk HT.out.bel
        clear HT
        have CAp := Aside0.mk (fun W Az (hz : Sl W Az 2 2 [97, 98]) => (show Calls Try.prog 12 #[.agg #[.slice none 0 0, .slice none 0 0, .slice none 0 0], .agg #[.int .i64 1, .int .i64 0, .int .i64 0, .slice Az 2 2]] W (GivesSt [97, 98] 0 W) from by
          have h1 := Apply_calls (k := 1) (a := 0) (b := 0) (ok_zero W) hz (by omega)
          rw [eff_ab] at h1
          exact h1))
        go_upto_region 24 with (fail)
        obtain ⟨W20, hW20⟩ : ∃ W20, wr = W20 := ⟨_, rfl⟩
        rw [hW20] at BW ⊢
        clear hW20
        go_upto_region 25 with (go_at_call 12; (with_reducible refine (CAp.out _ _ (lit_ab _ _)).mono ?_); rintro e W21 ⟨A5, n5, c5, A6, n6, c6, A7, n7, c7, rfl, hb, hst⟩; obtain ⟨vu, vr, xu, xr, hok, -, -, -⟩ := hst rfl; have hT : Sl W21 A5 n5 c5 [97, 98] := hok.t; have B21 := Aside0.mk (below_step BW.out (below_step (lit_below _ _) hb)); clear hb hst hok)
        obtain rfl : n5 = 2 := by have := hT.hn; simp at this; omega
        have OKA := Aside0.mk hT
        have CSam := Aside0.mk (fun W (h1 : Sl W A5 2 c5 [97, 98]) B (h2 : Sl W B 2 2 [97, 98]) => (Same_n h1.hC h1.hn h1.hc h2.hC h2.hc (by omega) : Calls Try.prog 18 #[.slice A5 2 c5, .slice B 2 2] W fun e w' => e = .returned (.bool true) ∧ Below W.heap.size W w'))
        clear hT
        go_wp2_with (go_at_call 18; (with_reducible refine (CSam.out _ (OKA.out.below (((Below.refl _ _).alloc (Nat.le_refl _) _).alloc (by simp) _)) _ (lit_abk _ _ _ (World.size_alloc _ _))).mono ?_); rintro e W22 ⟨rfl, hb⟩; have B22 := Aside0.mk (below_step B21.out (below_step (((Below.refl _ _).alloc (Nat.le_refl _) _).alloc (by simp) _) hb)); clear hb)
        go_ret
        exact ⟨rfl, B22.out⟩
    · have hin1' : ¬ (i : Int) < (n0 : Int) := by omega
      have BW := Aside0.mk HT.out.bel
      clear HT
      have CAp := Aside0.mk (fun W Az (hz : Sl W Az 2 2 [97, 98]) => (show Calls Try.prog 12 #[.agg #[.slice none 0 0, .slice none 0 0, .slice none 0 0], .agg #[.int .i64 1, .int .i64 0, .int .i64 0, .slice Az 2 2]] W (GivesSt [97, 98] 0 W) from by
        have h1 := Apply_calls (k := 1) (a := 0) (b := 0) (ok_zero W) hz (by omega)
        rw [eff_ab] at h1
        exact h1))
      go_upto_region 24 with (fail)
      obtain ⟨W20, hW20⟩ : ∃ W20, wr = W20 := ⟨_, rfl⟩
      rw [hW20] at BW ⊢
      clear hW20
      go_upto_region 25 with (go_at_call 12; (with_reducible refine (CAp.out _ _ (lit_ab _ _)).mono ?_); rintro e W21 ⟨A5, n5, c5, A6, n6, c6, A7, n7, c7, rfl, hb, hst⟩; obtain ⟨vu, vr, xu, xr, hok, -, -, -⟩ := hst rfl; have hT : Sl W21 A5 n5 c5 [97, 98] := hok.t; have B21 := Aside0.mk (below_step BW.out (below_step (lit_below _ _) hb)); clear hb hst hok)
      obtain rfl : n5 = 2 := by have := hT.hn; simp at this; omega
      have OKA := Aside0.mk hT
      have CSam := Aside0.mk (fun W (h1 : Sl W A5 2 c5 [97, 98]) B (h2 : Sl W B 2 2 [97, 98]) => (Same_n h1.hC h1.hn h1.hc h2.hC h2.hc (by omega) : Calls Try.prog 18 #[.slice A5 2 c5, .slice B 2 2] W fun e w' => e = .returned (.bool true) ∧ Below W.heap.size W w'))
      clear hT
      go_wp2_with (go_at_call 18; (with_reducible refine (CSam.out _ (OKA.out.below (((Below.refl _ _).alloc (Nat.le_refl _) _).alloc (by simp) _)) _ (lit_abk _ _ _ (World.size_alloc _ _))).mono ?_); rintro e W22 ⟨rfl, hb⟩; have B22 := Aside0.mk (below_step B21.out (below_step (((Below.refl _ _).alloc (Nat.le_refl _) _).alloc (by simp) _) hb)); clear hb)
      go_ret
      exact ⟨rfl, B22.out⟩
theorem walk_TopRopes {W : World} {a0 : Option Addr} {len0 cap0 : Nat} {a1 : Int} (w0 : ActRow2 W a0 len0 cap0) (w1 : (Lit.int .i64 a1).wf = true) :
    Calls Try.prog 3 #[.slice a0 len0 cap0, .int .i64 a1] W fun e w' => e = .returned (.bool true) ∧ Below W.heap.size W w' := ropes_walk w0
end Go.Proofs.Ytenjldfflkinkaa.Rop
