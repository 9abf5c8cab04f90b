/- A rope's All: the walk through a tree, the closure, the value that a loop ranges over. -/
import Derived.RangeFuncNested
import Derived.RangeFuncBound
import Derived.RangeFuncCalls
import Derived.RangeFuncLeaves
import Derived.RangeFuncBox
import Derived.Shelf.Abstract
import Derived.WalkKit
import Derived.OwnWalkIn
import Derived.TacticsInMore
import Derived.LoopNIn
import Derived.LoopIn
import Derived.Maps.AppendAt
import Derived.Test.YtenjldfflkinkaaFGRopF
namespace Go.Proofs.Ytenjldfflkinkaa.Rop
set_option linter.unusedVariables false
set_option linter.unusedSimpArgs false
open Go.RowKit Go.Shelf Go.Proofs.Ytenjldfflkinkaa.F Go.Proofs.YtenjldfflkinkaaW.PrintWords Go.Proofs.YtenjldfflkinkaaW.PrintLast Go.Proofs.YtenjldfflkinkaaW.PrintMore
attribute [local go_sem] Oper.semAt_some

/-- places and numbers, from a place on -/
def idx (k : Int) : List Int → List (Int × Int)
  | [] => []
  | c :: l => (k, c) :: idx (k + 1) l
theorem idx_app : ∀ (k : Int) (l m : List Int), idx k (l ++ m) = idx k l ++ idx (k + (l.length : Int)) m
  | k, [], m => by simp [idx]
  | k, c :: l, m => by
    simp only [List.cons_append, idx, idx_app (k + 1) l m, List.length_cons]
    have e : k + 1 + (l.length : Int) = k + ((l.length + 1 : Nat) : Int) := by omega
    rw [e]
theorem idx_len : ∀ (k : Int) (l : List Int), (idx k l).length = l.length
  | _, [] => rfl
  | k, c :: l => by simp [idx, idx_len (k + 1) l]
theorem idx_node (k : Int) (l r : RT) (c : Int) : idx k (RT.node l c r).toL = idx k l.toL ++ (k + (l.sz : Int), c) :: idx (k + (l.sz : Int) + 1) r.toL := by
  simp only [RT.toL]
  rw [idx_app, RT.toL_len]
  rfl
theorem hdd_ : ∀ k : Nat, (Fence.wide.depth.isSome = true → 1 ≤ k) := fun k h => by cases h
def encR (x : Int × Int) : Array Value := #[.int .i64 x.1, .int .i32 x.2]
/-- what lies in the blocks of S lies as it lay -/
def KeepS (S : Nat → Prop) (W W' : World) : Prop := ∀ k, S k → W'.heap[k]? = W.heap[k]?
theorem KeepS.refl (S : Nat → Prop) (W : World) : KeepS S W W := fun _ _ => rfl
theorem KeepS.trans {S : Nat → Prop} {A B C : World} (h : KeepS S A B) (k : KeepS S B C) : KeepS S A C := fun j hj => (k j hj).trans (h j hj)
theorem KeepS.cell {S : Nat → Prop} {A B : World} (h : KeepS S A B) {b o : Nat} (hb : S b) : B.cell? ⟨b, o, none⟩ = A.cell? ⟨b, o, none⟩ := by
  simp only [World.cell?, h b hb]
theorem KeepS.of_below {S : Nat → Prop} {n : Nat} {A B : World} (h : Below n A B) (hS : ∀ k, S k → k < n) : KeepS S A B := fun k hk => h.block k (hS k hk)
/-- A pointer to a tree, in blocks of S. -/
def NodeIn (S : Nat → Prop) (W : World) : Option Addr → RT → Prop
  | p, .nil => p = none
  | p, .node l c r => ∃ (b : Nat) (pl pr : Option Addr), p = some ⟨b, 0, none⟩ ∧ S b ∧ W.cell? ⟨b, 0, none⟩ = some (.int .i32 c) ∧ W.cell? ⟨b, 1, none⟩ = some (.pointer pl) ∧ W.cell? ⟨b, 2, none⟩ = some (.pointer pr) ∧
      W.cell? ⟨b, 3, none⟩ = some (.int .i64 ((RT.node l c r).sz : Int)) ∧ W.cell? ⟨b, 4, none⟩ = some (.int .i64 ((RT.node l c r).dp : Int)) ∧ W.cell? ⟨b, 5, none⟩ = some (.int .i64 ((RT.node l c r).bk sep : Int)) ∧ NodeIn S W pl l ∧ NodeIn S W pr r
theorem NodeIn.keep {S : Nat → Prop} {A B : World} (h : KeepS S A B) : ∀ {p : Option Addr} {t : RT}, NodeIn S A p t → NodeIn S B p t
  | _, .nil, ht => ht
  | _, .node _ _ _, ⟨b, pl, pr, hp, hb, h0, h1, h2, h3, h4, h5, hl, hr⟩ => ⟨b, pl, pr, hp, hb, (h.cell hb).trans h0, (h.cell hb).trans h1, (h.cell hb).trans h2, (h.cell hb).trans h3, (h.cell hb).trans h4, (h.cell hb).trans h5, hl.keep h, hr.keep h⟩
theorem NodeIn.nd {S : Nat → Prop} {W : World} : ∀ {p : Option Addr} {t : RT}, NodeIn S W p t → Nd W p t
  | _, .nil, ht => ht
  | _, .node _ _ _, ⟨b, pl, pr, hp, hb, h0, h1, h2, h3, h4, h5, hl, hr⟩ => ⟨b, pl, pr, hp, World.block_lt_of_cell? W _ h0, h0, h1, h2, h3, h4, h5, hl.nd, hr.nd⟩
theorem NodeAt.inS {S : Nat → Prop} {W : World} (hS : ∀ b pl, b < W.heap.size → W.cell? ⟨b, 1, none⟩ = some (.pointer pl) → S b) {n : Nat} (hn : n ≤ W.heap.size) : ∀ {p : Option Addr} {t : RT}, NodeAt n W p t → NodeIn S W p t
  | _, .nil, ht => ht
  | _, .node _ _ _, ⟨b, pl, pr, hp, hb, h0, h1, h2, h3, h4, h5, hl, hr⟩ => ⟨b, pl, pr, hp, hS b pl (Nat.lt_of_lt_of_le hb hn) h1, h0, h1, h2, h3, h4, h5, hl.inS hS hn, hr.inS hS hn⟩
theorem keepS_t {S : Nat → Prop} {A B C : World} (h : KeepS S A B) (k : KeepS S B C) : KeepS S A C := h.trans k
theorem keepS_b {S : Nat → Prop} {w : World} (hS : ∀ k, S k → k < w.heap.size) (W : World) (l : Nat) (o o' : Obj) (hl : w.heap.size ≤ l) (h : W.heap[l]? = some o) (h1 : o.isCells = false) (h2 : o.isWalk = false) : KeepS S W (W.putObj l o') :=
  fun k hk => (grownBy_putObj' W l o').block k (by have := (Array.getElem?_eq_some_iff.1 h).1; have := hS k hk; omega) (by have := hS k hk; simp; omega)
theorem YieldAt.anyDepthW {m : Nat} (m' : Nat) {P : Program} {l : Nat} {args : Array Value} {W : World} {R : Ending → World → Prop} (h : YieldAt Fence.wide m P l args W R) : YieldAt Fence.wide m' P l args W R := by
  obtain ⟨fn, tmps, assign, body, hy, hR⟩ := h
  exact ⟨fn, tmps, assign, body, hy, ⟨hR.1, fun c cs _ => hR.2 c cs (fun d h => by cases h)⟩⟩

set_option maxRecDepth 100000 in
set_option maxHeartbeats 4000000 in
theorem walk_in (S : Nat → Prop) (lp N : Nat) (J Jx : List (Int × Int) → World → Prop)
    (hY : ∀ m pre x W, J pre W → pre.length < N → YieldAt Fence.wide m Try.prog lp (encR x) W fun e W' =>
      (e = .returned (.bool true) ∧ J (pre ++ [x]) W' ∧ KeepS S W W') ∨ (e = .returned (.bool false) ∧ Jx (pre ++ [x]) W')) (t : RT) :
    ∀ (n : Nat) (p : Option Addr) (k : Int) (pre : List (Int × Int)) (W : World), NodeIn S W p t → J pre W → pre.length + t.sz ≤ N → 0 ≤ k → k + (t.sz : Int) ≤ 1000000000000000 →
      CallsIn Fence.wide n Try.prog 49 #[.pointer p, .int .i64 k, .func (.yield lp) #[] #[]] W fun e W' =>
        (e = .returned (.bool true) ∧ J (pre ++ idx k t.toL) W' ∧ KeepS S W W') ∨ (e = .returned (.bool false) ∧ ∃ q, q <+: idx k t.toL ∧ Jx (pre ++ q) W') := by
  induction t with
  | nil =>
    intro n p k pre W ht hJ _ _ _
    obtain rfl : p = none := ht
    refine callsIn_of_wp Try.func49 rfl trivial ?_ rfl
    simp only [Try.ntmps49, List.size_toArray, List.length_cons, List.length_nil, Nat.reduceAdd, Nat.reduceSub, Array.replicate_succ, Array.replicate_zero, List.push_toArray, List.append_toArray, List.nil_append, List.cons_append]
    gi_wp2
    go_ret
    exact .inl ⟨rfl, by simpa [RT.toL, idx] using hJ, KeepS.refl _ _⟩
  | node tl v tr ihl ihr =>
    intro n p k pre W ht hJ hN hk0 hk1
    obtain ⟨b, pl, pr, rfl, hb, c0, c1, c2, c3, c4, c5, hl, hr⟩ := ht
    have hnode := idx_node k tl tr v
    have hsz := size_calls hl.nd
    have hil := idx_len k tl.toL
    have hil2 := RT.toL_len tl
    simp only [RT.sz] at hN hk1
    have hat : (k : Int) + (tl.sz : Int) ≤ 1000000000000000 := by omega
    have hat0 : 0 ≤ (k : Int) + (tl.sz : Int) := by omega
    have hkl : (tl.sz : Int) ≤ 1000000000000000 := by omega
    have hy2 : ∀ W1, J (pre ++ idx k tl.toL) W1 → KeepS S W W1 → YieldAt Fence.wide (n - 1) Try.prog lp #[.int .i64 (k + (tl.sz : Int)), .int .i32 v] W1 fun e W2 =>
        (e = .returned (.bool true) ∧ J (pre ++ idx k tl.toL ++ [(k + (tl.sz : Int), v)]) W2 ∧ KeepS S W W2 ∧ W2.cell? ⟨b, 2, none⟩ = some (.pointer pr) ∧ NodeIn S W2 pr tr) ∨ (e = .returned (.bool false) ∧ Jx (pre ++ idx k tl.toL ++ [(k + (tl.sz : Int), v)]) W2) := fun W1 hJ1 hb1 =>
      YieldAt.mono (hY (n - 1) _ (k + (tl.sz : Int), v) W1 hJ1 (by simp [hil, hil2]; omega)) fun e W2 h => h.elim
        (fun ⟨he, hj, hb2⟩ => .inl ⟨he, hj, hb1.trans hb2, ((hb1.trans hb2).cell hb).trans c2, hr.keep (hb1.trans hb2)⟩) .inr
    have ih1 := (ihl (n - 1) pl k pre W hl hJ (by omega) hk0 (by omega)).mono (R' := fun e W1 =>
        (e = .returned (.bool true) ∧ W1.cell? ⟨b, 0, none⟩ = some (.int .i32 v) ∧ YieldAt Fence.wide (n - 1) Try.prog lp #[.int .i64 (k + (tl.sz : Int)), .int .i32 v] W1 fun e W2 =>
          (e = .returned (.bool true) ∧ J (pre ++ idx k tl.toL ++ [(k + (tl.sz : Int), v)]) W2 ∧ KeepS S W W2 ∧ W2.cell? ⟨b, 2, none⟩ = some (.pointer pr) ∧ NodeIn S W2 pr tr) ∨ (e = .returned (.bool false) ∧ Jx (pre ++ idx k tl.toL ++ [(k + (tl.sz : Int), v)]) W2)) ∨
        (e = .returned (.bool false) ∧ ∃ q, q <+: idx k tl.toL ∧ Jx (pre ++ q) W1))
      (fun e W1 h => h.elim (fun ⟨he, hj, hb1⟩ => .inl ⟨he, (hb1.cell hb).trans c0, hy2 W1 hj hb1⟩) .inr)
    clear hy2 ihl
    have HN := Aside0.mk hnode
    have HIL := Aside0.mk hil
    have HIL2 := Aside0.mk hil2
    clear hnode hil hil2 c3 c4 c5
    refine callsIn_of_wp Try.func49 rfl trivial ?_ rfl
    simp only [Try.ntmps49, List.size_toArray, List.length_cons, List.length_nil, Nat.reduceAdd, Nat.reduceSub, Array.replicate_succ, Array.replicate_zero, List.push_toArray, List.append_toArray, List.nil_append, List.cons_append]
    gi_wp2_with (first
      | ((try refine ⟨trivial, ?_⟩); (try refine ⟨hdd_ _, ?_⟩); gi_at_call 46; (with_reducible refine (callsIn_wide.2 hsz).mono ?_); rintro e w1 ⟨rfl, rfl⟩)
      | ((try refine ⟨trivial, ?_⟩); (try refine ⟨hdd_ _, ?_⟩); gi_at_call 49; refine ih1.mono ?_; clear ih1; rintro e W1 (⟨rfl, c0', fn, tmps, assign, body, hy, hR⟩ | ⟨rfl, q, hq, hx1⟩))
      | ((try refine ⟨trivial, ?_⟩); (try refine ⟨hdd_ _, ?_⟩); refine hR.mono ?_; clear hR; rintro e W2 (⟨rfl, hJ2, hb2, c2', hr2⟩ | ⟨rfl, hx2⟩))
      | ((try refine ⟨trivial, ?_⟩); (try refine ⟨hdd_ _, ?_⟩); gi_at_call 49; refine (ihr (n - 1) pr (k + (tl.sz : Int) + 1) _ _ hr2 hJ2 (by simp [HIL.out, HIL2.out]; omega) (by omega) (by omega)).mono ?_; rintro e W3 (⟨rfl, hJ3, hb3⟩ | ⟨rfl, q, hq, hx3⟩)))
    · go_ret
      exact .inl ⟨rfl, by rw [HN.out]; simpa [List.append_assoc] using hJ3, hb2.trans hb3⟩
    · go_ret
      obtain ⟨r, hr'⟩ := hq
      exact .inr ⟨rfl, idx k tl.toL ++ (k + (tl.sz : Int), v) :: q, ⟨r, by rw [HN.out, ← hr']; simp⟩, by simpa [List.append_assoc] using hx3⟩
    · refine ⟨trivial, ?_⟩
      gi_wp2
      go_ret
      exact .inr ⟨rfl, idx k tl.toL ++ [(k + (tl.sz : Int), v)], ⟨idx (k + (tl.sz : Int) + 1) tr.toL, by rw [HN.out]; simp⟩, by simpa [List.append_assoc] using hx2⟩
    · refine ⟨fun _ h => (by cases h), ?_⟩
      gi_wp2
      refine ⟨trivial, ?_⟩
      gi_wp2
      go_ret
      exact .inr ⟨rfl, q, hq.trans (by rw [HN.out]; exact List.prefix_append _ _), hx1⟩
set_option maxHeartbeats 2000000 in
theorem all1_in (S : Nat → Prop) (n lp Bt : Nat) (g : Nat) (q : Option Addr) (t : RT) (J Jx : List (Int × Int) → World → Prop)
    (hY : ∀ pre x W, J pre W → pre.length < t.sz → YieldAt Fence.wide (n - 1) Try.prog lp (encR x) W fun e W' =>
      (e = .returned (.bool true) ∧ J (pre ++ [x]) W' ∧ KeepS S W W') ∨ (e = .returned (.bool false) ∧ Jx (pre ++ [x]) W'))
    (W : World) (hBt : W.cell? ⟨Bt, 0, none⟩ = some (.pointer (some ⟨g, 0, none⟩))) (hg0 : W.cell? ⟨g, 0, none⟩ = some (.bool true)) (hg1 : W.cell? ⟨g, 1, none⟩ = some (.pointer q)) (hN : NodeIn S W q t) (hs : t.sz ≤ 800000000000000) (h0 : J [] W) :
    CallsIn Fence.wide n Try.prog 48 #[.func (.yield lp) #[] #[], .pointer (some ⟨Bt, 0, none⟩)] W fun e W' => (∃ v, e = .returned v) ∧
      ((∃ ys, ys = idx 0 t.toL ∧ J ys W') ∨ (∃ pre, pre <+: idx 0 t.toL ∧ Jx pre W')) := by
  have hno : Calls Try.prog 45 #[.pointer (some ⟨g, 0, none⟩)] W fun e w' => e = .returned (.bool false) ∧ W = w' := none_no (t := t) ⟨g, q, rfl, World.block_lt_of_cell? W _ hg0, hg0, hg1, hN.nd⟩
  have hp := walk_in S lp t.sz J Jx (fun m pre x W hj hl => YieldAt.anyDepthW m (hY pre x W hj hl)) t (n - 1) q 0 [] W hN h0 (by simp) (by omega) (by omega)
  clear hN
  refine callsIn_of_wp Try.func48 rfl trivial ?_ rfl
  simp only [Try.ntmps48, List.size_toArray, List.length_cons, List.length_nil, Nat.reduceAdd, Nat.reduceSub, Array.replicate_succ, Array.replicate_zero, List.push_toArray, List.append_toArray, List.nil_append, List.cons_append]
  gi_wp2_with (first
    | ((try refine ⟨trivial, ?_⟩); (try refine ⟨hdd_ _, ?_⟩); gi_at_call 45; (with_reducible refine (callsIn_wide.2 hno).mono ?_); rintro e w1 ⟨rfl, rfl⟩)
    | ((try refine ⟨trivial, ?_⟩); (try refine ⟨hdd_ _, ?_⟩); gi_at_call 49; refine hp.mono ?_; clear hp; rintro e W1 (⟨rfl, hJ1, _⟩ | ⟨rfl, q, hq, hx⟩)))
  · go_end0
    exact ⟨⟨_, rfl⟩, .inl ⟨_, rfl, by simpa using hJ1⟩⟩
  · go_end0
    exact ⟨⟨_, rfl⟩, .inr ⟨q, hq, by simpa using hx⟩⟩
set_option maxHeartbeats 2000000 in
theorem all1_no (n lp Bt : Nat) (p : Option Addr) (J Jx : List (Int × Int) → World → Prop) (W : World) (hBt : W.cell? ⟨Bt, 0, none⟩ = some (.pointer p)) (hw0 : NoR W p) (h0 : J [] W) :
    CallsIn Fence.wide n Try.prog 48 #[.func (.yield lp) #[] #[], .pointer (some ⟨Bt, 0, none⟩)] W fun e W' => (∃ v, e = .returned v) ∧
      ((∃ ys, ys = [] ∧ J ys W') ∨ (∃ pre, pre = [] ∧ Jx pre W')) := by
  have hno := none_yes hw0
  refine callsIn_of_wp Try.func48 rfl trivial ?_ rfl
  simp only [Try.ntmps48, List.size_toArray, List.length_cons, List.length_nil, Nat.reduceAdd, Nat.reduceSub, Array.replicate_succ, Array.replicate_zero, List.push_toArray, List.append_toArray, List.nil_append, List.cons_append]
  gi_wp2_with ((try refine ⟨trivial, ?_⟩); (try refine ⟨hdd_ _, ?_⟩); gi_at_call 45; (with_reducible refine (callsIn_wide.2 hno).mono ?_); rintro e w1 ⟨rfl, rfl⟩)
  go_end0
  exact ⟨⟨_, rfl⟩, .inl ⟨_, rfl, h0⟩⟩
theorem All_in (n : Nat) (p : Option Addr) (w : World) :
    CallsIn Fence.wide n Try.prog 21 #[.pointer p] w fun e w' => e = .returned (.func (.func 48) #[] #[.pointer (some ⟨w.heap.size, 0, none⟩)]) ∧ w' = w.alloc (.cells #[.pointer p] 27) := by
  refine callsIn_of_wp Try.func21 rfl trivial ?_ rfl
  simp only [Try.ntmps21, List.size_toArray, List.length_cons, List.length_nil, Nat.reduceAdd, Nat.reduceSub, Array.replicate_succ, Array.replicate_zero, List.push_toArray, List.append_toArray, List.nil_append, List.cons_append]
  gi_wp2
  go_ret
  exact ⟨rfl, rfl⟩
theorem All_calls (p : Option Addr) (w : World) : Calls Try.prog 21 #[.pointer p] w fun e w' => e = .returned (.func (.func 48) #[] #[.pointer (some ⟨w.heap.size, 0, none⟩)]) ∧ w' = w.alloc (.cells #[.pointer p] 27) :=
  (callsIn_wide (n := 3)).1 (All_in 3 p w)
/-- What All hands back: the places with their numbers, in their order; or as many as a loop would have. -/
theorem All_stops (S : Nat → Prop) (n : Nat) (Bt g : Nat) (q : Option Addr) (t : RT) (w : World) (hBt : w.cell? ⟨Bt, 0, none⟩ = some (.pointer (some ⟨g, 0, none⟩))) (hg0 : w.cell? ⟨g, 0, none⟩ = some (.bool true)) (hg1 : w.cell? ⟨g, 1, none⟩ = some (.pointer q)) (hN : NodeIn S w q t) (hS : ∀ k, S k → k < w.heap.size) (hs : t.sz ≤ 800000000000000) :
    SeqStopsK Fence.wide n Try.prog 48 #[.pointer (some ⟨Bt, 0, none⟩)] encR (KeepS S) (fun ys => ys = idx 0 t.toL) (fun pre => pre <+: idx 0 t.toL) t.sz w := fun l J Jx W hW _ _ hY h0 =>
  all1_in S n l Bt g q t J Jx hY W ((hW.cell (p := ⟨Bt, 0, none⟩) (World.block_lt_of_cell? w _ hBt)).trans hBt) ((hW.cell (p := ⟨g, 0, none⟩) (World.block_lt_of_cell? w _ hg0)).trans hg0) ((hW.cell (p := ⟨g, 1, none⟩) (World.block_lt_of_cell? w _ hg1)).trans hg1) (hN.keep (KeepS.of_below hW hS)) hs h0
theorem All_none (S : Nat → Prop) (n : Nat) (Bt : Nat) (p : Option Addr) (w : World) (hw : NoR w p) (hc : w.cell? ⟨Bt, 0, none⟩ = some (.pointer p)) :
    SeqStopsK Fence.wide n Try.prog 48 #[.pointer (some ⟨Bt, 0, none⟩)] encR (KeepS S) (fun ys => ys = []) (fun pre => pre = []) 0 w := fun l J Jx W hW _ _ hY h0 =>
  all1_no n l Bt p J Jx W ((hW.cell (p := ⟨Bt, 0, none⟩) (World.block_lt_of_cell? w _ hc)).trans hc) (hw.below hW) h0
end Go.Proofs.Ytenjldfflkinkaa.Rop
