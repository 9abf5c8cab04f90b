/- The texts FGRopUC, FGRopUD, FGRopUE, FGRopUF, FGRopUG, FGRopUH, FGRopUI, FGRopUK, FGRopUJ, in one: what the law does not need is left out. -/
import Derived.Test.YtenjldfflkinkaaTrB
import Derived.RangeFuncNested
import Derived.RangeFuncBound
import Derived.RangeFuncCalls
import Derived.RangeFuncLeaves
import Derived.RangeFuncBox
import Derived.Shelf.Abstract
import Derived.WalkKit
import Derived.OwnWalkIn
import Derived.TacticsInMore
import Derived.LoopNIn
import Derived.LoopIn
import Derived.Maps.AppendAt
import Derived.KernelRfl
import Derived.Test.YtenjldfflkinkaaProg
import Derived.Below
import Derived.Deep.Draws
import Derived.Deep.AppendLies
import Derived.OwnWalk
import Derived.Laws.BytesArg
import Derived.Laws.MakeOwn
import Derived.Laws.OwnMore
import Derived.Deep.OwnRows
import Derived.Tactics
import Derived.Lib.ConvBytes
import Derived.Laws.Slices
import Derived.RowKit3
import Derived.Deep.LoopGhost
import Derived.Deep.QuietTactic
import Derived.BigQuiet
import Derived.WideLaws
import Derived.Deep.DeepCutAuto
import Derived.Deep.CutBlock
import Derived.Deep.RegionHeld3
import Derived.Laws.Rows
import Derived.Lib.AppendStr
import Derived.ArgAppend
import Derived.Laws.IdiomCopy
import Derived.OrdersHeld
import Derived.Laws.BitsLemmas
import Derived.RowKit
import Derived.Test.YtenjldfflkinkaaWWords
import Derived.Test.YtenjldfflkinkaaWLast
import Derived.Test.YtenjldfflkinkaaWTab
import Derived.Test.YtenjldfflkinkaaWFour
import Derived.Test.YtenjldfflkinkaaWQPut
import Derived.Test.YtenjldfflkinkaaWApart
import Derived.Test.YtenjldfflkinkaaWArr
import Derived.Test.YtenjldfflkinkaaWZeros
import Derived.Test.YtenjldfflkinkaaWFoot
import Derived.Test.YtenjldfflkinkaaWKept
import Derived.Test.YtenjldfflkinkaaWShare
import Derived.Test.YtenjldfflkinkaaWN
import Derived.Test.YtenjldfflkinkaaWFootNe
import Derived.Test.YtenjldfflkinkaaWAt
import Derived.Test.YtenjldfflkinkaaWEqStruct
import Derived.Test.YtenjldfflkinkaaWRepsOne
import Derived.Test.YtenjldfflkinkaaWInv
import Derived.Test.YtenjldfflkinkaaWInvWords
import Derived.Test.YtenjldfflkinkaaWGuard
import Derived.Test.YtenjldfflkinkaaWNEv
import Derived.Test.YtenjldfflkinkaaWMore
import Derived.WalkSpells
import Derived.WalkLawsBesides
import Derived.StillTailTactics
import Derived.IntWalk
import Derived.Maps.OwnIn
import Derived.Test.YtenjldfflkinkaaWSized
import Derived.ProofKit
import Derived.OpenShut
import Derived.ShutString
import Derived.ChangeOld
import Derived.SizedLaws
import Derived.Lib.SmallJoins
import Derived.Stop.RegionWithIn
namespace Go.Proofs.Ytenjldfflkinkaa.Rop
set_option linter.unusedVariables false
set_option linter.unusedSimpArgs false
open Go.RowKit Go.Shelf Go.Proofs.Ytenjldfflkinkaa.F Go.Proofs.YtenjldfflkinkaaW.PrintWords Go.Proofs.YtenjldfflkinkaaW.PrintLast Go.Proofs.YtenjldfflkinkaaW.PrintMore
attribute [local go_sem] Oper.semAt_some
/-- a change, or what goes back -/
def Ch.way (back : Bool) (x : Ch) : Ch := if back = true then x.inv else x
/-- a text behind a change that may be done -/
def stepT (back : Bool) (t : List Int) (x : Ch) : Option (List Int) :=
  if fitsB t (x.way back) = true ∧ (x.way back).gone.all scl = true ∧ (x.way back).came.all scl = true ∧ (doneT t (x.way back)).length ≤ 4096 then some (doneT t (x.way back)) else none
def goesT (back : Bool) : List Int → List Ch → Option (List Int)
  | t, [] => some t
  | t, x :: xs => (stepT back t x).bind fun t' => goesT back t' xs
theorem goesT_snoc (back : Bool) : ∀ (t : List Int) (xs : List Ch) (x : Ch), goesT back t (xs ++ [x]) = (goesT back t xs).bind fun t' => stepT back t' x
  | t, [], x => by simp only [List.nil_append, goesT, Option.bind_some]; cases stepT back t x <;> rfl
  | t, y :: xs, x => by
    simp only [List.cons_append, goesT]
    cases stepT back t y with
    | none => rfl
    | some t' => simp only [Option.bind_some]; exact goesT_snoc back t' xs x
theorem goesT_prefix {back : Bool} {t : List Int} {pre all : List Ch} (h : pre <+: all) (hn : goesT back t pre = none) : goesT back t all = none := by
  obtain ⟨r, rfl⟩ := h
  induction r generalizing pre with
  | nil => rw [List.append_nil]; exact hn
  | cons x r ih =>
    have := ih (pre := pre ++ [x]) (by rw [goesT_snoc, hn]; rfl)
    rw [List.append_assoc] at this
    exact this
theorem Sl.cells {W W' : World} {A : Option Addr} {n c : Nat} {l : List Int} (hk : ∀ (a : Addr) (v : Value), W.cell? a = some v → W'.cell? a = some v) (h : Sl W A n c l) : Sl W' A n c l := by
  refine ⟨?_, h.hn, h.hc, h.hm⟩
  have hr := Kd.reads_of_C (d := (0 : Int)) h.hC
  refine Kd.C_of_reads (d := (0 : Int)) (h1 := fun _ => rfl) ⟨hr.1, hr.2.1, fun hp => ?_⟩
  obtain ⟨ad, he, hc⟩ := hr.2.2 hp
  exact ⟨ad, he, fun j hj => hk _ _ (hc j hj)⟩
theorem cell_grown {B : Nat} {W W' : World} {row : Option Nat} (hg : W.grownBy W' row) (hr : ∀ r, row = some r → B ≤ r ∧ ∃ o : Obj, W.heap[r]? = some o ∧ o.isCells = false) (a : Addr) (v : Value) (h : W.cell? a = some v) : W'.cell? a = some v := by
  have hl := World.block_lt_of_cell? W _ h
  have hne : some a.block ≠ row := fun e => by
    obtain ⟨_, o, ho, hc⟩ := hr a.block e.symm
    rw [World.cell?, ho] at h
    cases o <;> simp_all [Obj.isCells]
  have := hg.block a.block hl hne
  simp only [World.cell?, this]
  exact h
theorem blk_grown {B : Nat} {W W' : World} {row : Option Nat} (hg : W.grownBy W' row) (hr : ∀ r, row = some r → B ≤ r ∧ ∃ o : Obj, W.heap[r]? = some o ∧ o.isCells = false) {g t : Nat} {cur : Array Value} {z : Nat × Nat} (h : W.heap[g]? = some (.cells cur t z)) : W'.heap[g]? = some (.cells cur t z) := by
  have hne : some g ≠ row := fun e => by
    obtain ⟨_, o, ho, hc⟩ := hr g e.symm
    rw [h] at ho
    injection ho with ho
    subst ho
    simp [Obj.isCells] at hc
  exact (hg.block g (Array.getElem?_eq_some_iff.1 h).1 hne).trans h
theorem fits_q {w : World} {A B D : Option Addr} {n c m d q r : Nat} {p : Int} {text : List Int} {x : Ch} {b : Bool} (h : Sl w A n c text) (hx : ChV w p B m d D q r x) (hq : fitsB text x = b) (hb : n ≤ 1000000) (hm : m ≤ 1000000) :
    Calls Try.prog 72 #[.slice A n c, .agg #[.int .i64 p, .slice B m d, .slice D q r]] w fun e w' => e = .returned (.bool b) ∧ Below w.heap.size w w' := by
  rw [← hq]
  exact fits_calls h hx hb hm
theorem scalars_q {w : World} {A : Option Addr} {n c : Nat} {l : List Int} {b : Bool} (h : Sl w A n c l) (hq : l.all scl = b) (hb : n ≤ 1000000) : Calls Try.prog 60 #[.slice A n c] w fun e w' => e = .returned (.bool b) ∧ w = w' := by
  rw [← hq]
  exact scalars_calls h hb
/-- what stands between two rounds of goes -/
def GoI {len : Nat} (w W0 : World) (g3 g5 g6 : Nat) (back : Bool) (text : List Int) (xs : Nat → Ch) (pre : List (Fin len)) (W : World) : Prop :=
  (∃ A n c tc, goesT back text (pre.map fun j => xs j.1) = some tc ∧ Boxed W g3 23 (.slice A n c) ∧ Sl W A n c tc ∧ n ≤ 4096) ∧ Boxed W g5 4 (.bool back) ∧ Boxed W g6 4 (.bool false) ∧ W0.heap.size ≤ W.heap.size ∧ Below w.heap.size w W
def GoX {len : Nat} (w : World) (g6 : Nat) (back : Bool) (text : List Int) (xs : Nat → Ch) (cd : Code) (pre : List (Fin len)) (W : World) : Prop :=
  cd = .ret ∧ goesT back text (pre.map fun j => xs j.1) = none ∧ Boxed W g6 4 (.bool false) ∧ Below w.heap.size w W
theorem GoI.own {len : Nat} {w W0 : World} {g3 g5 g6 : Nat} {back : Bool} {text : List Int} {xs : Nat → Ch} {B : Nat} (hB : w.heap.size ≤ B) : OwnFrom B (GoI (len := len) w W0 g3 g5 g6 back text xs) := by
  rintro pre W W' row ⟨⟨A, n, c, tc, h1, h2, h3, h4⟩, h5, h6, h7, h8⟩ hg hr
  exact ⟨⟨A, n, c, tc, h1, blk_grown hg hr h2, h3.cells (cell_grown hg hr), h4⟩, blk_grown hg hr h5, blk_grown hg hr h6, Nat.le_trans h7 hg.size, ownFrom_below (β := Unit) (Nat.le_refl _) hB () W W' row h8 hg hr⟩
theorem GoX.own {len : Nat} {w : World} {g6 : Nat} {back : Bool} {text : List Int} {xs : Nat → Ch} {B : Nat} (hB : w.heap.size ≤ B) (cd : Code) : OwnFrom B (GoX (len := len) w g6 back text xs cd) := by
  rintro pre W W' row ⟨h1, h2, h3, h4⟩ hg hr
  exact ⟨h1, h2, blk_grown hg hr h3, ownFrom_below (β := Unit) (Nat.le_refl _) hB () W W' row h4 hg hr⟩
/-- the change of a round, in its box -/
def Box8 (g8 : Nat) (p : Int) (A : Option Addr) (n c : Nat) (B : Option Addr) (m d : Nat) (W : World) : Prop := W.heap[g8]? = some (.cells #[.int .i64 p, .slice A n c, .slice B m d] 32 (0, 0))
theorem noI_slv (A : Option Addr) (n c : Nat) : ∀ (i : Nat) (v : Value), (#[Value.slice A n c] : Array Value)[i]? = some v → NoI v := by
  intro i v h
  match i with
  | 0 => simp at h; subst h; exact noI_sl _ _ _
  | i + 1 => simp at h
theorem set3_blk {W : World} {h t : Nat} {x0 x1 x2 a b c : Value} (hh : W.heap[h]? = some (.cells #[x0, x1, x2] t (0, 0))) : (((W.setCell ⟨h, 0, none⟩ a).setCell ⟨h, 1, none⟩ b).setCell ⟨h, 2, none⟩ c).heap[h]? = some (.cells #[a, b, c] t (0, 0)) := by
  have h1 := blk_set hh 0 a
  have h2 := blk_set h1 1 b
  have h3 := blk_set h2 2 c
  exact h3
theorem KeepsOthers.below {n : Nat} {W W' : World} (h : Below W.heap.size W W') : KeepsOthers W W' := ⟨h.size, fun k o hk _ => (h.block k (Array.getElem?_eq_some_iff.1 hk).1).trans hk⟩
theorem ownFrom_alloc {β : Type} {B : Nat} {I : β → World → Prop} (h : OwnFrom B I) {s : β} {W : World} (hs : I s W) (o : Obj) : I s (W.alloc o) := h s W _ none hs (World.grownBy_alloc W o none) (fun r e => by cases e)
set_option maxRecDepth 100000 in
set_option maxHeartbeats 8000000 in
theorem goes_calls {w : World} {A A1 : Option Addr} {n c n1 c1 : Nat} {text : List Int} {vs : Nat → CV} {xs : Nat → Ch} {back : Bool} (h : Sl w A n c text) (hR : Rc w A1 n1 c1 vs xs) (hn : n ≤ 4096) (hn1 : n1 ≤ 1000) (hv : ∀ i, i < n1 → (vs i).n ≤ 5000 ∧ (vs i).m ≤ 5000) :
    Calls Try.prog 61 #[.slice A n c, .slice A1 n1 c1, .bool back] w fun e w' => e = .returned (.bool (goesT back text ((dn n1 (Nat.le_refl n1)).map fun j => xs j.1)).isSome) ∧ Below w.heap.size w w' := by
  have H := Aside0.mk h
  have HR := Aside0.mk hR
  have HV := Aside0.mk hv
  clear h hR hv
  refine (callsIn_wide (n := 5)).1 ?_
  refine callsIn_of_wp_marks Try.func61 rfl trivial ?_ rfl
  simp only [Try.ntmps61, List.size_toArray, List.length_cons, List.length_nil, Nat.reduceAdd, Nat.reduceSub, Array.replicate_succ, Array.replicate_zero, List.push_toArray, List.append_toArray, List.nil_append, List.cons_append]
  gi_wp2_with ((try refine ⟨trivial, ?_⟩); gi_at_call 71; refine (Back_in _ _ _ _ _).mono ?_; rintro e w' ⟨rfl, rfl⟩)
  obtain ⟨W0, hW0⟩ : ∃ W0, ((((w.alloc (Obj.cells #[Value.slice A n c] 23)).alloc (Obj.cells #[Value.bool back] 4)).alloc (Obj.cells #[Value.bool false] 4)).alloc (Obj.cells #[Value.slice A1 n1 c1] 24)) = W0 := ⟨_, rfl⟩
  have X3 : Boxed W0 w.heap.size 23 (.slice A n c) := by rw [← hW0]; exact (((Boxed.new w _ _).alloc _).alloc _).alloc _
  have X5 : Boxed W0 (w.heap.size + 1) 4 (.bool back) := by
    have := Boxed.new (w.alloc (Obj.cells #[Value.slice A n c] 23)) 4 (.bool back)
    rw [World.size_alloc] at this
    rw [← hW0]; exact (this.alloc _).alloc _
  have X6 : Boxed W0 (w.heap.size + 1 + 1) 4 (.bool false) := by
    have := Boxed.new ((w.alloc (Obj.cells #[Value.slice A n c] 23)).alloc (Obj.cells #[Value.bool back] 4)) 4 (.bool false)
    rw [World.size_alloc, World.size_alloc] at this
    rw [← hW0]; exact this.alloc _
  have Xs : Boxed W0 (w.heap.size + 1 + 1 + 1) 24 (.slice A1 n1 c1) := by
    have := Boxed.new (((w.alloc (Obj.cells #[Value.slice A n c] 23)).alloc (Obj.cells #[Value.bool back] 4)).alloc (Obj.cells #[Value.bool false] 4)) 24 (.slice A1 n1 c1)
    rw [World.size_alloc, World.size_alloc, World.size_alloc] at this
    rw [← hW0]; exact this
  have hB0 : Below w.heap.size w W0 := by rw [← hW0]; exact below_alloc (below_alloc (below_alloc ((Below.refl _ _).alloc (Nat.le_refl _) _) _) _) _
  rw [hW0]
  clear hW0
  obtain ⟨gs, hgs⟩ : ∃ g, w.heap.size + 1 + 1 + 1 = g := ⟨_, rfl⟩
  obtain ⟨g6, hg6⟩ : ∃ g, w.heap.size + 1 + 1 = g := ⟨_, rfl⟩
  obtain ⟨g5, hg5⟩ : ∃ g, w.heap.size + 1 = g := ⟨_, rfl⟩
  obtain ⟨g3, hg3⟩ : ∃ g, w.heap.size = g := ⟨_, rfl⟩
  rw [hgs] at Xs ⊢
  rw [hg6] at X6 ⊢
  rw [hg5] at X5 ⊢
  rw [hg3] at X3
  rw [show Value.pointer (some ⟨w.heap.size, 0, none⟩) = Value.pointer (some ⟨g3, 0, none⟩) from by rw [hg3]]
  have HG := Aside0.mk (show g3 = w.heap.size ∧ g5 = w.heap.size + 1 ∧ g6 = w.heap.size + 2 ∧ gs = w.heap.size + 3 from ⟨by omega, by omega, by omega, by omega⟩)
  have hgl : gs < W0.heap.size := Xs.lt
  have HGL := Aside0.mk hgl
  clear hgs hg6 hg5 hg3
  have hI0 : GoI (len := n1) w W0 g3 g5 g6 back text xs [] W0 := ⟨⟨A, n, c, text, rfl, X3, H.out.below (by have := hB0; exact this), hn⟩, X5, X6, Nat.le_refl _, hB0⟩
  have hwW0 : w.heap.size ≤ W0.heap.size := hB0.size
  have hS0 : ∀ k, InB w.heap.size gs k → k < W0.heap.size := fun k hk => by rcases hk with hk | hk <;> omega
  have HB0 := Aside0.mk hB0
  refine wpIn_rangeFunc_ownH rfl (by omega) (gf := 81) (lb := #[.pointer (some ⟨gs, 0, none⟩)]) rfl trivial (enters_of Try.func81 (by kernel_rfl) rfl)
    (Back_stops _ gs n1 c1 A1 vs xs w W0 HR.out (by omega) hB0 Xs.cell) keepS_t (keepS_b hS0) (Below.refl _ _) (fun _ => rfl)
    (GoI (len := n1) w W0 g3 g5 g6 back text xs) (GoX (len := n1) w g6 back text xs) (GoI.own hwW0) (GoX.own hwW0) hI0
    (fun x a' W => ∃ g8, a' = { tmps := #[Value.slice A n c, Value.slice A1 n1 c1, Value.bool back, Value.pointer (some ⟨g3, 0, none⟩), undef, Value.pointer (some ⟨g5, 0, none⟩), Value.pointer (some ⟨g6, 0, none⟩), undef, Value.pointer (some ⟨g8, 0, none⟩), Value.slice A1 n1 c1, Value.func (.func 81) #[] #[Value.pointer (some ⟨gs, 0, none⟩)], Value.int .i64 (x.1 : Int), (vs x.1).val, undef, undef, undef, undef, undef, undef, undef, undef, undef, undef, undef, undef, undef, undef, undef, undef, undef, undef, undef, undef, undef, undef, undef, undef, undef], defers := [] } ∧ W0.heap.size ≤ g8 ∧ Box8 g8 (vs x.1).p (vs x.1).A (vs x.1).n (vs x.1).c (vs x.1).B (vs x.1).m (vs x.1).d W)
    ?hAx ?assign ?body ?done ?stop
  case hAx =>
    rintro x a' _ W W' row ⟨g8, h1, h2, h3⟩ hg hr
    exact ⟨g8, h1, h2, blk_grown hg hr h3⟩
  case assign =>
    intro lp pre x W K hI hK
    dsimp only [encC, CV.val]
    gi_wp2
    exact hK _ _ ((KeepsOthers.alloc W _).from _) (fun k hk => Below.heap_alloc W _ k (by have := hS0 k hk; have := hI.2.2.2.1; omega)) (ownFrom_alloc (GoI.own hwW0) hI _) ⟨W.heap.size, rfl, hI.2.2.2.1, World.alloc_heap_new W _⟩
  case body =>
    rintro lp pre x a' W hlp hloop ⟨⟨A2, n2, c2, tc, hgo, hb3, hS, hn2⟩, hb5, hb6, hsz, hB⟩ ⟨g8, rfl, hg8, hx8⟩ hlt
    have hch := HR.out.at_ x.1 x.2
    have hvx := HV.out x.1 x.2
    obtain ⟨ad, _, hat⟩ := hch
    have hV0 := hat.h.below hB
    have hgo2 : goesT back text ((pre ++ [x]).map fun j => xs j.1) = stepT back tc (xs x.1) := by
      rw [List.map_append, List.map_singleton, goesT_snoc, hgo]; rfl
    have HGO := Aside0.mk hgo2
    dsimp only [CV.val]
    generalize vs x.1 = v at hx8 hV0 hvx ⊢
    generalize xs x.1 = y at hV0 HGO
    obtain ⟨p, A3, n3, c3, B3, m3, d3⟩ := v
    dsimp only at hx8 hV0 hvx ⊢
    have hG := HG.out
    have n83 : g3 ≠ g8 := by omega
    have n85 : g5 ≠ g8 := by omega
    have n86 : g6 ≠ g8 := by omega
    have n8s : gs ≠ g8 := by omega
    have n36 : g6 ≠ g3 := by omega
    have n35 : g5 ≠ g3 := by omega
    have le8 : w.heap.size ≤ g8 := by omega
    have le3 : w.heap.size ≤ g3 := by omega
    have le6 : w.heap.size ≤ g6 := by omega
    have c5 := Boxed.cell hb5
    have hvn := hvx.1
    have hvm := hvx.2
    have HS := Aside0.mk hS
    have HV0 := Aside0.mk hV0
    have HB3 := Aside0.mk hb3
    have HB6 := Aside0.mk hb6
    have HB5 := Aside0.mk hb5
    have HX8 := Aside0.mk hx8
    have HBW := Aside0.mk hB
    have HSZ := Aside0.mk hsz
    clear hvx hat hgo hgo2 hS hV0 hb3 hb6 hb5 hx8 hB hG hsz
    cases back
    case false =>
      have V2 : Aside0 (ChV W p A3 n3 c3 B3 m3 d3 (y.way false)) := HV0
      have S2 := HS
      have BX2 := HB3
      have B52 := HB5
      have B62 := HB6
      have K2 := Aside0.mk (KeepsFrom.refl W0.heap.size W)
      have KS2 := Aside0.mk (KeepS.refl (InB w.heap.size gs) W)
      have Z2 := HSZ
      have BW2 := HBW
      have L2 := Aside0.mk (show n3 ≤ 5000 ∧ m3 ≤ 5000 from ⟨hvn, hvm⟩)
      have X82 := HX8
      have e0 : W.cell? ⟨g8, 0, none⟩ = some (.int .i64 p) := blk_cell HX8.out
      have e1 : W.cell? ⟨g8, 1, none⟩ = some (.slice A3 n3 c3) := blk_cell HX8.out
      have e2 : W.cell? ⟨g8, 2, none⟩ = some (.slice B3 m3 d3) := blk_cell HX8.out
      have c3_ := Boxed.cell HB3.out
      by_cases h1 : fitsB tc (y.way false) = true
      · have H1 := Aside0.mk h1
        by_cases h2 : (y.way false).gone.all scl = true
        · by_cases h3 : (y.way false).came.all scl = true
          · by_cases h4 : (doneT tc (y.way false)).length ≤ 4096
            · have ST := Aside0.mk (show stepT false tc y = some (doneT tc (y.way false)) from if_pos ⟨h1, h2, h3, h4⟩)
              have H4 := Aside0.mk h4
              have H2 := Aside0.mk h2
              have H3 := Aside0.mk h3
              clear h4 h2 h3
              gi_wp2_with (first
                            | ((try refine ⟨trivial, ?_⟩); (try refine ⟨hdd_ _, ?_⟩); gi_at_call 72; (with_reducible refine (CallsIn.inRound lp (callsIn_wide.2 (fits_q S2.out V2.out h1 (by omega) (by have := L2.out; omega)))).mono ?_); rintro e W3 ⟨rfl, hb⟩; have V3 := Aside0.mk (V2.out.below hb); have S3 := Aside0.mk (S2.out.below hb); have BX3 : Aside0 (Boxed W3 g3 23 (.slice A2 n2 c2)) := ⟨(hb.block _ BX2.out.lt).trans BX2.out⟩; have B53 : Aside0 (Boxed W3 g5 4 (.bool false)) := ⟨(hb.block _ B52.out.lt).trans B52.out⟩; have b63 : Boxed W3 g6 4 (.bool false) := (hb.block _ B62.out.lt).trans B62.out; have B63 := Aside0.mk b63; have c6_3 := Boxed.cell b63; have f6_3 := Boxed.frozen b63; have x83 := (hb.block _ (Array.getElem?_eq_some_iff.1 X82.out).1).trans X82.out; have y0_3 := blk_cell (j := 0) x83; have y1_3 := blk_cell (j := 1) x83; have y2_3 := blk_cell (j := 2) x83; have c3_3 := Boxed.cell BX3.out; have K3 := Aside0.mk (K2.out.trans ((KeepsOthers.below (n := 0) hb).from _)); have KS3 := Aside0.mk (KS2.out.trans (KeepS.of_below hb (fun k hk => Nat.lt_of_lt_of_le (hS0 k hk) Z2.out))); have Z3 := Aside0.mk (Nat.le_trans Z2.out hb.size); have BW3 := Aside0.mk (below_step BW2.out hb); clear hb b63 x83)
                            | ((try refine ⟨trivial, ?_⟩); (try refine ⟨hdd_ _, ?_⟩); gi_at_call 60; (with_reducible refine (CallsIn.inRound lp (callsIn_wide.2 (scalars_q V3.out.g H2.out (by have := L2.out; omega)))).mono ?_); rintro e w' ⟨rfl, rfl⟩)
                            | ((try refine ⟨trivial, ?_⟩); (try refine ⟨hdd_ _, ?_⟩); gi_at_call 60; (with_reducible refine (CallsIn.inRound lp (callsIn_wide.2 (scalars_q V3.out.k H3.out (by have := L2.out; omega)))).mono ?_); rintro e w' ⟨rfl, rfl⟩)
                            | ((try refine ⟨trivial, ?_⟩); (try refine ⟨hdd_ _, ?_⟩); gi_at_call 39; (with_reducible refine (CallsIn.inRound lp (callsIn_wide.2 (done_calls S3.out V3.out h1 (by omega) (by have := L2.out; omega)))).mono ?_); rintro e W4 ⟨A5, n5, c5_, rfl, hS5, hb⟩; have b34 : Boxed W4 g3 23 (.slice A2 n2 c2) := (hb.block _ BX3.out.lt).trans BX3.out; have c3_4 := Boxed.cell b34; have f3_4 := Boxed.frozen b34; have hno := blk_noI b34 (noI_slv A2 n2 c2); have S5 : Aside0 (Sl (W4.setCell ⟨g3, 0, none⟩ (.slice A5 n5 c5_)) A5 n5 c5_ (doneT tc (y.way false))) := ⟨hS5.only hno (fun k _ hk => Below.heap_setCell _ ⟨g3, 0, none⟩ _ k hk)⟩; have BX5 := Aside0.mk (Boxed.set (.slice A5 n5 c5_) b34); have B55 := Aside0.mk (Boxed.other (show Boxed W4 g5 4 (.bool false) from (hb.block _ B53.out.lt).trans B53.out) n35 (.slice A5 n5 c5_)); have b65 := Boxed.other (show Boxed W4 g6 4 (.bool false) from (hb.block _ B63.out.lt).trans B63.out) n36 (.slice A5 n5 c5_); have B65 := Aside0.mk b65; have c6_5 := Boxed.cell b65; have f6_5 := Boxed.frozen b65; have c3_5 := Boxed.cell BX5.out; have K5 := Aside0.mk ((K3.out.trans ((KeepsOthers.below (n := 0) hb).from _)).trans ((KeepsOthers.setCell W4 ⟨g3, 0, none⟩ (.slice A5 n5 c5_)).from _)); have KS5 : Aside0 (KeepS (InB w.heap.size gs) W (W4.setCell ⟨g3, 0, none⟩ (.slice A5 n5 c5_))) := ⟨(KS3.out.trans (KeepS.of_below hb (fun k hk => Nat.lt_of_lt_of_le (hS0 k hk) Z3.out))).trans (fun k hk => Below.heap_setCell _ ⟨g3, 0, none⟩ _ k (by have h3 := HG.out; show k ≠ g3; rcases hk with hk | hk <;> omega))⟩; have Z5 : Aside0 (W0.heap.size ≤ (W4.setCell ⟨g3, 0, none⟩ (.slice A5 n5 c5_)).heap.size) := ⟨by simp; exact Nat.le_trans Z3.out hb.size⟩; have BW5 := Aside0.mk ((below_step BW3.out hb).setCell (p := ⟨g3, 0, none⟩) le3 (.slice A5 n5 c5_)); have N5 := Aside0.mk hS5.hn; clear hb b34 b65 hno hS5; have h5 : decide ((4096 : Int) < (n5 : Int)) = false := decide_eq_false (by have := N5.out; have := H4.out; omega)))
              refine ⟨K5.out, KS5.out, ⟨A5, n5, c5_, _, HGO.out.trans ST.out, BX5.out, S5.out, by have := N5.out; have := H4.out; omega⟩, B55.out, B65.out, Z5.out, BW5.out⟩
            · have ST := Aside0.mk (show stepT false tc y = none from if_neg (fun h => h4 h.2.2.2))
              have H4 := Aside0.mk h4
              have H2 := Aside0.mk h2
              have H3 := Aside0.mk h3
              clear h4 h2 h3
              gi_wp2_with (first
                      | ((try refine ⟨trivial, ?_⟩); (try refine ⟨hdd_ _, ?_⟩); gi_at_call 72; (with_reducible refine (CallsIn.inRound lp (callsIn_wide.2 (fits_q S2.out V2.out h1 (by omega) (by have := L2.out; omega)))).mono ?_); rintro e W3 ⟨rfl, hb⟩; have V3 := Aside0.mk (V2.out.below hb); have S3 := Aside0.mk (S2.out.below hb); have BX3 : Aside0 (Boxed W3 g3 23 (.slice A2 n2 c2)) := ⟨(hb.block _ BX2.out.lt).trans BX2.out⟩; have B53 : Aside0 (Boxed W3 g5 4 (.bool false)) := ⟨(hb.block _ B52.out.lt).trans B52.out⟩; have b63 : Boxed W3 g6 4 (.bool false) := (hb.block _ B62.out.lt).trans B62.out; have B63 := Aside0.mk b63; have c6_3 := Boxed.cell b63; have f6_3 := Boxed.frozen b63; have x83 := (hb.block _ (Array.getElem?_eq_some_iff.1 X82.out).1).trans X82.out; have y0_3 := blk_cell (j := 0) x83; have y1_3 := blk_cell (j := 1) x83; have y2_3 := blk_cell (j := 2) x83; have c3_3 := Boxed.cell BX3.out; have K3 := Aside0.mk (K2.out.trans ((KeepsOthers.below (n := 0) hb).from _)); have KS3 := Aside0.mk (KS2.out.trans (KeepS.of_below hb (fun k hk => Nat.lt_of_lt_of_le (hS0 k hk) Z2.out))); have Z3 := Aside0.mk (Nat.le_trans Z2.out hb.size); have BW3 := Aside0.mk (below_step BW2.out hb); clear hb b63 x83)
                      | ((try refine ⟨trivial, ?_⟩); (try refine ⟨hdd_ _, ?_⟩); gi_at_call 60; (with_reducible refine (CallsIn.inRound lp (callsIn_wide.2 (scalars_q V3.out.g H2.out (by have := L2.out; omega)))).mono ?_); rintro e w' ⟨rfl, rfl⟩)
                      | ((try refine ⟨trivial, ?_⟩); (try refine ⟨hdd_ _, ?_⟩); gi_at_call 60; (with_reducible refine (CallsIn.inRound lp (callsIn_wide.2 (scalars_q V3.out.k H3.out (by have := L2.out; omega)))).mono ?_); rintro e w' ⟨rfl, rfl⟩)
                      | ((try refine ⟨trivial, ?_⟩); (try refine ⟨hdd_ _, ?_⟩); gi_at_call 39; (with_reducible refine (CallsIn.inRound lp (callsIn_wide.2 (done_calls S3.out V3.out h1 (by omega) (by have := L2.out; omega)))).mono ?_); rintro e W4 ⟨A5, n5, c5_, rfl, hS5, hb⟩; have b34 : Boxed W4 g3 23 (.slice A2 n2 c2) := (hb.block _ BX3.out.lt).trans BX3.out; have c3_4 := Boxed.cell b34; have f3_4 := Boxed.frozen b34; have hno := blk_noI b34 (noI_slv A2 n2 c2); have S5 : Aside0 (Sl (W4.setCell ⟨g3, 0, none⟩ (.slice A5 n5 c5_)) A5 n5 c5_ (doneT tc (y.way false))) := ⟨hS5.only hno (fun k _ hk => Below.heap_setCell _ ⟨g3, 0, none⟩ _ k hk)⟩; have BX5 := Aside0.mk (Boxed.set (.slice A5 n5 c5_) b34); have B55 := Aside0.mk (Boxed.other (show Boxed W4 g5 4 (.bool false) from (hb.block _ B53.out.lt).trans B53.out) n35 (.slice A5 n5 c5_)); have b65 := Boxed.other (show Boxed W4 g6 4 (.bool false) from (hb.block _ B63.out.lt).trans B63.out) n36 (.slice A5 n5 c5_); have B65 := Aside0.mk b65; have c6_5 := Boxed.cell b65; have f6_5 := Boxed.frozen b65; have c3_5 := Boxed.cell BX5.out; have K5 := Aside0.mk ((K3.out.trans ((KeepsOthers.below (n := 0) hb).from _)).trans ((KeepsOthers.setCell W4 ⟨g3, 0, none⟩ (.slice A5 n5 c5_)).from _)); have KS5 : Aside0 (KeepS (InB w.heap.size gs) W (W4.setCell ⟨g3, 0, none⟩ (.slice A5 n5 c5_))) := ⟨(KS3.out.trans (KeepS.of_below hb (fun k hk => Nat.lt_of_lt_of_le (hS0 k hk) Z3.out))).trans (fun k hk => Below.heap_setCell _ ⟨g3, 0, none⟩ _ k (by have h3 := HG.out; show k ≠ g3; rcases hk with hk | hk <;> omega))⟩; have Z5 : Aside0 (W0.heap.size ≤ (W4.setCell ⟨g3, 0, none⟩ (.slice A5 n5 c5_)).heap.size) := ⟨by simp; exact Nat.le_trans Z3.out hb.size⟩; have BW5 := Aside0.mk ((below_step BW3.out hb).setCell (p := ⟨g3, 0, none⟩) le3 (.slice A5 n5 c5_)); have N5 := Aside0.mk hS5.hn; clear hb b34 b65 hno hS5; have h5 : decide ((4096 : Int) < (n5 : Int)) = true := decide_eq_true (by have := N5.out; have := H4.out; omega)))
              refine ⟨K5.out.trans ((KeepsOthers.setCell _ _ _).from _), rfl, HGO.out.trans ST.out, Boxed.set _ B65.out, BW5.out.setCell (p := ⟨g6, 0, none⟩) le6 _⟩
          · have ST := Aside0.mk (show stepT false tc y = none from if_neg (fun h => h3 h.2.2.1))
            have H3 := Aside0.mk (Bool.eq_false_iff.2 h3)
            have H2 := Aside0.mk h2
            clear h2 h3
            gi_wp2_with (first
                    | ((try refine ⟨trivial, ?_⟩); (try refine ⟨hdd_ _, ?_⟩); gi_at_call 72; (with_reducible refine (CallsIn.inRound lp (callsIn_wide.2 (fits_q S2.out V2.out h1 (by omega) (by have := L2.out; omega)))).mono ?_); rintro e W3 ⟨rfl, hb⟩; have V3 := Aside0.mk (V2.out.below hb); have S3 := Aside0.mk (S2.out.below hb); have BX3 : Aside0 (Boxed W3 g3 23 (.slice A2 n2 c2)) := ⟨(hb.block _ BX2.out.lt).trans BX2.out⟩; have B53 : Aside0 (Boxed W3 g5 4 (.bool false)) := ⟨(hb.block _ B52.out.lt).trans B52.out⟩; have b63 : Boxed W3 g6 4 (.bool false) := (hb.block _ B62.out.lt).trans B62.out; have B63 := Aside0.mk b63; have c6_3 := Boxed.cell b63; have f6_3 := Boxed.frozen b63; have x83 := (hb.block _ (Array.getElem?_eq_some_iff.1 X82.out).1).trans X82.out; have y0_3 := blk_cell (j := 0) x83; have y1_3 := blk_cell (j := 1) x83; have y2_3 := blk_cell (j := 2) x83; have c3_3 := Boxed.cell BX3.out; have K3 := Aside0.mk (K2.out.trans ((KeepsOthers.below (n := 0) hb).from _)); have KS3 := Aside0.mk (KS2.out.trans (KeepS.of_below hb (fun k hk => Nat.lt_of_lt_of_le (hS0 k hk) Z2.out))); have Z3 := Aside0.mk (Nat.le_trans Z2.out hb.size); have BW3 := Aside0.mk (below_step BW2.out hb); clear hb b63 x83)
                    | ((try refine ⟨trivial, ?_⟩); (try refine ⟨hdd_ _, ?_⟩); gi_at_call 60; (with_reducible refine (CallsIn.inRound lp (callsIn_wide.2 (scalars_q V3.out.g H2.out (by have := L2.out; omega)))).mono ?_); rintro e w' ⟨rfl, rfl⟩)
                    | ((try refine ⟨trivial, ?_⟩); (try refine ⟨hdd_ _, ?_⟩); gi_at_call 60; (with_reducible refine (CallsIn.inRound lp (callsIn_wide.2 (scalars_q V3.out.k H3.out (by have := L2.out; omega)))).mono ?_); rintro e w' ⟨rfl, rfl⟩))
            refine ⟨K3.out.trans ((KeepsOthers.setCell _ _ _).from _), rfl, HGO.out.trans ST.out, Boxed.set _ B63.out, BW3.out.setCell (p := ⟨g6, 0, none⟩) le6 _⟩
        · have ST := Aside0.mk (show stepT false tc y = none from if_neg (fun h => h2 h.2.1))
          have H2 := Aside0.mk (Bool.eq_false_iff.2 h2)
          clear h2
          gi_wp2_with (first
                  | ((try refine ⟨trivial, ?_⟩); (try refine ⟨hdd_ _, ?_⟩); gi_at_call 72; (with_reducible refine (CallsIn.inRound lp (callsIn_wide.2 (fits_q S2.out V2.out h1 (by omega) (by have := L2.out; omega)))).mono ?_); rintro e W3 ⟨rfl, hb⟩; have V3 := Aside0.mk (V2.out.below hb); have S3 := Aside0.mk (S2.out.below hb); have BX3 : Aside0 (Boxed W3 g3 23 (.slice A2 n2 c2)) := ⟨(hb.block _ BX2.out.lt).trans BX2.out⟩; have B53 : Aside0 (Boxed W3 g5 4 (.bool false)) := ⟨(hb.block _ B52.out.lt).trans B52.out⟩; have b63 : Boxed W3 g6 4 (.bool false) := (hb.block _ B62.out.lt).trans B62.out; have B63 := Aside0.mk b63; have c6_3 := Boxed.cell b63; have f6_3 := Boxed.frozen b63; have x83 := (hb.block _ (Array.getElem?_eq_some_iff.1 X82.out).1).trans X82.out; have y0_3 := blk_cell (j := 0) x83; have y1_3 := blk_cell (j := 1) x83; have y2_3 := blk_cell (j := 2) x83; have c3_3 := Boxed.cell BX3.out; have K3 := Aside0.mk (K2.out.trans ((KeepsOthers.below (n := 0) hb).from _)); have KS3 := Aside0.mk (KS2.out.trans (KeepS.of_below hb (fun k hk => Nat.lt_of_lt_of_le (hS0 k hk) Z2.out))); have Z3 := Aside0.mk (Nat.le_trans Z2.out hb.size); have BW3 := Aside0.mk (below_step BW2.out hb); clear hb b63 x83)
                  | ((try refine ⟨trivial, ?_⟩); (try refine ⟨hdd_ _, ?_⟩); gi_at_call 60; (with_reducible refine (CallsIn.inRound lp (callsIn_wide.2 (scalars_q V3.out.g H2.out (by have := L2.out; omega)))).mono ?_); rintro e w' ⟨rfl, rfl⟩))
          refine ⟨trivial, ?_⟩
          gi_wp2
          refine ⟨K3.out.trans ((KeepsOthers.setCell _ _ _).from _), rfl, HGO.out.trans ST.out, Boxed.set _ B63.out, BW3.out.setCell (p := ⟨g6, 0, none⟩) le6 _⟩
      · have ST := Aside0.mk (show stepT false tc y = none from if_neg (fun h => h1 h.1))
        have H1 := Aside0.mk (Bool.eq_false_iff.2 h1)
        clear h1
        gi_wp2_with (first
                | ((try refine ⟨trivial, ?_⟩); (try refine ⟨hdd_ _, ?_⟩); gi_at_call 72; (with_reducible refine (CallsIn.inRound lp (callsIn_wide.2 (fits_q S2.out V2.out H1.out (by omega) (by have := L2.out; omega)))).mono ?_); rintro e W3 ⟨rfl, hb⟩; have V3 := Aside0.mk (V2.out.below hb); have S3 := Aside0.mk (S2.out.below hb); have BX3 : Aside0 (Boxed W3 g3 23 (.slice A2 n2 c2)) := ⟨(hb.block _ BX2.out.lt).trans BX2.out⟩; have B53 : Aside0 (Boxed W3 g5 4 (.bool false)) := ⟨(hb.block _ B52.out.lt).trans B52.out⟩; have b63 : Boxed W3 g6 4 (.bool false) := (hb.block _ B62.out.lt).trans B62.out; have B63 := Aside0.mk b63; have c6_3 := Boxed.cell b63; have f6_3 := Boxed.frozen b63; have x83 := (hb.block _ (Array.getElem?_eq_some_iff.1 X82.out).1).trans X82.out; have y0_3 := blk_cell (j := 0) x83; have y1_3 := blk_cell (j := 1) x83; have y2_3 := blk_cell (j := 2) x83; have c3_3 := Boxed.cell BX3.out; have K3 := Aside0.mk (K2.out.trans ((KeepsOthers.below (n := 0) hb).from _)); have KS3 := Aside0.mk (KS2.out.trans (KeepS.of_below hb (fun k hk => Nat.lt_of_lt_of_le (hS0 k hk) Z2.out))); have Z3 := Aside0.mk (Nat.le_trans Z2.out hb.size); have BW3 := Aside0.mk (below_step BW2.out hb); clear hb b63 x83))
        refine ⟨trivial, ?_⟩
        gi_wp2
        refine ⟨trivial, ?_⟩
        gi_wp2
        refine ⟨K3.out.trans ((KeepsOthers.setCell _ _ _).from _), rfl, HGO.out.trans ST.out, Boxed.set _ B63.out, BW3.out.setCell (p := ⟨g6, 0, none⟩) le6 _⟩
    case true =>
      have CI := Aside0.mk (Inverse_calls HV0.out (by omega) (by omega))
      have e0 : W.cell? ⟨g8, 0, none⟩ = some (.int .i64 p) := blk_cell HX8.out
      have e1 : W.cell? ⟨g8, 1, none⟩ = some (.slice A3 n3 c3) := blk_cell HX8.out
      have e2 : W.cell? ⟨g8, 2, none⟩ = some (.slice B3 m3 d3) := blk_cell HX8.out
      have hgl8 : g8 < W.heap.size := World.block_lt_of_cell? W _ e0
      by_cases h1 : fitsB tc (y.way true) = true
      · have H1 := Aside0.mk h1
        by_cases h2 : (y.way true).gone.all scl = true
        · by_cases h3 : (y.way true).came.all scl = true
          · by_cases h4 : (doneT tc (y.way true)).length ≤ 4096
            · have ST := Aside0.mk (show stepT true tc y = some (doneT tc (y.way true)) from if_pos ⟨h1, h2, h3, h4⟩)
              have H4 := Aside0.mk h4
              have H2 := Aside0.mk h2
              have H3 := Aside0.mk h3
              clear h4 h2 h3
              gi_wp2_with (first
                            | ((try refine ⟨trivial, ?_⟩); (try refine ⟨hdd_ _, ?_⟩); gi_at_call 38; (with_reducible refine (CallsIn.inRound lp (callsIn_wide.2 CI.out)).mono ?_); rintro e W1 ⟨p4, A4, n4, c4, B4, m4, d4, rfl, hV4, hb1⟩; have k0 := (hb1.cell (p := ⟨g8, 0, none⟩) hgl8).trans e0; have k1 := (hb1.cell (p := ⟨g8, 1, none⟩) hgl8).trans e1; have k2 := (hb1.cell (p := ⟨g8, 2, none⟩) hgl8).trans e2; have x81 := (hb1.block _ hgl8).trans HX8.out; have f0 := blk_frozen (j := 0) x81; have f1 := blk_frozen (j := 1) x81; have f2 := blk_frozen (j := 2) x81; have L2 := Aside0.mk (show n4 ≤ 5000 ∧ m4 ≤ 5000 from ⟨by have h1 := hV4.g.hn; have h2 := HV0.out.k.hn; have h3 : y.inv.gone = y.came := rfl; rw [h3] at h1; omega, by have h1 := hV4.k.hn; have h2 := HV0.out.g.hn; have h3 : y.inv.came = y.gone := rfl; rw [h3] at h1; omega⟩); have hfar : ∀ k, k < W1.heap.size → k ≠ g8 → (((W1.setCell ⟨g8, 0, none⟩ (Value.int .i64 p4)).setCell ⟨g8, 1, none⟩ (Value.slice A4 n4 c4)).setCell ⟨g8, 2, none⟩ (Value.slice B4 m4 d4)).heap[k]? = W1.heap[k]? := fun k _ hk => set3_far hk; have V2 : Aside0 (ChV (((W1.setCell ⟨g8, 0, none⟩ (Value.int .i64 p4)).setCell ⟨g8, 1, none⟩ (Value.slice A4 n4 c4)).setCell ⟨g8, 2, none⟩ (Value.slice B4 m4 d4)) p4 A4 n4 c4 B4 m4 d4 (y.way true)) := ⟨hV4.only (blk_noI x81 noI_ch) hfar⟩; have S2 : Aside0 (Sl (((W1.setCell ⟨g8, 0, none⟩ (Value.int .i64 p4)).setCell ⟨g8, 1, none⟩ (Value.slice A4 n4 c4)).setCell ⟨g8, 2, none⟩ (Value.slice B4 m4 d4)) A2 n2 c2 tc) := ⟨(HS.out.below hb1).only (blk_noI x81 noI_ch) hfar⟩; have BX2 : Aside0 (Boxed (((W1.setCell ⟨g8, 0, none⟩ (Value.int .i64 p4)).setCell ⟨g8, 1, none⟩ (Value.slice A4 n4 c4)).setCell ⟨g8, 2, none⟩ (Value.slice B4 m4 d4)) g3 23 (.slice A2 n2 c2)) := ⟨(set3_far n83).trans ((hb1.block _ HB3.out.lt).trans HB3.out)⟩; have B52 : Aside0 (Boxed (((W1.setCell ⟨g8, 0, none⟩ (Value.int .i64 p4)).setCell ⟨g8, 1, none⟩ (Value.slice A4 n4 c4)).setCell ⟨g8, 2, none⟩ (Value.slice B4 m4 d4)) g5 4 (.bool true)) := ⟨(set3_far n85).trans ((hb1.block _ HB5.out.lt).trans HB5.out)⟩; have B62 : Aside0 (Boxed (((W1.setCell ⟨g8, 0, none⟩ (Value.int .i64 p4)).setCell ⟨g8, 1, none⟩ (Value.slice A4 n4 c4)).setCell ⟨g8, 2, none⟩ (Value.slice B4 m4 d4)) g6 4 (.bool false)) := ⟨(set3_far n86).trans ((hb1.block _ HB6.out.lt).trans HB6.out)⟩; have X82 : Aside0 (Box8 g8 p4 A4 n4 c4 B4 m4 d4 (((W1.setCell ⟨g8, 0, none⟩ (Value.int .i64 p4)).setCell ⟨g8, 1, none⟩ (Value.slice A4 n4 c4)).setCell ⟨g8, 2, none⟩ (Value.slice B4 m4 d4))) := ⟨set3_blk x81⟩; have K2 : Aside0 (KeepsFrom W0.heap.size W (((W1.setCell ⟨g8, 0, none⟩ (Value.int .i64 p4)).setCell ⟨g8, 1, none⟩ (Value.slice A4 n4 c4)).setCell ⟨g8, 2, none⟩ (Value.slice B4 m4 d4))) := ⟨(KeepsOthers.below (n := 0) hb1).from _ |>.trans (((KeepsOthers.setCell _ _ _).from _).trans (((KeepsOthers.setCell _ _ _).from _).trans ((KeepsOthers.setCell _ _ _).from _)))⟩; have Z2 : Aside0 (W0.heap.size ≤ (((W1.setCell ⟨g8, 0, none⟩ (Value.int .i64 p4)).setCell ⟨g8, 1, none⟩ (Value.slice A4 n4 c4)).setCell ⟨g8, 2, none⟩ (Value.slice B4 m4 d4)).heap.size) := ⟨by simp; exact Nat.le_trans HSZ.out hb1.size⟩; have KS2 : Aside0 (KeepS (InB w.heap.size gs) W (((W1.setCell ⟨g8, 0, none⟩ (Value.int .i64 p4)).setCell ⟨g8, 1, none⟩ (Value.slice A4 n4 c4)).setCell ⟨g8, 2, none⟩ (Value.slice B4 m4 d4))) := ⟨fun k hk => by (have hk0 := hS0 k hk; have hks : k ≠ g8 := (by omega); exact (set3_far hks).trans (hb1.block _ (by have := HSZ.out; omega)))⟩; have BW2 : Aside0 (Below w.heap.size w (((W1.setCell ⟨g8, 0, none⟩ (Value.int .i64 p4)).setCell ⟨g8, 1, none⟩ (Value.slice A4 n4 c4)).setCell ⟨g8, 2, none⟩ (Value.slice B4 m4 d4))) := ⟨below_set3 le8 (below_step HBW.out hb1)⟩; have q0 := blk_cell (j := 0) X82.out; have q1 := blk_cell (j := 1) X82.out; have q2 := blk_cell (j := 2) X82.out; have c3_ := Boxed.cell BX2.out; have hz2 := BW2.out; clear hV4 hfar x81 hz2)
                            | ((try refine ⟨trivial, ?_⟩); (try refine ⟨hdd_ _, ?_⟩); gi_at_call 72; (with_reducible refine (CallsIn.inRound lp (callsIn_wide.2 (fits_q S2.out V2.out h1 (by omega) (by have := L2.out; omega)))).mono ?_); rintro e W3 ⟨rfl, hb⟩; have V3 := Aside0.mk (V2.out.below hb); have S3 := Aside0.mk (S2.out.below hb); have BX3 : Aside0 (Boxed W3 g3 23 (.slice A2 n2 c2)) := ⟨(hb.block _ BX2.out.lt).trans BX2.out⟩; have B53 : Aside0 (Boxed W3 g5 4 (.bool true)) := ⟨(hb.block _ B52.out.lt).trans B52.out⟩; have b63 : Boxed W3 g6 4 (.bool false) := (hb.block _ B62.out.lt).trans B62.out; have B63 := Aside0.mk b63; have c6_3 := Boxed.cell b63; have f6_3 := Boxed.frozen b63; have x83 := (hb.block _ (Array.getElem?_eq_some_iff.1 X82.out).1).trans X82.out; have y0_3 := blk_cell (j := 0) x83; have y1_3 := blk_cell (j := 1) x83; have y2_3 := blk_cell (j := 2) x83; have c3_3 := Boxed.cell BX3.out; have K3 := Aside0.mk (K2.out.trans ((KeepsOthers.below (n := 0) hb).from _)); have KS3 := Aside0.mk (KS2.out.trans (KeepS.of_below hb (fun k hk => Nat.lt_of_lt_of_le (hS0 k hk) Z2.out))); have Z3 := Aside0.mk (Nat.le_trans Z2.out hb.size); have BW3 := Aside0.mk (below_step BW2.out hb); clear hb b63 x83)
                            | ((try refine ⟨trivial, ?_⟩); (try refine ⟨hdd_ _, ?_⟩); gi_at_call 60; (with_reducible refine (CallsIn.inRound lp (callsIn_wide.2 (scalars_q V3.out.g H2.out (by have := L2.out; omega)))).mono ?_); rintro e w' ⟨rfl, rfl⟩)
                            | ((try refine ⟨trivial, ?_⟩); (try refine ⟨hdd_ _, ?_⟩); gi_at_call 60; (with_reducible refine (CallsIn.inRound lp (callsIn_wide.2 (scalars_q V3.out.k H3.out (by have := L2.out; omega)))).mono ?_); rintro e w' ⟨rfl, rfl⟩)
                            | ((try refine ⟨trivial, ?_⟩); (try refine ⟨hdd_ _, ?_⟩); gi_at_call 39; (with_reducible refine (CallsIn.inRound lp (callsIn_wide.2 (done_calls S3.out V3.out h1 (by omega) (by have := L2.out; omega)))).mono ?_); rintro e W4 ⟨A5, n5, c5_, rfl, hS5, hb⟩; have b34 : Boxed W4 g3 23 (.slice A2 n2 c2) := (hb.block _ BX3.out.lt).trans BX3.out; have c3_4 := Boxed.cell b34; have f3_4 := Boxed.frozen b34; have hno := blk_noI b34 (noI_slv A2 n2 c2); have S5 : Aside0 (Sl (W4.setCell ⟨g3, 0, none⟩ (.slice A5 n5 c5_)) A5 n5 c5_ (doneT tc (y.way true))) := ⟨hS5.only hno (fun k _ hk => Below.heap_setCell _ ⟨g3, 0, none⟩ _ k hk)⟩; have BX5 := Aside0.mk (Boxed.set (.slice A5 n5 c5_) b34); have B55 := Aside0.mk (Boxed.other (show Boxed W4 g5 4 (.bool true) from (hb.block _ B53.out.lt).trans B53.out) n35 (.slice A5 n5 c5_)); have b65 := Boxed.other (show Boxed W4 g6 4 (.bool false) from (hb.block _ B63.out.lt).trans B63.out) n36 (.slice A5 n5 c5_); have B65 := Aside0.mk b65; have c6_5 := Boxed.cell b65; have f6_5 := Boxed.frozen b65; have c3_5 := Boxed.cell BX5.out; have K5 := Aside0.mk ((K3.out.trans ((KeepsOthers.below (n := 0) hb).from _)).trans ((KeepsOthers.setCell W4 ⟨g3, 0, none⟩ (.slice A5 n5 c5_)).from _)); have KS5 : Aside0 (KeepS (InB w.heap.size gs) W (W4.setCell ⟨g3, 0, none⟩ (.slice A5 n5 c5_))) := ⟨(KS3.out.trans (KeepS.of_below hb (fun k hk => Nat.lt_of_lt_of_le (hS0 k hk) Z3.out))).trans (fun k hk => Below.heap_setCell _ ⟨g3, 0, none⟩ _ k (by have h3 := HG.out; show k ≠ g3; rcases hk with hk | hk <;> omega))⟩; have Z5 : Aside0 (W0.heap.size ≤ (W4.setCell ⟨g3, 0, none⟩ (.slice A5 n5 c5_)).heap.size) := ⟨by simp; exact Nat.le_trans Z3.out hb.size⟩; have BW5 := Aside0.mk ((below_step BW3.out hb).setCell (p := ⟨g3, 0, none⟩) le3 (.slice A5 n5 c5_)); have N5 := Aside0.mk hS5.hn; clear hb b34 b65 hno hS5; have h5 : decide ((4096 : Int) < (n5 : Int)) = false := decide_eq_false (by have := N5.out; have := H4.out; omega)))
              refine ⟨K5.out, KS5.out, ⟨A5, n5, c5_, _, HGO.out.trans ST.out, BX5.out, S5.out, by have := N5.out; have := H4.out; omega⟩, B55.out, B65.out, Z5.out, BW5.out⟩
            · have ST := Aside0.mk (show stepT true tc y = none from if_neg (fun h => h4 h.2.2.2))
              have H4 := Aside0.mk h4
              have H2 := Aside0.mk h2
              have H3 := Aside0.mk h3
              clear h4 h2 h3
              gi_wp2_with (first
                      | ((try refine ⟨trivial, ?_⟩); (try refine ⟨hdd_ _, ?_⟩); gi_at_call 38; (with_reducible refine (CallsIn.inRound lp (callsIn_wide.2 CI.out)).mono ?_); rintro e W1 ⟨p4, A4, n4, c4, B4, m4, d4, rfl, hV4, hb1⟩; have k0 := (hb1.cell (p := ⟨g8, 0, none⟩) hgl8).trans e0; have k1 := (hb1.cell (p := ⟨g8, 1, none⟩) hgl8).trans e1; have k2 := (hb1.cell (p := ⟨g8, 2, none⟩) hgl8).trans e2; have x81 := (hb1.block _ hgl8).trans HX8.out; have f0 := blk_frozen (j := 0) x81; have f1 := blk_frozen (j := 1) x81; have f2 := blk_frozen (j := 2) x81; have L2 := Aside0.mk (show n4 ≤ 5000 ∧ m4 ≤ 5000 from ⟨by have h1 := hV4.g.hn; have h2 := HV0.out.k.hn; have h3 : y.inv.gone = y.came := rfl; rw [h3] at h1; omega, by have h1 := hV4.k.hn; have h2 := HV0.out.g.hn; have h3 : y.inv.came = y.gone := rfl; rw [h3] at h1; omega⟩); have hfar : ∀ k, k < W1.heap.size → k ≠ g8 → (((W1.setCell ⟨g8, 0, none⟩ (Value.int .i64 p4)).setCell ⟨g8, 1, none⟩ (Value.slice A4 n4 c4)).setCell ⟨g8, 2, none⟩ (Value.slice B4 m4 d4)).heap[k]? = W1.heap[k]? := fun k _ hk => set3_far hk; have V2 : Aside0 (ChV (((W1.setCell ⟨g8, 0, none⟩ (Value.int .i64 p4)).setCell ⟨g8, 1, none⟩ (Value.slice A4 n4 c4)).setCell ⟨g8, 2, none⟩ (Value.slice B4 m4 d4)) p4 A4 n4 c4 B4 m4 d4 (y.way true)) := ⟨hV4.only (blk_noI x81 noI_ch) hfar⟩; have S2 : Aside0 (Sl (((W1.setCell ⟨g8, 0, none⟩ (Value.int .i64 p4)).setCell ⟨g8, 1, none⟩ (Value.slice A4 n4 c4)).setCell ⟨g8, 2, none⟩ (Value.slice B4 m4 d4)) A2 n2 c2 tc) := ⟨(HS.out.below hb1).only (blk_noI x81 noI_ch) hfar⟩; have BX2 : Aside0 (Boxed (((W1.setCell ⟨g8, 0, none⟩ (Value.int .i64 p4)).setCell ⟨g8, 1, none⟩ (Value.slice A4 n4 c4)).setCell ⟨g8, 2, none⟩ (Value.slice B4 m4 d4)) g3 23 (.slice A2 n2 c2)) := ⟨(set3_far n83).trans ((hb1.block _ HB3.out.lt).trans HB3.out)⟩; have B52 : Aside0 (Boxed (((W1.setCell ⟨g8, 0, none⟩ (Value.int .i64 p4)).setCell ⟨g8, 1, none⟩ (Value.slice A4 n4 c4)).setCell ⟨g8, 2, none⟩ (Value.slice B4 m4 d4)) g5 4 (.bool true)) := ⟨(set3_far n85).trans ((hb1.block _ HB5.out.lt).trans HB5.out)⟩; have B62 : Aside0 (Boxed (((W1.setCell ⟨g8, 0, none⟩ (Value.int .i64 p4)).setCell ⟨g8, 1, none⟩ (Value.slice A4 n4 c4)).setCell ⟨g8, 2, none⟩ (Value.slice B4 m4 d4)) g6 4 (.bool false)) := ⟨(set3_far n86).trans ((hb1.block _ HB6.out.lt).trans HB6.out)⟩; have X82 : Aside0 (Box8 g8 p4 A4 n4 c4 B4 m4 d4 (((W1.setCell ⟨g8, 0, none⟩ (Value.int .i64 p4)).setCell ⟨g8, 1, none⟩ (Value.slice A4 n4 c4)).setCell ⟨g8, 2, none⟩ (Value.slice B4 m4 d4))) := ⟨set3_blk x81⟩; have K2 : Aside0 (KeepsFrom W0.heap.size W (((W1.setCell ⟨g8, 0, none⟩ (Value.int .i64 p4)).setCell ⟨g8, 1, none⟩ (Value.slice A4 n4 c4)).setCell ⟨g8, 2, none⟩ (Value.slice B4 m4 d4))) := ⟨(KeepsOthers.below (n := 0) hb1).from _ |>.trans (((KeepsOthers.setCell _ _ _).from _).trans (((KeepsOthers.setCell _ _ _).from _).trans ((KeepsOthers.setCell _ _ _).from _)))⟩; have Z2 : Aside0 (W0.heap.size ≤ (((W1.setCell ⟨g8, 0, none⟩ (Value.int .i64 p4)).setCell ⟨g8, 1, none⟩ (Value.slice A4 n4 c4)).setCell ⟨g8, 2, none⟩ (Value.slice B4 m4 d4)).heap.size) := ⟨by simp; exact Nat.le_trans HSZ.out hb1.size⟩; have KS2 : Aside0 (KeepS (InB w.heap.size gs) W (((W1.setCell ⟨g8, 0, none⟩ (Value.int .i64 p4)).setCell ⟨g8, 1, none⟩ (Value.slice A4 n4 c4)).setCell ⟨g8, 2, none⟩ (Value.slice B4 m4 d4))) := ⟨fun k hk => by (have hk0 := hS0 k hk; have hks : k ≠ g8 := (by omega); exact (set3_far hks).trans (hb1.block _ (by have := HSZ.out; omega)))⟩; have BW2 : Aside0 (Below w.heap.size w (((W1.setCell ⟨g8, 0, none⟩ (Value.int .i64 p4)).setCell ⟨g8, 1, none⟩ (Value.slice A4 n4 c4)).setCell ⟨g8, 2, none⟩ (Value.slice B4 m4 d4))) := ⟨below_set3 le8 (below_step HBW.out hb1)⟩; have q0 := blk_cell (j := 0) X82.out; have q1 := blk_cell (j := 1) X82.out; have q2 := blk_cell (j := 2) X82.out; have c3_ := Boxed.cell BX2.out; have hz2 := BW2.out; clear hV4 hfar x81 hz2)
                      | ((try refine ⟨trivial, ?_⟩); (try refine ⟨hdd_ _, ?_⟩); gi_at_call 72; (with_reducible refine (CallsIn.inRound lp (callsIn_wide.2 (fits_q S2.out V2.out h1 (by omega) (by have := L2.out; omega)))).mono ?_); rintro e W3 ⟨rfl, hb⟩; have V3 := Aside0.mk (V2.out.below hb); have S3 := Aside0.mk (S2.out.below hb); have BX3 : Aside0 (Boxed W3 g3 23 (.slice A2 n2 c2)) := ⟨(hb.block _ BX2.out.lt).trans BX2.out⟩; have B53 : Aside0 (Boxed W3 g5 4 (.bool true)) := ⟨(hb.block _ B52.out.lt).trans B52.out⟩; have b63 : Boxed W3 g6 4 (.bool false) := (hb.block _ B62.out.lt).trans B62.out; have B63 := Aside0.mk b63; have c6_3 := Boxed.cell b63; have f6_3 := Boxed.frozen b63; have x83 := (hb.block _ (Array.getElem?_eq_some_iff.1 X82.out).1).trans X82.out; have y0_3 := blk_cell (j := 0) x83; have y1_3 := blk_cell (j := 1) x83; have y2_3 := blk_cell (j := 2) x83; have c3_3 := Boxed.cell BX3.out; have K3 := Aside0.mk (K2.out.trans ((KeepsOthers.below (n := 0) hb).from _)); have KS3 := Aside0.mk (KS2.out.trans (KeepS.of_below hb (fun k hk => Nat.lt_of_lt_of_le (hS0 k hk) Z2.out))); have Z3 := Aside0.mk (Nat.le_trans Z2.out hb.size); have BW3 := Aside0.mk (below_step BW2.out hb); clear hb b63 x83)
                      | ((try refine ⟨trivial, ?_⟩); (try refine ⟨hdd_ _, ?_⟩); gi_at_call 60; (with_reducible refine (CallsIn.inRound lp (callsIn_wide.2 (scalars_q V3.out.g H2.out (by have := L2.out; omega)))).mono ?_); rintro e w' ⟨rfl, rfl⟩)
                      | ((try refine ⟨trivial, ?_⟩); (try refine ⟨hdd_ _, ?_⟩); gi_at_call 60; (with_reducible refine (CallsIn.inRound lp (callsIn_wide.2 (scalars_q V3.out.k H3.out (by have := L2.out; omega)))).mono ?_); rintro e w' ⟨rfl, rfl⟩)
                      | ((try refine ⟨trivial, ?_⟩); (try refine ⟨hdd_ _, ?_⟩); gi_at_call 39; (with_reducible refine (CallsIn.inRound lp (callsIn_wide.2 (done_calls S3.out V3.out h1 (by omega) (by have := L2.out; omega)))).mono ?_); rintro e W4 ⟨A5, n5, c5_, rfl, hS5, hb⟩; have b34 : Boxed W4 g3 23 (.slice A2 n2 c2) := (hb.block _ BX3.out.lt).trans BX3.out; have c3_4 := Boxed.cell b34; have f3_4 := Boxed.frozen b34; have hno := blk_noI b34 (noI_slv A2 n2 c2); have S5 : Aside0 (Sl (W4.setCell ⟨g3, 0, none⟩ (.slice A5 n5 c5_)) A5 n5 c5_ (doneT tc (y.way true))) := ⟨hS5.only hno (fun k _ hk => Below.heap_setCell _ ⟨g3, 0, none⟩ _ k hk)⟩; have BX5 := Aside0.mk (Boxed.set (.slice A5 n5 c5_) b34); have B55 := Aside0.mk (Boxed.other (show Boxed W4 g5 4 (.bool true) from (hb.block _ B53.out.lt).trans B53.out) n35 (.slice A5 n5 c5_)); have b65 := Boxed.other (show Boxed W4 g6 4 (.bool false) from (hb.block _ B63.out.lt).trans B63.out) n36 (.slice A5 n5 c5_); have B65 := Aside0.mk b65; have c6_5 := Boxed.cell b65; have f6_5 := Boxed.frozen b65; have c3_5 := Boxed.cell BX5.out; have K5 := Aside0.mk ((K3.out.trans ((KeepsOthers.below (n := 0) hb).from _)).trans ((KeepsOthers.setCell W4 ⟨g3, 0, none⟩ (.slice A5 n5 c5_)).from _)); have KS5 : Aside0 (KeepS (InB w.heap.size gs) W (W4.setCell ⟨g3, 0, none⟩ (.slice A5 n5 c5_))) := ⟨(KS3.out.trans (KeepS.of_below hb (fun k hk => Nat.lt_of_lt_of_le (hS0 k hk) Z3.out))).trans (fun k hk => Below.heap_setCell _ ⟨g3, 0, none⟩ _ k (by have h3 := HG.out; show k ≠ g3; rcases hk with hk | hk <;> omega))⟩; have Z5 : Aside0 (W0.heap.size ≤ (W4.setCell ⟨g3, 0, none⟩ (.slice A5 n5 c5_)).heap.size) := ⟨by simp; exact Nat.le_trans Z3.out hb.size⟩; have BW5 := Aside0.mk ((below_step BW3.out hb).setCell (p := ⟨g3, 0, none⟩) le3 (.slice A5 n5 c5_)); have N5 := Aside0.mk hS5.hn; clear hb b34 b65 hno hS5; have h5 : decide ((4096 : Int) < (n5 : Int)) = true := decide_eq_true (by have := N5.out; have := H4.out; omega)))
              refine ⟨K5.out.trans ((KeepsOthers.setCell _ _ _).from _), rfl, HGO.out.trans ST.out, Boxed.set _ B65.out, BW5.out.setCell (p := ⟨g6, 0, none⟩) le6 _⟩
          · have ST := Aside0.mk (show stepT true tc y = none from if_neg (fun h => h3 h.2.2.1))
            have H3 := Aside0.mk (Bool.eq_false_iff.2 h3)
            have H2 := Aside0.mk h2
            clear h2 h3
            gi_wp2_with (first
                    | ((try refine ⟨trivial, ?_⟩); (try refine ⟨hdd_ _, ?_⟩); gi_at_call 38; (with_reducible refine (CallsIn.inRound lp (callsIn_wide.2 CI.out)).mono ?_); rintro e W1 ⟨p4, A4, n4, c4, B4, m4, d4, rfl, hV4, hb1⟩; have k0 := (hb1.cell (p := ⟨g8, 0, none⟩) hgl8).trans e0; have k1 := (hb1.cell (p := ⟨g8, 1, none⟩) hgl8).trans e1; have k2 := (hb1.cell (p := ⟨g8, 2, none⟩) hgl8).trans e2; have x81 := (hb1.block _ hgl8).trans HX8.out; have f0 := blk_frozen (j := 0) x81; have f1 := blk_frozen (j := 1) x81; have f2 := blk_frozen (j := 2) x81; have L2 := Aside0.mk (show n4 ≤ 5000 ∧ m4 ≤ 5000 from ⟨by have h1 := hV4.g.hn; have h2 := HV0.out.k.hn; have h3 : y.inv.gone = y.came := rfl; rw [h3] at h1; omega, by have h1 := hV4.k.hn; have h2 := HV0.out.g.hn; have h3 : y.inv.came = y.gone := rfl; rw [h3] at h1; omega⟩); have hfar : ∀ k, k < W1.heap.size → k ≠ g8 → (((W1.setCell ⟨g8, 0, none⟩ (Value.int .i64 p4)).setCell ⟨g8, 1, none⟩ (Value.slice A4 n4 c4)).setCell ⟨g8, 2, none⟩ (Value.slice B4 m4 d4)).heap[k]? = W1.heap[k]? := fun k _ hk => set3_far hk; have V2 : Aside0 (ChV (((W1.setCell ⟨g8, 0, none⟩ (Value.int .i64 p4)).setCell ⟨g8, 1, none⟩ (Value.slice A4 n4 c4)).setCell ⟨g8, 2, none⟩ (Value.slice B4 m4 d4)) p4 A4 n4 c4 B4 m4 d4 (y.way true)) := ⟨hV4.only (blk_noI x81 noI_ch) hfar⟩; have S2 : Aside0 (Sl (((W1.setCell ⟨g8, 0, none⟩ (Value.int .i64 p4)).setCell ⟨g8, 1, none⟩ (Value.slice A4 n4 c4)).setCell ⟨g8, 2, none⟩ (Value.slice B4 m4 d4)) A2 n2 c2 tc) := ⟨(HS.out.below hb1).only (blk_noI x81 noI_ch) hfar⟩; have BX2 : Aside0 (Boxed (((W1.setCell ⟨g8, 0, none⟩ (Value.int .i64 p4)).setCell ⟨g8, 1, none⟩ (Value.slice A4 n4 c4)).setCell ⟨g8, 2, none⟩ (Value.slice B4 m4 d4)) g3 23 (.slice A2 n2 c2)) := ⟨(set3_far n83).trans ((hb1.block _ HB3.out.lt).trans HB3.out)⟩; have B52 : Aside0 (Boxed (((W1.setCell ⟨g8, 0, none⟩ (Value.int .i64 p4)).setCell ⟨g8, 1, none⟩ (Value.slice A4 n4 c4)).setCell ⟨g8, 2, none⟩ (Value.slice B4 m4 d4)) g5 4 (.bool true)) := ⟨(set3_far n85).trans ((hb1.block _ HB5.out.lt).trans HB5.out)⟩; have B62 : Aside0 (Boxed (((W1.setCell ⟨g8, 0, none⟩ (Value.int .i64 p4)).setCell ⟨g8, 1, none⟩ (Value.slice A4 n4 c4)).setCell ⟨g8, 2, none⟩ (Value.slice B4 m4 d4)) g6 4 (.bool false)) := ⟨(set3_far n86).trans ((hb1.block _ HB6.out.lt).trans HB6.out)⟩; have X82 : Aside0 (Box8 g8 p4 A4 n4 c4 B4 m4 d4 (((W1.setCell ⟨g8, 0, none⟩ (Value.int .i64 p4)).setCell ⟨g8, 1, none⟩ (Value.slice A4 n4 c4)).setCell ⟨g8, 2, none⟩ (Value.slice B4 m4 d4))) := ⟨set3_blk x81⟩; have K2 : Aside0 (KeepsFrom W0.heap.size W (((W1.setCell ⟨g8, 0, none⟩ (Value.int .i64 p4)).setCell ⟨g8, 1, none⟩ (Value.slice A4 n4 c4)).setCell ⟨g8, 2, none⟩ (Value.slice B4 m4 d4))) := ⟨(KeepsOthers.below (n := 0) hb1).from _ |>.trans (((KeepsOthers.setCell _ _ _).from _).trans (((KeepsOthers.setCell _ _ _).from _).trans ((KeepsOthers.setCell _ _ _).from _)))⟩; have Z2 : Aside0 (W0.heap.size ≤ (((W1.setCell ⟨g8, 0, none⟩ (Value.int .i64 p4)).setCell ⟨g8, 1, none⟩ (Value.slice A4 n4 c4)).setCell ⟨g8, 2, none⟩ (Value.slice B4 m4 d4)).heap.size) := ⟨by simp; exact Nat.le_trans HSZ.out hb1.size⟩; have KS2 : Aside0 (KeepS (InB w.heap.size gs) W (((W1.setCell ⟨g8, 0, none⟩ (Value.int .i64 p4)).setCell ⟨g8, 1, none⟩ (Value.slice A4 n4 c4)).setCell ⟨g8, 2, none⟩ (Value.slice B4 m4 d4))) := ⟨fun k hk => by (have hk0 := hS0 k hk; have hks : k ≠ g8 := (by omega); exact (set3_far hks).trans (hb1.block _ (by have := HSZ.out; omega)))⟩; have BW2 : Aside0 (Below w.heap.size w (((W1.setCell ⟨g8, 0, none⟩ (Value.int .i64 p4)).setCell ⟨g8, 1, none⟩ (Value.slice A4 n4 c4)).setCell ⟨g8, 2, none⟩ (Value.slice B4 m4 d4))) := ⟨below_set3 le8 (below_step HBW.out hb1)⟩; have q0 := blk_cell (j := 0) X82.out; have q1 := blk_cell (j := 1) X82.out; have q2 := blk_cell (j := 2) X82.out; have c3_ := Boxed.cell BX2.out; have hz2 := BW2.out; clear hV4 hfar x81 hz2)
                    | ((try refine ⟨trivial, ?_⟩); (try refine ⟨hdd_ _, ?_⟩); gi_at_call 72; (with_reducible refine (CallsIn.inRound lp (callsIn_wide.2 (fits_q S2.out V2.out h1 (by omega) (by have := L2.out; omega)))).mono ?_); rintro e W3 ⟨rfl, hb⟩; have V3 := Aside0.mk (V2.out.below hb); have S3 := Aside0.mk (S2.out.below hb); have BX3 : Aside0 (Boxed W3 g3 23 (.slice A2 n2 c2)) := ⟨(hb.block _ BX2.out.lt).trans BX2.out⟩; have B53 : Aside0 (Boxed W3 g5 4 (.bool true)) := ⟨(hb.block _ B52.out.lt).trans B52.out⟩; have b63 : Boxed W3 g6 4 (.bool false) := (hb.block _ B62.out.lt).trans B62.out; have B63 := Aside0.mk b63; have c6_3 := Boxed.cell b63; have f6_3 := Boxed.frozen b63; have x83 := (hb.block _ (Array.getElem?_eq_some_iff.1 X82.out).1).trans X82.out; have y0_3 := blk_cell (j := 0) x83; have y1_3 := blk_cell (j := 1) x83; have y2_3 := blk_cell (j := 2) x83; have c3_3 := Boxed.cell BX3.out; have K3 := Aside0.mk (K2.out.trans ((KeepsOthers.below (n := 0) hb).from _)); have KS3 := Aside0.mk (KS2.out.trans (KeepS.of_below hb (fun k hk => Nat.lt_of_lt_of_le (hS0 k hk) Z2.out))); have Z3 := Aside0.mk (Nat.le_trans Z2.out hb.size); have BW3 := Aside0.mk (below_step BW2.out hb); clear hb b63 x83)
                    | ((try refine ⟨trivial, ?_⟩); (try refine ⟨hdd_ _, ?_⟩); gi_at_call 60; (with_reducible refine (CallsIn.inRound lp (callsIn_wide.2 (scalars_q V3.out.g H2.out (by have := L2.out; omega)))).mono ?_); rintro e w' ⟨rfl, rfl⟩)
                    | ((try refine ⟨trivial, ?_⟩); (try refine ⟨hdd_ _, ?_⟩); gi_at_call 60; (with_reducible refine (CallsIn.inRound lp (callsIn_wide.2 (scalars_q V3.out.k H3.out (by have := L2.out; omega)))).mono ?_); rintro e w' ⟨rfl, rfl⟩))
            refine ⟨K3.out.trans ((KeepsOthers.setCell _ _ _).from _), rfl, HGO.out.trans ST.out, Boxed.set _ B63.out, BW3.out.setCell (p := ⟨g6, 0, none⟩) le6 _⟩
        · have ST := Aside0.mk (show stepT true tc y = none from if_neg (fun h => h2 h.2.1))
          have H2 := Aside0.mk (Bool.eq_false_iff.2 h2)
          clear h2
          gi_wp2_with (first
                  | ((try refine ⟨trivial, ?_⟩); (try refine ⟨hdd_ _, ?_⟩); gi_at_call 38; (with_reducible refine (CallsIn.inRound lp (callsIn_wide.2 CI.out)).mono ?_); rintro e W1 ⟨p4, A4, n4, c4, B4, m4, d4, rfl, hV4, hb1⟩; have k0 := (hb1.cell (p := ⟨g8, 0, none⟩) hgl8).trans e0; have k1 := (hb1.cell (p := ⟨g8, 1, none⟩) hgl8).trans e1; have k2 := (hb1.cell (p := ⟨g8, 2, none⟩) hgl8).trans e2; have x81 := (hb1.block _ hgl8).trans HX8.out; have f0 := blk_frozen (j := 0) x81; have f1 := blk_frozen (j := 1) x81; have f2 := blk_frozen (j := 2) x81; have L2 := Aside0.mk (show n4 ≤ 5000 ∧ m4 ≤ 5000 from ⟨by have h1 := hV4.g.hn; have h2 := HV0.out.k.hn; have h3 : y.inv.gone = y.came := rfl; rw [h3] at h1; omega, by have h1 := hV4.k.hn; have h2 := HV0.out.g.hn; have h3 : y.inv.came = y.gone := rfl; rw [h3] at h1; omega⟩); have hfar : ∀ k, k < W1.heap.size → k ≠ g8 → (((W1.setCell ⟨g8, 0, none⟩ (Value.int .i64 p4)).setCell ⟨g8, 1, none⟩ (Value.slice A4 n4 c4)).setCell ⟨g8, 2, none⟩ (Value.slice B4 m4 d4)).heap[k]? = W1.heap[k]? := fun k _ hk => set3_far hk; have V2 : Aside0 (ChV (((W1.setCell ⟨g8, 0, none⟩ (Value.int .i64 p4)).setCell ⟨g8, 1, none⟩ (Value.slice A4 n4 c4)).setCell ⟨g8, 2, none⟩ (Value.slice B4 m4 d4)) p4 A4 n4 c4 B4 m4 d4 (y.way true)) := ⟨hV4.only (blk_noI x81 noI_ch) hfar⟩; have S2 : Aside0 (Sl (((W1.setCell ⟨g8, 0, none⟩ (Value.int .i64 p4)).setCell ⟨g8, 1, none⟩ (Value.slice A4 n4 c4)).setCell ⟨g8, 2, none⟩ (Value.slice B4 m4 d4)) A2 n2 c2 tc) := ⟨(HS.out.below hb1).only (blk_noI x81 noI_ch) hfar⟩; have BX2 : Aside0 (Boxed (((W1.setCell ⟨g8, 0, none⟩ (Value.int .i64 p4)).setCell ⟨g8, 1, none⟩ (Value.slice A4 n4 c4)).setCell ⟨g8, 2, none⟩ (Value.slice B4 m4 d4)) g3 23 (.slice A2 n2 c2)) := ⟨(set3_far n83).trans ((hb1.block _ HB3.out.lt).trans HB3.out)⟩; have B52 : Aside0 (Boxed (((W1.setCell ⟨g8, 0, none⟩ (Value.int .i64 p4)).setCell ⟨g8, 1, none⟩ (Value.slice A4 n4 c4)).setCell ⟨g8, 2, none⟩ (Value.slice B4 m4 d4)) g5 4 (.bool true)) := ⟨(set3_far n85).trans ((hb1.block _ HB5.out.lt).trans HB5.out)⟩; have B62 : Aside0 (Boxed (((W1.setCell ⟨g8, 0, none⟩ (Value.int .i64 p4)).setCell ⟨g8, 1, none⟩ (Value.slice A4 n4 c4)).setCell ⟨g8, 2, none⟩ (Value.slice B4 m4 d4)) g6 4 (.bool false)) := ⟨(set3_far n86).trans ((hb1.block _ HB6.out.lt).trans HB6.out)⟩; have X82 : Aside0 (Box8 g8 p4 A4 n4 c4 B4 m4 d4 (((W1.setCell ⟨g8, 0, none⟩ (Value.int .i64 p4)).setCell ⟨g8, 1, none⟩ (Value.slice A4 n4 c4)).setCell ⟨g8, 2, none⟩ (Value.slice B4 m4 d4))) := ⟨set3_blk x81⟩; have K2 : Aside0 (KeepsFrom W0.heap.size W (((W1.setCell ⟨g8, 0, none⟩ (Value.int .i64 p4)).setCell ⟨g8, 1, none⟩ (Value.slice A4 n4 c4)).setCell ⟨g8, 2, none⟩ (Value.slice B4 m4 d4))) := ⟨(KeepsOthers.below (n := 0) hb1).from _ |>.trans (((KeepsOthers.setCell _ _ _).from _).trans (((KeepsOthers.setCell _ _ _).from _).trans ((KeepsOthers.setCell _ _ _).from _)))⟩; have Z2 : Aside0 (W0.heap.size ≤ (((W1.setCell ⟨g8, 0, none⟩ (Value.int .i64 p4)).setCell ⟨g8, 1, none⟩ (Value.slice A4 n4 c4)).setCell ⟨g8, 2, none⟩ (Value.slice B4 m4 d4)).heap.size) := ⟨by simp; exact Nat.le_trans HSZ.out hb1.size⟩; have KS2 : Aside0 (KeepS (InB w.heap.size gs) W (((W1.setCell ⟨g8, 0, none⟩ (Value.int .i64 p4)).setCell ⟨g8, 1, none⟩ (Value.slice A4 n4 c4)).setCell ⟨g8, 2, none⟩ (Value.slice B4 m4 d4))) := ⟨fun k hk => by (have hk0 := hS0 k hk; have hks : k ≠ g8 := (by omega); exact (set3_far hks).trans (hb1.block _ (by have := HSZ.out; omega)))⟩; have BW2 : Aside0 (Below w.heap.size w (((W1.setCell ⟨g8, 0, none⟩ (Value.int .i64 p4)).setCell ⟨g8, 1, none⟩ (Value.slice A4 n4 c4)).setCell ⟨g8, 2, none⟩ (Value.slice B4 m4 d4))) := ⟨below_set3 le8 (below_step HBW.out hb1)⟩; have q0 := blk_cell (j := 0) X82.out; have q1 := blk_cell (j := 1) X82.out; have q2 := blk_cell (j := 2) X82.out; have c3_ := Boxed.cell BX2.out; have hz2 := BW2.out; clear hV4 hfar x81 hz2)
                  | ((try refine ⟨trivial, ?_⟩); (try refine ⟨hdd_ _, ?_⟩); gi_at_call 72; (with_reducible refine (CallsIn.inRound lp (callsIn_wide.2 (fits_q S2.out V2.out h1 (by omega) (by have := L2.out; omega)))).mono ?_); rintro e W3 ⟨rfl, hb⟩; have V3 := Aside0.mk (V2.out.below hb); have S3 := Aside0.mk (S2.out.below hb); have BX3 : Aside0 (Boxed W3 g3 23 (.slice A2 n2 c2)) := ⟨(hb.block _ BX2.out.lt).trans BX2.out⟩; have B53 : Aside0 (Boxed W3 g5 4 (.bool true)) := ⟨(hb.block _ B52.out.lt).trans B52.out⟩; have b63 : Boxed W3 g6 4 (.bool false) := (hb.block _ B62.out.lt).trans B62.out; have B63 := Aside0.mk b63; have c6_3 := Boxed.cell b63; have f6_3 := Boxed.frozen b63; have x83 := (hb.block _ (Array.getElem?_eq_some_iff.1 X82.out).1).trans X82.out; have y0_3 := blk_cell (j := 0) x83; have y1_3 := blk_cell (j := 1) x83; have y2_3 := blk_cell (j := 2) x83; have c3_3 := Boxed.cell BX3.out; have K3 := Aside0.mk (K2.out.trans ((KeepsOthers.below (n := 0) hb).from _)); have KS3 := Aside0.mk (KS2.out.trans (KeepS.of_below hb (fun k hk => Nat.lt_of_lt_of_le (hS0 k hk) Z2.out))); have Z3 := Aside0.mk (Nat.le_trans Z2.out hb.size); have BW3 := Aside0.mk (below_step BW2.out hb); clear hb b63 x83)
                  | ((try refine ⟨trivial, ?_⟩); (try refine ⟨hdd_ _, ?_⟩); gi_at_call 60; (with_reducible refine (CallsIn.inRound lp (callsIn_wide.2 (scalars_q V3.out.g H2.out (by have := L2.out; omega)))).mono ?_); rintro e w' ⟨rfl, rfl⟩))
          refine ⟨trivial, ?_⟩
          gi_wp2
          refine ⟨K3.out.trans ((KeepsOthers.setCell _ _ _).from _), rfl, HGO.out.trans ST.out, Boxed.set _ B63.out, BW3.out.setCell (p := ⟨g6, 0, none⟩) le6 _⟩
      · have ST := Aside0.mk (show stepT true tc y = none from if_neg (fun h => h1 h.1))
        have H1 := Aside0.mk (Bool.eq_false_iff.2 h1)
        clear h1
        gi_wp2_with (first
                | ((try refine ⟨trivial, ?_⟩); (try refine ⟨hdd_ _, ?_⟩); gi_at_call 38; (with_reducible refine (CallsIn.inRound lp (callsIn_wide.2 CI.out)).mono ?_); rintro e W1 ⟨p4, A4, n4, c4, B4, m4, d4, rfl, hV4, hb1⟩; have k0 := (hb1.cell (p := ⟨g8, 0, none⟩) hgl8).trans e0; have k1 := (hb1.cell (p := ⟨g8, 1, none⟩) hgl8).trans e1; have k2 := (hb1.cell (p := ⟨g8, 2, none⟩) hgl8).trans e2; have x81 := (hb1.block _ hgl8).trans HX8.out; have f0 := blk_frozen (j := 0) x81; have f1 := blk_frozen (j := 1) x81; have f2 := blk_frozen (j := 2) x81; have L2 := Aside0.mk (show n4 ≤ 5000 ∧ m4 ≤ 5000 from ⟨by have h1 := hV4.g.hn; have h2 := HV0.out.k.hn; have h3 : y.inv.gone = y.came := rfl; rw [h3] at h1; omega, by have h1 := hV4.k.hn; have h2 := HV0.out.g.hn; have h3 : y.inv.came = y.gone := rfl; rw [h3] at h1; omega⟩); have hfar : ∀ k, k < W1.heap.size → k ≠ g8 → (((W1.setCell ⟨g8, 0, none⟩ (Value.int .i64 p4)).setCell ⟨g8, 1, none⟩ (Value.slice A4 n4 c4)).setCell ⟨g8, 2, none⟩ (Value.slice B4 m4 d4)).heap[k]? = W1.heap[k]? := fun k _ hk => set3_far hk; have V2 : Aside0 (ChV (((W1.setCell ⟨g8, 0, none⟩ (Value.int .i64 p4)).setCell ⟨g8, 1, none⟩ (Value.slice A4 n4 c4)).setCell ⟨g8, 2, none⟩ (Value.slice B4 m4 d4)) p4 A4 n4 c4 B4 m4 d4 (y.way true)) := ⟨hV4.only (blk_noI x81 noI_ch) hfar⟩; have S2 : Aside0 (Sl (((W1.setCell ⟨g8, 0, none⟩ (Value.int .i64 p4)).setCell ⟨g8, 1, none⟩ (Value.slice A4 n4 c4)).setCell ⟨g8, 2, none⟩ (Value.slice B4 m4 d4)) A2 n2 c2 tc) := ⟨(HS.out.below hb1).only (blk_noI x81 noI_ch) hfar⟩; have BX2 : Aside0 (Boxed (((W1.setCell ⟨g8, 0, none⟩ (Value.int .i64 p4)).setCell ⟨g8, 1, none⟩ (Value.slice A4 n4 c4)).setCell ⟨g8, 2, none⟩ (Value.slice B4 m4 d4)) g3 23 (.slice A2 n2 c2)) := ⟨(set3_far n83).trans ((hb1.block _ HB3.out.lt).trans HB3.out)⟩; have B52 : Aside0 (Boxed (((W1.setCell ⟨g8, 0, none⟩ (Value.int .i64 p4)).setCell ⟨g8, 1, none⟩ (Value.slice A4 n4 c4)).setCell ⟨g8, 2, none⟩ (Value.slice B4 m4 d4)) g5 4 (.bool true)) := ⟨(set3_far n85).trans ((hb1.block _ HB5.out.lt).trans HB5.out)⟩; have B62 : Aside0 (Boxed (((W1.setCell ⟨g8, 0, none⟩ (Value.int .i64 p4)).setCell ⟨g8, 1, none⟩ (Value.slice A4 n4 c4)).setCell ⟨g8, 2, none⟩ (Value.slice B4 m4 d4)) g6 4 (.bool false)) := ⟨(set3_far n86).trans ((hb1.block _ HB6.out.lt).trans HB6.out)⟩; have X82 : Aside0 (Box8 g8 p4 A4 n4 c4 B4 m4 d4 (((W1.setCell ⟨g8, 0, none⟩ (Value.int .i64 p4)).setCell ⟨g8, 1, none⟩ (Value.slice A4 n4 c4)).setCell ⟨g8, 2, none⟩ (Value.slice B4 m4 d4))) := ⟨set3_blk x81⟩; have K2 : Aside0 (KeepsFrom W0.heap.size W (((W1.setCell ⟨g8, 0, none⟩ (Value.int .i64 p4)).setCell ⟨g8, 1, none⟩ (Value.slice A4 n4 c4)).setCell ⟨g8, 2, none⟩ (Value.slice B4 m4 d4))) := ⟨(KeepsOthers.below (n := 0) hb1).from _ |>.trans (((KeepsOthers.setCell _ _ _).from _).trans (((KeepsOthers.setCell _ _ _).from _).trans ((KeepsOthers.setCell _ _ _).from _)))⟩; have Z2 : Aside0 (W0.heap.size ≤ (((W1.setCell ⟨g8, 0, none⟩ (Value.int .i64 p4)).setCell ⟨g8, 1, none⟩ (Value.slice A4 n4 c4)).setCell ⟨g8, 2, none⟩ (Value.slice B4 m4 d4)).heap.size) := ⟨by simp; exact Nat.le_trans HSZ.out hb1.size⟩; have KS2 : Aside0 (KeepS (InB w.heap.size gs) W (((W1.setCell ⟨g8, 0, none⟩ (Value.int .i64 p4)).setCell ⟨g8, 1, none⟩ (Value.slice A4 n4 c4)).setCell ⟨g8, 2, none⟩ (Value.slice B4 m4 d4))) := ⟨fun k hk => by (have hk0 := hS0 k hk; have hks : k ≠ g8 := (by omega); exact (set3_far hks).trans (hb1.block _ (by have := HSZ.out; omega)))⟩; have BW2 : Aside0 (Below w.heap.size w (((W1.setCell ⟨g8, 0, none⟩ (Value.int .i64 p4)).setCell ⟨g8, 1, none⟩ (Value.slice A4 n4 c4)).setCell ⟨g8, 2, none⟩ (Value.slice B4 m4 d4))) := ⟨below_set3 le8 (below_step HBW.out hb1)⟩; have q0 := blk_cell (j := 0) X82.out; have q1 := blk_cell (j := 1) X82.out; have q2 := blk_cell (j := 2) X82.out; have c3_ := Boxed.cell BX2.out; have hz2 := BW2.out; clear hV4 hfar x81 hz2)
                | ((try refine ⟨trivial, ?_⟩); (try refine ⟨hdd_ _, ?_⟩); gi_at_call 72; (with_reducible refine (CallsIn.inRound lp (callsIn_wide.2 (fits_q S2.out V2.out H1.out (by omega) (by have := L2.out; omega)))).mono ?_); rintro e W3 ⟨rfl, hb⟩; have V3 := Aside0.mk (V2.out.below hb); have S3 := Aside0.mk (S2.out.below hb); have BX3 : Aside0 (Boxed W3 g3 23 (.slice A2 n2 c2)) := ⟨(hb.block _ BX2.out.lt).trans BX2.out⟩; have B53 : Aside0 (Boxed W3 g5 4 (.bool true)) := ⟨(hb.block _ B52.out.lt).trans B52.out⟩; have b63 : Boxed W3 g6 4 (.bool false) := (hb.block _ B62.out.lt).trans B62.out; have B63 := Aside0.mk b63; have c6_3 := Boxed.cell b63; have f6_3 := Boxed.frozen b63; have x83 := (hb.block _ (Array.getElem?_eq_some_iff.1 X82.out).1).trans X82.out; have y0_3 := blk_cell (j := 0) x83; have y1_3 := blk_cell (j := 1) x83; have y2_3 := blk_cell (j := 2) x83; have c3_3 := Boxed.cell BX3.out; have K3 := Aside0.mk (K2.out.trans ((KeepsOthers.below (n := 0) hb).from _)); have KS3 := Aside0.mk (KS2.out.trans (KeepS.of_below hb (fun k hk => Nat.lt_of_lt_of_le (hS0 k hk) Z2.out))); have Z3 := Aside0.mk (Nat.le_trans Z2.out hb.size); have BW3 := Aside0.mk (below_step BW2.out hb); clear hb b63 x83))
        refine ⟨trivial, ?_⟩
        gi_wp2
        refine ⟨trivial, ?_⟩
        gi_wp2
        refine ⟨K3.out.trans ((KeepsOthers.setCell _ _ _).from _), rfl, HGO.out.trans ST.out, Boxed.set _ B63.out, BW3.out.setCell (p := ⟨g6, 0, none⟩) le6 _⟩
  case stop =>
    rintro D cd pre W hD hpre ⟨rfl, hx, hb6, hB⟩ hK
    have hfin : goesT back text ((dn n1 (Nat.le_refl n1)).map fun j => xs j.1) = none := goesT_prefix (hpre.map _) hx
    have HM : Marks w.heap.size W [{ target := .collected D, args := #[] }] := ⟨⟨D, rfl, by omega, hK, fun D' hD' => by cases hD'⟩, trivial⟩
    gi_wp2
    refine marks_leave (b := w.heap.size) (Φ := fun W => Below w.heap.size w W ∧ Boxed W g6 4 (.bool false)) ?_ ?_ _ _ HM ⟨hB, hb6⟩
    · exact fun W D h hD hd => ⟨h.1.trans (belowK_b (w := w) (Nat.le_refl _) W D _ _ hD hd rfl rfl), Boxed.putObj h.2 hd rfl⟩
    · intro W h
      have hc := Boxed.cell h.2
      exact ⟨.bool false, by simp [results, Try.results61, go_sem, hc], by rw [hfin]; rfl, h.1⟩
  case done =>
    rintro D ys W hD rfl ⟨⟨A2, n2, c2, tc, hgo, _, _, _⟩, _, hb6, _, hB⟩ hK
    have HM : Marks w.heap.size W [{ target := .collected D, args := #[] }] := ⟨⟨D, rfl, by omega, hK, fun D' hD' => by cases hD'⟩, trivial⟩
    have hc6 := Boxed.cell hb6
    have hf6 := Boxed.frozen hb6
    have hle6 : w.heap.size ≤ g6 := by have := HG.out; omega
    have hf6s := Boxed.set (.bool true) hb6
    have hBs := hB.setCell (p := ⟨g6, 0, none⟩) hle6 (.bool true)
    have HMs := HM.box hb6 (.bool true)
    gi_wp2
    refine marks_leave (b := w.heap.size) (Φ := fun W => Below w.heap.size w W ∧ Boxed W g6 4 (.bool true)) ?_ ?_ _ _ HMs ⟨hBs, hf6s⟩
    · exact fun W D h hD hd => ⟨h.1.trans (belowK_b (w := w) (Nat.le_refl _) W D _ _ hD hd rfl rfl), Boxed.putObj h.2 hd rfl⟩
    · intro W h
      have hc := Boxed.cell h.2
      exact ⟨.bool true, by simp [results, Try.results61, go_sem, hc], by rw [hgo]; rfl, h.1⟩
end Go.Proofs.Ytenjldfflkinkaa.Rop

namespace Go.Proofs.Ytenjldfflkinkaa.Rop
set_option linter.unusedVariables false
set_option linter.unusedSimpArgs false
open Go.RowKit Go.Proofs.Ytenjldfflkinkaa.F Go.Proofs.YtenjldfflkinkaaW.PrintWords Go.Proofs.YtenjldfflkinkaaW.PrintLast Go.Proofs.YtenjldfflkinkaaW.PrintMore
theorem goes_q {w : World} {A A1 : Option Addr} {n c n1 c1 : Nat} {text : List Int} {vs : Nat → CV} {xs : Nat → Ch} {back b : Bool} (h : Sl w A n c text) (hR : Rc w A1 n1 c1 vs xs) (hq : (goesT back text ((dn n1 (Nat.le_refl n1)).map fun j => xs j.1)).isSome = b) (hn : n ≤ 4096) (hn1 : n1 ≤ 1000) (hv : ∀ i, i < n1 → (vs i).n ≤ 5000 ∧ (vs i).m ≤ 5000) :
    Calls Try.prog 61 #[.slice A n c, .slice A1 n1 c1, .bool back] w fun e w' => e = .returned (.bool b) ∧ Below w.heap.size w w' := by
  rw [← hq]
  exact goes_calls h hR hn hn1 hv
/-- a state: its values .. -/
structure SV where
  A : Option Addr
  n : Nat
  c : Nat
  A1 : Option Addr
  n1 : Nat
  c1 : Nat
  A2 : Option Addr
  n2 : Nat
  c2 : Nat
  v1 : Nat → CV
  v2 : Nat → CV
def SV.val (v : SV) : Value := .agg #[.slice v.A v.n v.c, .slice v.A1 v.n1 v.c1, .slice v.A2 v.n2 v.c2]
/-- .. and what they tell -/
structure SP where
  text : List Int
  x1 : Nat → Ch
  x2 : Nat → Ch
structure StOk (W : World) (v : SV) (s : SP) : Prop where
  t : Sl W v.A v.n v.c s.text
  u : Rc W v.A1 v.n1 v.c1 v.v1 s.x1
  r : Rc W v.A2 v.n2 v.c2 v.v2 s.x2
  bn : v.n ≤ 5000
  b1 : v.n1 ≤ 1000
  b2 : v.n2 ≤ 1000
  s1 : ∀ i, i < v.n1 → (v.v1 i).n ≤ 5000 ∧ (v.v1 i).m ≤ 5000
  s2 : ∀ i, i < v.n2 → (v.v2 i).n ≤ 5000 ∧ (v.v2 i).m ≤ 5000
theorem StOk.below {W W' : World} {v : SV} {s : SP} (h : StOk W v s) (hb : Below W.heap.size W W') : StOk W' v s := ⟨h.t.below hb, h.u.below hb, h.r.below hb, h.bn, h.b1, h.b2, h.s1, h.s2⟩
/-- what is wrong with a state -/
def rightE (v : SV) (s : SP) : Int :=
  if 4096 < v.n ∨ 16 < v.n1 ∨ 16 < v.n1 + v.n2 then 3 else if s.text.all scl = false then 11 else
  if (goesT true s.text ((dn v.n1 (Nat.le_refl _)).map fun j => s.x1 j.1)).isSome = false ∨ (goesT false s.text ((dn v.n2 (Nat.le_refl _)).map fun j => s.x2 j.1)).isSome = false then 50 else 0
section
variable {w : World} {v : SV} {s : SP}

set_option maxRecDepth 100000 in
set_option maxHeartbeats 4000000 in
theorem Right_calls (h : StOk w v s) : Calls Try.prog 35 #[v.val] w fun e w' => e = .returned (.int .i64 (rightE v s)) ∧ Below w.heap.size w w' := by
  obtain ⟨A, n, c, A1, n1, c1, A2, n2, c2, v1, v2⟩ := v
  dsimp only [SV.val]
  have ht := h.t
  have hu := h.u
  have hr := h.r
  have bn := h.bn
  have b1 := h.b1
  have b2 := h.b2
  have s1 := h.s1
  have s2 := h.s2
  clear h
  dsimp only at ht hu hr bn b1 b2 s1 s2
  obtain ⟨D, hD⟩ : ∃ D, w.alloc (Obj.cells #[Value.slice A n c, Value.slice A1 n1 c1, Value.slice A2 n2 c2] 26) = D := ⟨_, rfl⟩
  have m0 : D.cell? ⟨w.heap.size, 0, none⟩ = some (.slice A n c) := by rw [← hD, new_cell]; rfl
  have m1 : D.cell? ⟨w.heap.size, 1, none⟩ = some (.slice A1 n1 c1) := by rw [← hD, new_cell]; rfl
  have m2 : D.cell? ⟨w.heap.size, 2, none⟩ = some (.slice A2 n2 c2) := by rw [← hD, new_cell]; rfl
  have hbd : Below w.heap.size w D := by rw [← hD]; exact (Below.refl _ _).alloc (Nat.le_refl _) _
  have HBD := Aside0.mk hbd
  have HD := Aside0.mk hD
  have HT := Aside0.mk ht
  have HU := Aside0.mk hu
  have HRr := Aside0.mk hr
  have S1 := Aside0.mk s1
  have S2 := Aside0.mk s2
  have hgl : w.heap.size < D.heap.size := World.block_lt_of_cell? D _ m0
  clear hbd ht hu hr s1 s2 hD
  unfold rightE
  dsimp only
  by_cases h1 : 4096 < n
  · rw [if_pos (.inl h1)]
    have d1 : decide ((4096 : Int) < (n : Int)) = true := decide_eq_true (by omega)
    have d1' : (4096 : Int) < (n : Int) := by omega
    go_enter Try.func35, Try.ntmps35
    go_wp2
    go_ret
    exact ⟨rfl, (Below.refl _ _).alloc (Nat.le_refl _) _⟩
  have d1 : ¬ (4096 : Int) < (n : Int) := by omega
  by_cases h2 : 16 < n1
  · rw [if_pos (.inr (.inl h2))]
    have d2 : decide ((16 : Int) < (n1 : Int)) = true := decide_eq_true (by omega)
    go_enter Try.func35, Try.ntmps35
    go_wp2
    go_ret
    exact ⟨rfl, (Below.refl _ _).alloc (Nat.le_refl _) _⟩
  have d2 : decide ((16 : Int) < (n1 : Int)) = false := decide_eq_false (by omega)
  have hsub : IntKind.i64.wrap (16 - (n1 : Int)) = 16 - (n1 : Int) := wrap_small (by omega)
  have hn1b : (n1 : Int) ≤ 16 := by omega
  by_cases h3 : 16 < n1 + n2
  · rw [if_pos (.inr (.inr h3))]
    have d3 : decide (16 - (n1 : Int) < (n2 : Int)) = true := decide_eq_true (by omega)
    go_enter Try.func35, Try.ntmps35
    go_wp2
    go_ret
    exact ⟨rfl, (Below.refl _ _).alloc (Nat.le_refl _) _⟩
  have d3 : decide (16 - (n1 : Int) < (n2 : Int)) = false := decide_eq_false (by omega)
  rw [if_neg (by omega)]
  have hn4 : n ≤ 4096 := by omega
  by_cases h4 : s.text.all scl = false
  · rw [if_pos h4]
    have CS := Aside0.mk (fun W (hW : Below w.heap.size w W) => scalars_q (HT.out.below hW) h4 (by omega))
    clear h4
    go_enter Try.func35, Try.ntmps35
    go_wp2_with (go_at_call 60; (with_reducible refine (CS.out _ ((Below.refl _ _).alloc (Nat.le_refl _) _)).mono ?_); rintro e w' ⟨rfl, rfl⟩)
    go_ret
    exact ⟨rfl, (Below.refl _ _).alloc (Nat.le_refl _) _⟩
  rw [if_neg h4]
  have h4' : s.text.all scl = true := by simpa using h4
  have CS := Aside0.mk (fun W (hW : Below w.heap.size w W) => scalars_q (HT.out.below hW) h4' (by omega))
  clear h4 h4'
  by_cases h5 : (goesT true s.text ((dn n1 (Nat.le_refl _)).map fun j => s.x1 j.1)).isSome = false
  · rw [if_pos (.inl h5)]
    have CG := Aside0.mk (fun W (hW : Below w.heap.size w W) => goes_q (HT.out.below hW) (HU.out.below hW) h5 hn4 b1 S1.out)
    clear h5
    go_enter Try.func35, Try.ntmps35
    go_wp2_with (first
      | (go_at_call 60; (with_reducible refine (CS.out _ ((Below.refl _ _).alloc (Nat.le_refl _) _)).mono ?_); rintro e w' ⟨rfl, rfl⟩)
      | (go_at_call 61; (with_reducible refine (CG.out _ ((Below.refl _ _).alloc (Nat.le_refl _) _)).mono ?_); rintro e w1 ⟨rfl, hb⟩))
    go_ret
    exact ⟨rfl, below_step ((Below.refl _ _).alloc (Nat.le_refl _) _) hb⟩
  have h5' : (goesT true s.text ((dn n1 (Nat.le_refl _)).map fun j => s.x1 j.1)).isSome = true := by rw [Bool.not_eq_false] at h5; exact h5
  have CG := Aside0.mk (fun W (hW : Below w.heap.size w W) => goes_q (HT.out.below hW) (HU.out.below hW) h5' hn4 b1 S1.out)
  obtain ⟨q, hq⟩ : ∃ q, (goesT false s.text ((dn n2 (Nat.le_refl _)).map fun j => s.x2 j.1)).isSome = q := ⟨_, rfl⟩
  rw [hq]
  have CH := Aside0.mk (fun W (hW : Below w.heap.size w W) => goes_q (HT.out.below hW) (HRr.out.below hW) hq hn4 b2 S2.out)
  have hcl : ∀ W1, Below (w.alloc (Obj.cells #[Value.slice A n c, Value.slice A1 n1 c1, Value.slice A2 n2 c2] 26)).heap.size (w.alloc (Obj.cells #[Value.slice A n c, Value.slice A1 n1 c1, Value.slice A2 n2 c2] 26)) W1 → W1.cell? ⟨w.heap.size, 0, none⟩ = some (.slice A n c) ∧ W1.cell? ⟨w.heap.size, 2, none⟩ = some (.slice A2 n2 c2) := fun W1 hb => by
    rw [HD.out] at hb
    exact ⟨(hb.cell (p := ⟨w.heap.size, 0, none⟩) hgl).trans m0, (hb.cell (p := ⟨w.heap.size, 2, none⟩) hgl).trans m2⟩
  have HCL := Aside0.mk hcl
  cases q
  case false =>
    rw [if_pos (.inr rfl)]
    clear h5 h5' hq hcl m0 m1 m2 hgl
    go_enter Try.func35, Try.ntmps35
    go_wp2_with (first
      | (go_at_call 60; (with_reducible refine (CS.out _ ((Below.refl _ _).alloc (Nat.le_refl _) _)).mono ?_); rintro e w' ⟨rfl, rfl⟩)
      | (go_at_call 61; (with_reducible refine (CG.out _ ((Below.refl _ _).alloc (Nat.le_refl _) _)).mono ?_); rintro e w1 ⟨rfl, hb⟩; obtain ⟨k0, k2⟩ := HCL.out _ hb; have bt := below_step ((Below.refl _ _).alloc (Nat.le_refl _) _) hb; have BT := Aside0.mk bt; clear bt hb)
      | (go_at_call 61; (with_reducible refine (CH.out _ BT.out).mono ?_); rintro e w2 ⟨rfl, hb2⟩))
    go_ret
    exact ⟨rfl, below_step BT.out hb2⟩
  case true =>
    rw [if_neg (by rw [h5']; simp)]
    clear h5 h5' hq hcl m0 m1 m2 hgl
    go_enter Try.func35, Try.ntmps35
    go_wp2_with (first
      | (go_at_call 60; (with_reducible refine (CS.out _ ((Below.refl _ _).alloc (Nat.le_refl _) _)).mono ?_); rintro e w' ⟨rfl, rfl⟩)
      | (go_at_call 61; (with_reducible refine (CG.out _ ((Below.refl _ _).alloc (Nat.le_refl _) _)).mono ?_); rintro e w1 ⟨rfl, hb⟩; obtain ⟨k0, k2⟩ := HCL.out _ hb; have bt := below_step ((Below.refl _ _).alloc (Nat.le_refl _) _) hb; have BT := Aside0.mk bt; clear bt hb)
      | (go_at_call 61; (with_reducible refine (CH.out _ BT.out).mono ?_); rintro e w2 ⟨rfl, hb2⟩))
    go_ret
    exact ⟨rfl, below_step BT.out hb2⟩
end
end Go.Proofs.Ytenjldfflkinkaa.Rop

namespace Go.Proofs.Ytenjldfflkinkaa.Rop
set_option linter.unusedVariables false
set_option linter.unusedSimpArgs false
open Go.RowKit Go.Proofs.Ytenjldfflkinkaa.F Go.Proofs.YtenjldfflkinkaaW.PrintWords Go.Proofs.YtenjldfflkinkaaW.PrintLast Go.Proofs.YtenjldfflkinkaaW.PrintMore
def Ch.zero : Ch := ⟨0, [], []⟩
theorem ChV.zero (W : World) : ChV W 0 none 0 0 none 0 0 Ch.zero := ⟨rfl, Sl.nil W, Sl.nil W⟩
/-- a change and what is wrong -/
def GivesCE (x : Ch) (q : Int) (w : World) (e : Ending) (w' : World) : Prop := ∃ p A n c B m d, e = .returned (.tuple #[.agg #[.int .i64 p, .slice A n c, .slice B m d], .int .i64 q]) ∧ ChV w' p A n c B m d x ∧ Below w.heap.size w w'
/-- what an insertion does -/
def insE (text : List Int) (a : Int) (z : List Int) : Ch × Int :=
  if z.length = 0 then (Ch.zero, 2) else if z.all scl = false then (Ch.zero, 11) else if a < 0 ∨ (text.length : Int) < a then (Ch.zero, 4) else if 4096 < z.length + text.length then (Ch.zero, 3) else (⟨a, [], z⟩, 0)
/-- what a deletion does -/
def remE (text : List Int) (a b : Int) : Ch × Int :=
  if a < 0 ∨ (text.length : Int) < b ∨ b < a then (Ch.zero, 4) else if a = b then (Ch.zero, 2) else (⟨a, (text.drop a.toNat).take (b.toNat - a.toNat), []⟩, 0)
section
variable {w : World} {A Az : Option Addr} {n c nz cz : Nat} {text z : List Int} {k a b : Int}

set_option maxRecDepth 100000 in
set_option maxHeartbeats 4000000 in
theorem insert_calls (h : Sl w A n c text) (hz : Sl w Az nz cz z) (hn : n ≤ 5000) (hnz : nz ≤ 5000) : Calls Try.prog 36 #[.slice A n c, .agg #[.int .i64 k, .int .i64 a, .int .i64 b, .slice Az nz cz]] w (GivesCE (insE text a z).1 (insE text a z).2 w) := by
  have HZZ := Aside0.mk hz
  unfold insE
  rw [hz.hn, h.hn]
  have hzn := hz.hn
  clear h hz
  by_cases h1 : nz = 0
  · rw [if_pos h1]
    subst h1
    go_enter Try.func36, Try.ntmps36
    go_wp2
    refine bodyPost_ret (v := .tuple #[.agg #[.int .i64 0, .slice none 0 0, .slice none 0 0], .int .i64 2]) (by simp [results, Try.results36, go_sem]) rfl ?_
    exact ⟨0, none, 0, 0, none, 0, 0, rfl, ChV.zero _, by (repeat (first | exact Below.refl _ _ | apply below_alloc))⟩
  rw [if_neg h1]
  have d1 : ((nz : Int) == 0) = false := by simp; omega
  by_cases h2 : z.all scl = false
  · rw [if_pos h2]
    have CS := Aside0.mk (fun W (hW : Below w.heap.size w W) => scalars_q (HZZ.out.below hW) h2 (by omega))
    clear h2
    go_enter Try.func36, Try.ntmps36
    go_wp2_with (go_at_call 60; (with_reducible refine (CS.out _ (by (repeat (first | exact Below.refl _ _ | apply below_alloc)))).mono ?_); rintro e w' ⟨rfl, rfl⟩)
    refine bodyPost_ret (v := .tuple #[.agg #[.int .i64 0, .slice none 0 0, .slice none 0 0], .int .i64 11]) (by simp [results, Try.results36, go_sem]) rfl ?_
    exact ⟨0, none, 0, 0, none, 0, 0, rfl, ChV.zero _, by (repeat (first | exact Below.refl _ _ | apply below_alloc))⟩
  rw [if_neg h2]
  have h2' : z.all scl = true := by rw [Bool.not_eq_false] at h2; exact h2
  have CS := Aside0.mk (fun W (hW : Below w.heap.size w W) => scalars_q (HZZ.out.below hW) h2' (by omega))
  clear h2 h2'
  by_cases h3 : a < 0 ∨ (n : Int) < a
  · rw [if_pos h3]
    by_cases h4 : a < 0
    · have d4 : decide (a < 0) = true := decide_eq_true h4
      clear h3
      go_enter Try.func36, Try.ntmps36
      go_wp2_with (go_at_call 60; (with_reducible refine (CS.out _ (by (repeat (first | exact Below.refl _ _ | apply below_alloc)))).mono ?_); rintro e w' ⟨rfl, rfl⟩)
      refine bodyPost_ret (v := .tuple #[.agg #[.int .i64 0, .slice none 0 0, .slice none 0 0], .int .i64 4]) (by simp [results, Try.results36, go_sem]) rfl ?_
      exact ⟨0, none, 0, 0, none, 0, 0, rfl, ChV.zero _, by (repeat (first | exact Below.refl _ _ | apply below_alloc))⟩
    · have d4 : decide (a < 0) = false := decide_eq_false h4
      have d5 : decide ((n : Int) < a) = true := decide_eq_true (by omega)
      clear h3
      go_enter Try.func36, Try.ntmps36
      go_wp2_with (go_at_call 60; (with_reducible refine (CS.out _ (by (repeat (first | exact Below.refl _ _ | apply below_alloc)))).mono ?_); rintro e w' ⟨rfl, rfl⟩)
      refine bodyPost_ret (v := .tuple #[.agg #[.int .i64 0, .slice none 0 0, .slice none 0 0], .int .i64 4]) (by simp [results, Try.results36, go_sem]) rfl ?_
      exact ⟨0, none, 0, 0, none, 0, 0, rfl, ChV.zero _, by (repeat (first | exact Below.refl _ _ | apply below_alloc))⟩
  rw [if_neg h3]
  have d4 : decide (a < 0) = false := decide_eq_false (by omega)
  have d5 : decide ((n : Int) < a) = false := decide_eq_false (by omega)
  have hsub : IntKind.i64.wrap (4096 - (n : Int)) = 4096 - (n : Int) := wrap_small (by omega)
  have hnb : (n : Int) ≤ 5000 := by omega
  by_cases h6 : 4096 < nz + n
  · rw [if_pos h6]
    have d6 : decide (4096 - (n : Int) < (nz : Int)) = true := decide_eq_true (by omega)
    go_enter Try.func36, Try.ntmps36
    go_wp2_with (go_at_call 60; (with_reducible refine (CS.out _ (by (repeat (first | exact Below.refl _ _ | apply below_alloc)))).mono ?_); rintro e w' ⟨rfl, rfl⟩)
    refine bodyPost_ret (v := .tuple #[.agg #[.int .i64 0, .slice none 0 0, .slice none 0 0], .int .i64 3]) (by simp [results, Try.results36, go_sem]) rfl ?_
    exact ⟨0, none, 0, 0, none, 0, 0, rfl, ChV.zero _, by (repeat (first | exact Below.refl _ _ | apply below_alloc))⟩
  rw [if_neg h6]
  have d6 : decide (4096 - (n : Int) < (nz : Int)) = false := decide_eq_false (by omega)
  clear h3 h6 h1
  go_enter Try.func36, Try.ntmps36
  go_wp2_with (go_at_call 60; (with_reducible refine (CS.out _ (by (repeat (first | exact Below.refl _ _ | apply below_alloc)))).mono ?_); rintro e w' ⟨rfl, rfl⟩)
  obtain ⟨D1, hD1⟩ : ∃ D1, w.alloc (Obj.cells #[Value.int IntKind.i64 k, Value.int IntKind.i64 a, Value.int IntKind.i64 b, Value.slice Az nz cz] 30) = D1 := ⟨_, rfl⟩
  have m0 : D1.cell? ⟨w.heap.size, 0, none⟩ = some (.int IntKind.i64 k) := by rw [← hD1, new_cell]; rfl
  have m1 : D1.cell? ⟨w.heap.size, 1, none⟩ = some (.int IntKind.i64 a) := by rw [← hD1, new_cell]; rfl
  have m2 : D1.cell? ⟨w.heap.size, 2, none⟩ = some (.int IntKind.i64 b) := by rw [← hD1, new_cell]; rfl
  have m3 : D1.cell? ⟨w.heap.size, 3, none⟩ = some (.slice Az nz cz) := by rw [← hD1, new_cell]; rfl
  have hz1 : D1.heap.size = w.heap.size + 1 := by rw [← hD1]; simp
  have hb1 : Below w.heap.size w D1 := by rw [← hD1]; exact (Below.refl _ _).alloc (Nat.le_refl _) _
  rw [hD1]
  obtain ⟨D2, hD2⟩ : ∃ D2, D1.alloc (Obj.cells #[Value.int IntKind.i64 0, Value.slice none 0 0, Value.slice none 0 0] 32) = D2 := ⟨_, rfl⟩
  have hb2 : Below D1.heap.size D1 D2 := by rw [← hD2]; exact (Below.refl _ _).alloc (Nat.le_refl _) _
  have z0 : D2.heap[w.heap.size + 1]? = some (.cells #[Value.int IntKind.i64 0, Value.slice none 0 0, Value.slice none 0 0] 32 (0, 0)) := by rw [← hD2, ← hz1]; exact World.alloc_heap_new D1 _
  have hz2 : D2.heap.size = w.heap.size + 2 := by rw [← hD2, World.size_alloc, hz1]
  rw [hD2]
  replace m0 := (hb2.cell (p := ⟨w.heap.size, 0, none⟩) (by rw [hz1]; exact Nat.lt_succ_self _)).trans m0
  replace m1 := (hb2.cell (p := ⟨w.heap.size, 1, none⟩) (by rw [hz1]; exact Nat.lt_succ_self _)).trans m1
  replace m2 := (hb2.cell (p := ⟨w.heap.size, 2, none⟩) (by rw [hz1]; exact Nat.lt_succ_self _)).trans m2
  replace m3 := (hb2.cell (p := ⟨w.heap.size, 3, none⟩) (by rw [hz1]; exact Nat.lt_succ_self _)).trans m3
  have HBD := Aside0.mk (below_step hb1 hb2)
  have h1l : w.heap.size < D2.heap.size := by omega
  have h2l : w.heap.size + 1 < D2.heap.size := by omega
  clear hz2 hD1 hD2 hz1 hb1 hb2
  obtain ⟨h, hh⟩ : ∃ h, w.heap.size + 1 = h := ⟨_, rfl⟩
  have hgh : w.heap.size ≤ h := by omega
  rw [hh] at z0 h2l ⊢
  have HZ := Aside0.mk z0
  have y0 : D2.cell? ⟨h, 0, none⟩ = some (.int .i64 0) := blk_cell z0
  have y1 : D2.cell? ⟨h, 1, none⟩ = some (.slice none 0 0) := blk_cell z0
  have y2 : D2.cell? ⟨h, 2, none⟩ = some (.slice none 0 0) := blk_cell z0
  have f0 : D2.frozen? ⟨h, 0, none⟩ = false := blk_frozen z0
  have f1 : D2.frozen? ⟨h, 1, none⟩ = false := blk_frozen z0
  have f2 : D2.frozen? ⟨h, 2, none⟩ = false := blk_frozen z0
  clear z0
  obtain ⟨g, hg⟩ : ∃ g, w.heap.size = g := ⟨_, rfl⟩
  have hle : w.heap.size ≤ h := by omega
  have hgne : g ≠ h := by omega
  rw [hg] at m0 m1 m2 m3 h1l hgh ⊢
  clear hg hh
  have X2 := Aside0.mk (HZZ.out.below HBD.out)
  go_region_held3 (fun W' => W'.cell? ⟨g, 1, none⟩ = some (.int .i64 a) ∧ W'.cell? ⟨g, 3, none⟩ = some (.slice Az nz cz) ∧ Below w.heap.size w W')
    (((try dsimp only); (repeat' apply And.intro); all_goals (first | assumption | exact HBD.out | exact below_drew1 HBD.out | exact (cell_far3 hgne).trans (by assumption) | exact below_set3 hle (by assumption) | exact Below.refl _ _ | exact below_drew1 (Below.refl _ _) | exact below_drew1 (pw_below_drewN (Below.refl _ _) _) | exact below_drew1 (by assumption) | exact below_step (by assumption) (by assumption) | go_keep)))
    (first | (go_at_call 62; (with_reducible refine (Clone_calls (X2.out.below (by (first | assumption | exact Below.refl _ _ | exact pw_below_drewN (Below.refl _ _) _ | exact below_drew1 (pw_below_drewN (Below.refl _ _) _) | exact below_drew1 (Below.refl _ _) | exact pw_below_drewN (by assumption) _ | exact below_drew1 (by assumption)))) (by omega)).mono ?_); rintro e w3 ⟨A3, n3, c3, rfl, hS3, hb⟩; have bt3 := below_step (w := D2) (by (first | assumption | exact Below.refl _ _ | exact pw_below_drewN (Below.refl _ _) _ | exact below_drew1 (pw_below_drewN (Below.refl _ _) _) | exact below_drew1 (Below.refl _ _) | exact pw_below_drewN (by assumption) _ | exact below_drew1 (by assumption))) hb; have m0_3 := (bt3.cell (p := ⟨g, 0, none⟩) h1l).trans m0; have m1_3 := (bt3.cell (p := ⟨g, 1, none⟩) h1l).trans m1; have m2_3 := (bt3.cell (p := ⟨g, 2, none⟩) h1l).trans m2; have m3_3 := (bt3.cell (p := ⟨g, 3, none⟩) h1l).trans m3; have y0_3 := (bt3.cell (p := ⟨h, 0, none⟩) h2l).trans y0; have f0_3 := (bt3.frozen (p := ⟨h, 0, none⟩) h2l).trans f0; have y1_3 := (bt3.cell (p := ⟨h, 1, none⟩) h2l).trans y1; have f1_3 := (bt3.frozen (p := ⟨h, 1, none⟩) h2l).trans f1; have y2_3 := (bt3.cell (p := ⟨h, 2, none⟩) h2l).trans y2; have f2_3 := (bt3.frozen (p := ⟨h, 2, none⟩) h2l).trans f2; have bw3 := below_step HBD.out bt3; have S3 := Aside0.mk hS3; clear hS3 hb))
  have hno := blk_noI ((bt3.block _ h2l).trans HZ.out) noI_ch
  obtain ⟨c0, c1, c2⟩ := set3_get (a := Value.int .i64 a) (b := Value.slice none 0 0) (c := Value.slice A3 n3 c3) y0_3 y1_3 y2_3
  have hb5 := below_set3 (a := Value.int .i64 a) (b := Value.slice none 0 0) (c := Value.slice A3 n3 c3) hle bw3
  have S5 := S3.out.only hno (fun k _ hk => set3_far (a := Value.int .i64 a) (b := Value.slice none 0 0) (c := Value.slice A3 n3 c3) hk)
  generalize ((w3.setCell ⟨h, 0, none⟩ (Value.int .i64 a)).setCell ⟨h, 1, none⟩ (Value.slice none 0 0)).setCell ⟨h, 2, none⟩ (Value.slice A3 n3 c3) = W5 at c0 c1 c2 hb5 S5 ⊢
  go_wp2
  refine bodyPost_ret (v := .tuple #[.agg #[.int .i64 a, .slice none 0 0, .slice A3 n3 c3], .int .i64 0]) (by simp [results, Try.results36, go_sem, c0, c1, c2]) rfl ?_
  exact ⟨a, none, 0, 0, A3, n3, c3, rfl, ⟨rfl, Sl.nil _, S5⟩, hb5⟩
set_option maxRecDepth 100000 in
set_option maxHeartbeats 4000000 in
theorem remove_calls (h : Sl w A n c text) (hn : n ≤ 5000) : Calls Try.prog 37 #[.slice A n c, .agg #[.int .i64 k, .int .i64 a, .int .i64 b, .slice Az nz cz]] w (GivesCE (remE text a b).1 (remE text a b).2 w) := by
  unfold remE
  rw [h.hn]
  by_cases h1 : a < 0 ∨ (n : Int) < b ∨ b < a
  · rw [if_pos h1]
    clear h
    by_cases h4 : a < 0
    · have d4 : decide (a < 0) = true := decide_eq_true h4
      clear h1
      go_enter Try.func37, Try.ntmps37
      go_wp2
      refine bodyPost_ret (v := .tuple #[.agg #[.int .i64 0, .slice none 0 0, .slice none 0 0], .int .i64 4]) (by simp [results, Try.results37, go_sem]) rfl ?_
      exact ⟨0, none, 0, 0, none, 0, 0, rfl, ChV.zero _, by (repeat (first | exact Below.refl _ _ | apply below_alloc))⟩
    have d4 : decide (a < 0) = false := decide_eq_false h4
    by_cases h5 : (n : Int) < b
    · have d5 : decide ((n : Int) < b) = true := decide_eq_true h5
      clear h1
      go_enter Try.func37, Try.ntmps37
      go_wp2
      refine bodyPost_ret (v := .tuple #[.agg #[.int .i64 0, .slice none 0 0, .slice none 0 0], .int .i64 4]) (by simp [results, Try.results37, go_sem]) rfl ?_
      exact ⟨0, none, 0, 0, none, 0, 0, rfl, ChV.zero _, by (repeat (first | exact Below.refl _ _ | apply below_alloc))⟩
    have d5 : decide ((n : Int) < b) = false := decide_eq_false h5
    have d6 : decide (b < a) = true := decide_eq_true (by omega)
    clear h1
    go_enter Try.func37, Try.ntmps37
    go_wp2
    refine bodyPost_ret (v := .tuple #[.agg #[.int .i64 0, .slice none 0 0, .slice none 0 0], .int .i64 4]) (by simp [results, Try.results37, go_sem]) rfl ?_
    exact ⟨0, none, 0, 0, none, 0, 0, rfl, ChV.zero _, by (repeat (first | exact Below.refl _ _ | apply below_alloc))⟩
  rw [if_neg h1]
  have d4 : decide (a < 0) = false := decide_eq_false (by omega)
  have d5 : decide ((n : Int) < b) = false := decide_eq_false (by omega)
  have d6 : decide (b < a) = false := decide_eq_false (by omega)
  obtain ⟨i, rfl⟩ : ∃ i : Nat, a = (i : Int) := ⟨a.toNat, by omega⟩
  obtain ⟨j, rfl⟩ : ∃ j : Nat, b = (j : Int) := ⟨b.toNat, by omega⟩
  rw [Int.toNat_natCast, Int.toNat_natCast]
  have hjn : j ≤ n := by omega
  have hij : i ≤ j := by omega
  have e5 : decide (n < j) = false := decide_eq_false (by omega)
  have e6 : decide (j < i) = false := decide_eq_false (by omega)
  by_cases h7 : i = j
  · subst h7
    rw [if_pos rfl]
    clear h h1
    go_enter Try.func37, Try.ntmps37
    go_wp2
    refine bodyPost_ret (v := .tuple #[.agg #[.int .i64 0, .slice none 0 0, .slice none 0 0], .int .i64 2]) (by simp [results, Try.results37, go_sem]) rfl ?_
    exact ⟨0, none, 0, 0, none, 0, 0, rfl, ChV.zero _, by (repeat (first | exact Below.refl _ _ | apply below_alloc))⟩
  rw [if_neg (by omega)]
  have d7 : ((i : Int) == (j : Int)) = false := by simp; omega
  have d8 : ¬ (i : Int) = (j : Int) := by omega
  have d9 : ¬ i = j := h7
  have hmid := fun W => run_mid (A := A) (c := c) (show i ≤ j by omega) (show j ≤ n by omega) h.hc W
  obtain ⟨B, hB⟩ : ∃ B, restA A c i = B := ⟨_, rfl⟩
  obtain ⟨m, hm⟩ : ∃ m, j - i = m := ⟨_, rfl⟩
  obtain ⟨c9, hc9⟩ : ∃ m, c - i = m := ⟨_, rfl⟩
  have hmm : m ≤ 5000 := by omega
  have hSm : Sl w B m c9 ((text.drop i).take m) := by
    have h1 := C_mid (by have := h.hC; rw [← h.hn] at this; exact this) (by rw [h.hn]; exact h.hc) (show i ≤ j by omega) (show j ≤ text.length by rw [h.hn]; omega)
    rw [hB, hm] at h1
    have h2 := h.hc
    have h3 := h.hm
    exact ⟨h1, by have := h.hn; simp; omega, by omega, by omega⟩
  rw [hB, hm, hc9] at hmid
  have HSM := Aside0.mk hSm
  rw [hm]
  clear hSm hB hc9 h h1 h7 hm
  clear hij hjn
  go_enter Try.func37, Try.ntmps37
  go_wp2
  obtain ⟨D1, hD1⟩ : ∃ D1, w.alloc (Obj.cells #[Value.int IntKind.i64 k, Value.int IntKind.i64 (i : Int), Value.int IntKind.i64 (j : Int), Value.slice Az nz cz] 30) = D1 := ⟨_, rfl⟩
  have m0 : D1.cell? ⟨w.heap.size, 0, none⟩ = some (.int IntKind.i64 k) := by rw [← hD1, new_cell]; rfl
  have m1 : D1.cell? ⟨w.heap.size, 1, none⟩ = some (.int IntKind.i64 (i : Int)) := by rw [← hD1, new_cell]; rfl
  have m2 : D1.cell? ⟨w.heap.size, 2, none⟩ = some (.int IntKind.i64 (j : Int)) := by rw [← hD1, new_cell]; rfl
  have m3 : D1.cell? ⟨w.heap.size, 3, none⟩ = some (.slice Az nz cz) := by rw [← hD1, new_cell]; rfl
  have hz1 : D1.heap.size = w.heap.size + 1 := by rw [← hD1]; simp
  have hb1 : Below w.heap.size w D1 := by rw [← hD1]; exact (Below.refl _ _).alloc (Nat.le_refl _) _
  rw [hD1]
  obtain ⟨D2, hD2⟩ : ∃ D2, D1.alloc (Obj.cells #[Value.int IntKind.i64 0, Value.slice none 0 0, Value.slice none 0 0] 32) = D2 := ⟨_, rfl⟩
  have hb2 : Below D1.heap.size D1 D2 := by rw [← hD2]; exact (Below.refl _ _).alloc (Nat.le_refl _) _
  have z0 : D2.heap[w.heap.size + 1]? = some (.cells #[Value.int IntKind.i64 0, Value.slice none 0 0, Value.slice none 0 0] 32 (0, 0)) := by rw [← hD2, ← hz1]; exact World.alloc_heap_new D1 _
  have hz2 : D2.heap.size = w.heap.size + 2 := by rw [← hD2, World.size_alloc, hz1]
  rw [hD2]
  replace m0 := (hb2.cell (p := ⟨w.heap.size, 0, none⟩) (by rw [hz1]; exact Nat.lt_succ_self _)).trans m0
  replace m1 := (hb2.cell (p := ⟨w.heap.size, 1, none⟩) (by rw [hz1]; exact Nat.lt_succ_self _)).trans m1
  replace m2 := (hb2.cell (p := ⟨w.heap.size, 2, none⟩) (by rw [hz1]; exact Nat.lt_succ_self _)).trans m2
  replace m3 := (hb2.cell (p := ⟨w.heap.size, 3, none⟩) (by rw [hz1]; exact Nat.lt_succ_self _)).trans m3
  have HBD := Aside0.mk (below_step hb1 hb2)
  have h1l : w.heap.size < D2.heap.size := by omega
  have h2l : w.heap.size + 1 < D2.heap.size := by omega
  clear hz2 hD1 hD2 hz1 hb1 hb2
  obtain ⟨h, hh⟩ : ∃ h, w.heap.size + 1 = h := ⟨_, rfl⟩
  have hgh : w.heap.size ≤ h := by omega
  rw [hh] at z0 h2l ⊢
  have HZ := Aside0.mk z0
  have y0 : D2.cell? ⟨h, 0, none⟩ = some (.int .i64 0) := blk_cell z0
  have y1 : D2.cell? ⟨h, 1, none⟩ = some (.slice none 0 0) := blk_cell z0
  have y2 : D2.cell? ⟨h, 2, none⟩ = some (.slice none 0 0) := blk_cell z0
  have f0 : D2.frozen? ⟨h, 0, none⟩ = false := blk_frozen z0
  have f1 : D2.frozen? ⟨h, 1, none⟩ = false := blk_frozen z0
  have f2 : D2.frozen? ⟨h, 2, none⟩ = false := blk_frozen z0
  clear z0
  obtain ⟨g, hg⟩ : ∃ g, w.heap.size = g := ⟨_, rfl⟩
  have hle : w.heap.size ≤ h := by omega
  have hgne : g ≠ h := by omega
  rw [hg] at m0 m1 m2 m3 h1l hgh ⊢
  clear hg hh
  have X2 := Aside0.mk (HSM.out.below HBD.out)
  go_region_held3 (fun W' => W'.cell? ⟨g, 1, none⟩ = some (.int .i64 (i : Int)) ∧ W'.cell? ⟨g, 2, none⟩ = some (.int .i64 (j : Int)) ∧ Below w.heap.size w W')
    (((try dsimp only); (repeat' apply And.intro); all_goals (first | assumption | exact HBD.out | exact below_drew1 HBD.out | exact (cell_far3 hgne).trans (by assumption) | exact below_set3 hle (by assumption) | exact Below.refl _ _ | exact below_drew1 (Below.refl _ _) | exact below_drew1 (pw_below_drewN (Below.refl _ _) _) | exact below_drew1 (by assumption) | exact below_step (by assumption) (by assumption) | go_keep)))
    (first | (go_at_call 62; (with_reducible refine (Clone_calls (X2.out.below (by (first | assumption | exact Below.refl _ _ | exact pw_below_drewN (Below.refl _ _) _ | exact below_drew1 (pw_below_drewN (Below.refl _ _) _) | exact below_drew1 (Below.refl _ _) | exact pw_below_drewN (by assumption) _ | exact below_drew1 (by assumption)))) (by omega)).mono ?_); rintro e w3 ⟨A3, n3, c3, rfl, hS3, hb⟩; have bt3 := below_step (w := D2) (by (first | assumption | exact Below.refl _ _ | exact pw_below_drewN (Below.refl _ _) _ | exact below_drew1 (pw_below_drewN (Below.refl _ _) _) | exact below_drew1 (Below.refl _ _) | exact pw_below_drewN (by assumption) _ | exact below_drew1 (by assumption))) hb; have m0_3 := (bt3.cell (p := ⟨g, 0, none⟩) h1l).trans m0; have m1_3 := (bt3.cell (p := ⟨g, 1, none⟩) h1l).trans m1; have m2_3 := (bt3.cell (p := ⟨g, 2, none⟩) h1l).trans m2; have m3_3 := (bt3.cell (p := ⟨g, 3, none⟩) h1l).trans m3; have y0_3 := (bt3.cell (p := ⟨h, 0, none⟩) h2l).trans y0; have f0_3 := (bt3.frozen (p := ⟨h, 0, none⟩) h2l).trans f0; have y1_3 := (bt3.cell (p := ⟨h, 1, none⟩) h2l).trans y1; have f1_3 := (bt3.frozen (p := ⟨h, 1, none⟩) h2l).trans f1; have y2_3 := (bt3.cell (p := ⟨h, 2, none⟩) h2l).trans y2; have f2_3 := (bt3.frozen (p := ⟨h, 2, none⟩) h2l).trans f2; have bw3 := below_step HBD.out bt3; have S3 := Aside0.mk hS3; clear hS3 hb))
  have hno := blk_noI ((bt3.block _ h2l).trans HZ.out) noI_ch
  obtain ⟨c0, c1, c2⟩ := set3_get (a := Value.int .i64 (i : Int)) (b := Value.slice A3 n3 c3) (c := Value.slice none 0 0) y0_3 y1_3 y2_3
  have hb5 := below_set3 (a := Value.int .i64 (i : Int)) (b := Value.slice A3 n3 c3) (c := Value.slice none 0 0) hle bw3
  have S5 := S3.out.only hno (fun k _ hk => set3_far (a := Value.int .i64 (i : Int)) (b := Value.slice A3 n3 c3) (c := Value.slice none 0 0) hk)
  generalize ((w3.setCell ⟨h, 0, none⟩ (Value.int .i64 (i : Int))).setCell ⟨h, 1, none⟩ (Value.slice A3 n3 c3)).setCell ⟨h, 2, none⟩ (Value.slice none 0 0) = W5 at c0 c1 c2 hb5 S5 ⊢
  go_wp2
  refine bodyPost_ret (v := .tuple #[.agg #[.int .i64 (i : Int), .slice A3 n3 c3, .slice none 0 0], .int .i64 0]) (by simp [results, Try.results37, go_sem, c0, c1, c2]) rfl ?_
  exact ⟨(i : Int), A3, n3, c3, none, 0, 0, rfl, ⟨rfl, S5, Sl.nil _⟩, hb5⟩
end
end Go.Proofs.Ytenjldfflkinkaa.Rop

namespace Go.Proofs.Ytenjldfflkinkaa.Rop
set_option linter.unusedVariables false
set_option linter.unusedSimpArgs false
open Go.RowKit Go.Proofs.Ytenjldfflkinkaa.F Go.Proofs.YtenjldfflkinkaaW.PrintWords Go.Proofs.YtenjldfflkinkaaW.PrintLast Go.Proofs.YtenjldfflkinkaaW.PrintMore
/-- a change written into its block -/
theorem set3_ch {W w : World} {n0 r t : Nat} {p0 p : Int} {A0 B0 A B : Option Addr} {a0 b0 a1 b1 n c m d : Nat} {x : Ch} (zr : W.heap[r]? = some (.cells #[.int .i64 p0, .slice A0 a0 b0, .slice B0 a1 b1] t (0, 0))) (hV : ChV W p A n c B m d x) (hb : Below n0 w W) (hle : n0 ≤ r) :
    (((W.setCell ⟨r, 0, none⟩ (.int .i64 p)).setCell ⟨r, 1, none⟩ (.slice A n c)).setCell ⟨r, 2, none⟩ (.slice B m d)).cell? ⟨r, 0, none⟩ = some (.int .i64 p) ∧ (((W.setCell ⟨r, 0, none⟩ (.int .i64 p)).setCell ⟨r, 1, none⟩ (.slice A n c)).setCell ⟨r, 2, none⟩ (.slice B m d)).cell? ⟨r, 1, none⟩ = some (.slice A n c) ∧
    (((W.setCell ⟨r, 0, none⟩ (.int .i64 p)).setCell ⟨r, 1, none⟩ (.slice A n c)).setCell ⟨r, 2, none⟩ (.slice B m d)).cell? ⟨r, 2, none⟩ = some (.slice B m d) ∧ ChV (((W.setCell ⟨r, 0, none⟩ (.int .i64 p)).setCell ⟨r, 1, none⟩ (.slice A n c)).setCell ⟨r, 2, none⟩ (.slice B m d)) p A n c B m d x ∧
    Below n0 w (((W.setCell ⟨r, 0, none⟩ (.int .i64 p)).setCell ⟨r, 1, none⟩ (.slice A n c)).setCell ⟨r, 2, none⟩ (.slice B m d)) := by
  obtain ⟨c0, c1, c2⟩ := set3_get (W := W) (h := r) (a := .int .i64 p) (b := .slice A n c) (c := .slice B m d) (blk_cell zr) (blk_cell zr) (blk_cell zr)
  exact ⟨c0, c1, c2, hV.only (blk_noI zr noI_ch) (fun k _ hk => set3_far hk), below_set3 hle hb⟩
/-- what an operation does -/
def effE (v : SV) (s : SP) (k a b : Int) (z : List Int) : Ch × Int :=
  if rightE v s ≠ 0 then (Ch.zero, rightE v s) else if k = 1 then insE s.text a z else if k = 2 then remE s.text a b else
  if k = 3 then (if 0 < v.n1 then ((s.x1 (v.n1 - 1)).inv, 0) else (Ch.zero, 220)) else if k = 4 then (if 0 < v.n2 then (s.x2 (v.n2 - 1), 0) else (Ch.zero, 220)) else (Ch.zero, 2)
section
variable {w : World} {v : SV} {s : SP} {Az : Option Addr} {nz cz : Nat} {z : List Int} {k a b : Int}

set_option maxRecDepth 100000 in
set_option maxHeartbeats 8000000 in
theorem Effect_calls (h : StOk w v s) (hz : Sl w Az nz cz z) (hnz : nz ≤ 5000) : Calls Try.prog 11 #[v.val, .agg #[.int .i64 k, .int .i64 a, .int .i64 b, .slice Az nz cz]] w (GivesCE (effE v s k a b z).1 (effE v s k a b z).2 w) := by
  obtain ⟨A, n, c, A1, n1, c1, A2, n2, c2, v1, v2⟩ := v
  obtain ⟨u, hu⟩ : ∃ u, rightE ⟨A, n, c, A1, n1, c1, A2, n2, c2, v1, v2⟩ s = u := ⟨_, rfl⟩
  unfold effE
  rw [hu]
  dsimp only [SV.val]
  have HS := Aside0.mk h
  have HZ := Aside0.mk hz
  have bn := h.bn
  have b1 := h.b1
  have b2 := h.b2
  dsimp only at bn b1 b2
  have CR := Aside0.mk (fun W (hW : Below w.heap.size w W) => (by have := Right_calls (h.below hW); rw [hu] at this; exact this : Calls Try.prog 35 #[.agg #[.slice A n c, .slice A1 n1 c1, .slice A2 n2 c2]] W fun e w' => e = .returned (.int .i64 u) ∧ Below W.heap.size W w'))
  have HU := Aside0.mk hu
  clear h hz hu
  go_enter Try.func11, Try.ntmps11
  go_upto_region 1 with (fail)
  obtain ⟨D1, hD1⟩ : ∃ D1, w.alloc (Obj.cells #[Value.slice A n c, Value.slice A1 n1 c1, Value.slice A2 n2 c2] 26) = D1 := ⟨_, rfl⟩
  have m0 : D1.cell? ⟨w.heap.size, 0, none⟩ = some (.slice A n c) := by rw [← hD1, new_cell]; rfl
  have m1 : D1.cell? ⟨w.heap.size, 1, none⟩ = some (.slice A1 n1 c1) := by rw [← hD1, new_cell]; rfl
  have m2 : D1.cell? ⟨w.heap.size, 2, none⟩ = some (.slice A2 n2 c2) := by rw [← hD1, new_cell]; rfl
  have hz1 : D1.heap.size = w.heap.size + 1 := by rw [← hD1]; simp
  have hb1 : Below w.heap.size w D1 := by rw [← hD1]; exact (Below.refl _ _).alloc (Nat.le_refl _) _
  rw [hD1]
  obtain ⟨D2, hD2⟩ : ∃ D2, D1.alloc (Obj.cells #[Value.int IntKind.i64 k, Value.int IntKind.i64 a, Value.int IntKind.i64 b, Value.slice Az nz cz] 30) = D2 := ⟨_, rfl⟩
  have o0 : D2.cell? ⟨D1.heap.size, 0, none⟩ = some (.int .i64 k) := by rw [← hD2, new_cell]; rfl
  have o1 : D2.cell? ⟨D1.heap.size, 1, none⟩ = some (.int .i64 a) := by rw [← hD2, new_cell]; rfl
  have o2 : D2.cell? ⟨D1.heap.size, 2, none⟩ = some (.int .i64 b) := by rw [← hD2, new_cell]; rfl
  have o3 : D2.cell? ⟨D1.heap.size, 3, none⟩ = some (.slice Az nz cz) := by rw [← hD2, new_cell]; rfl
  have hz2 : D2.heap.size = w.heap.size + 2 := by rw [← hD2, World.size_alloc, hz1]
  have hb2 : Below D1.heap.size D1 D2 := by rw [← hD2]; exact (Below.refl _ _).alloc (Nat.le_refl _) _
  rw [hD2]
  obtain ⟨D3, hD3⟩ : ∃ D3, D2.alloc (Obj.cells #[Value.int IntKind.i64 0, Value.slice none 0 0, Value.slice none 0 0] 32) = D3 := ⟨_, rfl⟩
  have hb3 : Below D2.heap.size D2 D3 := by rw [← hD3]; exact (Below.refl _ _).alloc (Nat.le_refl _) _
  have zr : D3.heap[w.heap.size + 1 + 1]? = some (.cells #[Value.int IntKind.i64 0, Value.slice none 0 0, Value.slice none 0 0] 32 (0, 0)) := by rw [← hD3, show w.heap.size + 1 + 1 = D2.heap.size from by omega]; exact World.alloc_heap_new D2 _
  have hz3 : D3.heap.size = w.heap.size + 3 := by rw [← hD3, World.size_alloc, hz2]
  rw [hD3]
  rw [hz1] at o0 o1 o2 o3
  have tr1 : ∀ a : Addr, a.block = w.heap.size → D3.cell? a = D1.cell? a := fun a ha => (hb3.cell (p := a) (by rw [ha]; omega)).trans (hb2.cell (p := a) (by rw [ha]; omega))
  have tr2 : ∀ a : Addr, a.block = w.heap.size + 1 → D3.cell? a = D2.cell? a := fun a ha => hb3.cell (p := a) (by rw [ha]; omega)
  replace m0 := (tr1 ⟨w.heap.size, 0, none⟩ rfl).trans m0
  replace m1 := (tr1 ⟨w.heap.size, 1, none⟩ rfl).trans m1
  replace m2 := (tr1 ⟨w.heap.size, 2, none⟩ rfl).trans m2
  replace o0 := (tr2 ⟨w.heap.size + 1, 0, none⟩ rfl).trans o0
  replace o1 := (tr2 ⟨w.heap.size + 1, 1, none⟩ rfl).trans o1
  replace o2 := (tr2 ⟨w.heap.size + 1, 2, none⟩ rfl).trans o2
  replace o3 := (tr2 ⟨w.heap.size + 1, 3, none⟩ rfl).trans o3
  have HBD := Aside0.mk (below_step (below_step hb1 hb2) hb3)
  have hgl : w.heap.size < D3.heap.size := by omega
  have hhl : w.heap.size + 1 < D3.heap.size := by omega
  have hrl : w.heap.size + 1 + 1 < D3.heap.size := by omega
  clear hD1 hD2 hD3 hz1 hz2 hz3 hb1 hb2 hb3 tr1 tr2
  obtain ⟨r, hr⟩ : ∃ r, w.heap.size + 1 + 1 = r := ⟨_, rfl⟩
  have hler : w.heap.size ≤ r := by omega
  rw [hr] at zr hrl ⊢
  obtain ⟨h, hh⟩ : ∃ h, w.heap.size + 1 = h := ⟨_, rfl⟩
  rw [hh] at o0 o1 o2 o3 hhl ⊢
  obtain ⟨g, hg⟩ : ∃ g, w.heap.size = g := ⟨_, rfl⟩
  rw [hg] at m0 m1 m2 hgl ⊢
  clear hg hh hr
  have HCL := Aside0.mk (fun W1 (hb : Below D3.heap.size D3 W1) => (show (W1.cell? ⟨g, 0, none⟩ = some (.slice A n c) ∧ W1.cell? ⟨g, 1, none⟩ = some (.slice A1 n1 c1) ∧ W1.cell? ⟨g, 2, none⟩ = some (.slice A2 n2 c2)) ∧ (W1.cell? ⟨h, 0, none⟩ = some (.int .i64 k) ∧ W1.cell? ⟨h, 1, none⟩ = some (.int .i64 a) ∧ W1.cell? ⟨h, 2, none⟩ = some (.int .i64 b) ∧ W1.cell? ⟨h, 3, none⟩ = some (.slice Az nz cz)) ∧ W1.heap[r]? = some (.cells #[Value.int IntKind.i64 0, Value.slice none 0 0, Value.slice none 0 0] 32 (0, 0)) from
    ⟨⟨(hb.cell (p := ⟨g, 0, none⟩) hgl).trans m0, (hb.cell (p := ⟨g, 1, none⟩) hgl).trans m1, (hb.cell (p := ⟨g, 2, none⟩) hgl).trans m2⟩, ⟨(hb.cell (p := ⟨h, 0, none⟩) hhl).trans o0, (hb.cell (p := ⟨h, 1, none⟩) hhl).trans o1, (hb.cell (p := ⟨h, 2, none⟩) hhl).trans o2, (hb.cell (p := ⟨h, 3, none⟩) hhl).trans o3⟩, (hb.block _ hrl).trans zr⟩))
  have HRD := Aside0.mk (CR.out D3 HBD.out)
  by_cases h0 : u ≠ 0
  · rw [if_pos h0]
    have d0 : (u != 0) = true := by simpa using h0
    go_wp2_with (first
      | (go_at_call 35; (with_reducible refine HRD.out.mono ?_); rintro e W1 ⟨rfl, hb⟩; obtain ⟨⟨g0_1, g1_1, g2_1⟩, ⟨o0_1, o1_1, o2_1, o3_1⟩, zr1⟩ := HCL.out _ hb; have y0 := blk_cell (j := 0) zr1; have y1 := blk_cell (j := 1) zr1; have y2 := blk_cell (j := 2) zr1; have f0 := blk_frozen (j := 0) zr1; have f1 := blk_frozen (j := 1) zr1; have f2 := blk_frozen (j := 2) zr1; have BT1 := Aside0.mk hb; have BW1 := Aside0.mk (below_step HBD.out hb); have ZR1 := Aside0.mk zr1; clear hb zr1))
    obtain ⟨c0, c1, c2, hV5, hb5⟩ := set3_ch ZR1.out (ChV.zero _) BW1.out hler
    generalize ((W1.setCell ⟨r, 0, none⟩ (Value.int .i64 0)).setCell ⟨r, 1, none⟩ (Value.slice none 0 0)).setCell ⟨r, 2, none⟩ (Value.slice none 0 0) = W5 at c0 c1 c2 hV5 hb5 ⊢
    refine bodyPost_ret (v := .tuple #[.agg #[.int .i64 0, .slice none 0 0, .slice none 0 0], .int .i64 u]) (by simp [results, Try.results11, go_sem, c0, c1, c2]) rfl ?_
    exact ⟨0, none, 0, 0, none, 0, 0, rfl, hV5, hb5⟩
  rw [if_neg h0]
  obtain rfl : u = 0 := by omega
  clear h0
  by_cases h1 : k = 1
  · subst h1
    rw [if_pos rfl]
    have CI := Aside0.mk (fun W (hW : Below w.heap.size w W) => insert_calls (k := 1) (a := a) (b := b) (HS.out.t.below hW) (HZ.out.below hW) bn hnz)
    obtain ⟨x, q, hxq⟩ : ∃ x q, insE s.text a z = (x, q) := ⟨_, _, rfl⟩
    rw [hxq] at CI ⊢
    have HXQ := Aside0.mk hxq
    clear hxq
    go_wp2_with (first
      | (go_at_call 35; (with_reducible refine HRD.out.mono ?_); rintro e W1 ⟨rfl, hb⟩; obtain ⟨⟨g0_1, g1_1, g2_1⟩, ⟨o0_1, o1_1, o2_1, o3_1⟩, zr1⟩ := HCL.out _ hb; have y0 := blk_cell (j := 0) zr1; have y1 := blk_cell (j := 1) zr1; have y2 := blk_cell (j := 2) zr1; have f0 := blk_frozen (j := 0) zr1; have f1 := blk_frozen (j := 1) zr1; have f2 := blk_frozen (j := 2) zr1; have BT1 := Aside0.mk hb; have BW1 := Aside0.mk (below_step HBD.out hb); have ZR1 := Aside0.mk zr1; clear hb zr1)
      | (go_at_call 36; (with_reducible refine (CI.out _ BW1.out).mono ?_); rintro e W2 ⟨p2, A3, n3, c3, B3, m3, d3, rfl, hV, hb⟩; obtain ⟨⟨g0_2, g1_2, g2_2⟩, ⟨o0_2, o1_2, o2_2, o3_2⟩, zr2⟩ := HCL.out _ (below_step BT1.out hb); have y0_2 := blk_cell (j := 0) zr2; have y1_2 := blk_cell (j := 1) zr2; have y2_2 := blk_cell (j := 2) zr2; have f0_2 := blk_frozen (j := 0) zr2; have f1_2 := blk_frozen (j := 1) zr2; have f2_2 := blk_frozen (j := 2) zr2; have BW2 := Aside0.mk (below_step BW1.out hb); have BT2 := Aside0.mk (below_step BT1.out hb); have ZR2 := Aside0.mk zr2; have V2 := Aside0.mk hV; clear hb zr2 hV))
    obtain ⟨c0, c1, c2, hV5, hb5⟩ := set3_ch ZR2.out V2.out BW2.out hler
    generalize ((W2.setCell ⟨r, 0, none⟩ (Value.int .i64 p2)).setCell ⟨r, 1, none⟩ (Value.slice A3 n3 c3)).setCell ⟨r, 2, none⟩ (Value.slice B3 m3 d3) = W5 at c0 c1 c2 hV5 hb5 ⊢
    refine bodyPost_ret (v := .tuple #[.agg #[.int .i64 p2, .slice A3 n3 c3, .slice B3 m3 d3], .int .i64 q]) (by simp [results, Try.results11, go_sem, c0, c1, c2]) rfl ?_
    rw [HXQ.out]
    exact ⟨p2, A3, n3, c3, B3, m3, d3, rfl, hV5, hb5⟩
  rw [if_neg h1]
  have d1 : (k == 1) = false := by simpa using h1
  by_cases h2 : k = 2
  · subst h2
    rw [if_pos rfl]
    have CI := Aside0.mk (fun W (hW : Below w.heap.size w W) => remove_calls (k := 2) (a := a) (b := b) (Az := Az) (nz := nz) (cz := cz) (HS.out.t.below hW) bn)
    obtain ⟨x, q, hxq⟩ : ∃ x q, remE s.text a b = (x, q) := ⟨_, _, rfl⟩
    rw [hxq] at CI ⊢
    have HXQ := Aside0.mk hxq
    clear hxq
    go_wp2_with (first
      | (go_at_call 35; (with_reducible refine HRD.out.mono ?_); rintro e W1 ⟨rfl, hb⟩; obtain ⟨⟨g0_1, g1_1, g2_1⟩, ⟨o0_1, o1_1, o2_1, o3_1⟩, zr1⟩ := HCL.out _ hb; have y0 := blk_cell (j := 0) zr1; have y1 := blk_cell (j := 1) zr1; have y2 := blk_cell (j := 2) zr1; have f0 := blk_frozen (j := 0) zr1; have f1 := blk_frozen (j := 1) zr1; have f2 := blk_frozen (j := 2) zr1; have BT1 := Aside0.mk hb; have BW1 := Aside0.mk (below_step HBD.out hb); have ZR1 := Aside0.mk zr1; clear hb zr1)
      | (go_at_call 37; (with_reducible refine (CI.out _ BW1.out).mono ?_); rintro e W2 ⟨p2, A3, n3, c3, B3, m3, d3, rfl, hV, hb⟩; obtain ⟨⟨g0_2, g1_2, g2_2⟩, ⟨o0_2, o1_2, o2_2, o3_2⟩, zr2⟩ := HCL.out _ (below_step BT1.out hb); have y0_2 := blk_cell (j := 0) zr2; have y1_2 := blk_cell (j := 1) zr2; have y2_2 := blk_cell (j := 2) zr2; have f0_2 := blk_frozen (j := 0) zr2; have f1_2 := blk_frozen (j := 1) zr2; have f2_2 := blk_frozen (j := 2) zr2; have BW2 := Aside0.mk (below_step BW1.out hb); have BT2 := Aside0.mk (below_step BT1.out hb); have ZR2 := Aside0.mk zr2; have V2 := Aside0.mk hV; clear hb zr2 hV))
    obtain ⟨c0, c1, c2, hV5, hb5⟩ := set3_ch ZR2.out V2.out BW2.out hler
    generalize ((W2.setCell ⟨r, 0, none⟩ (Value.int .i64 p2)).setCell ⟨r, 1, none⟩ (Value.slice A3 n3 c3)).setCell ⟨r, 2, none⟩ (Value.slice B3 m3 d3) = W5 at c0 c1 c2 hV5 hb5 ⊢
    refine bodyPost_ret (v := .tuple #[.agg #[.int .i64 p2, .slice A3 n3 c3, .slice B3 m3 d3], .int .i64 q]) (by simp [results, Try.results11, go_sem, c0, c1, c2]) rfl ?_
    rw [HXQ.out]
    exact ⟨p2, A3, n3, c3, B3, m3, d3, rfl, hV5, hb5⟩
  rw [if_neg h2]
  have d2 : (k == 2) = false := by simpa using h2
  by_cases h3 : k = 3
  · subst h3
    rw [if_pos rfl]
    by_cases h5 : 0 < n1
    · rw [if_pos h5]
      have hx := HS.out.u.at_ (n1 - 1) (show n1 - 1 < n1 by omega)
      have hsz := HS.out.s1 (n1 - 1) (show n1 - 1 < n1 by omega)
      dsimp only at hx hsz
      obtain ⟨ad, rfl, hat⟩ := hx
      obtain ⟨i, hi⟩ : ∃ i, n1 - 1 = i := ⟨_, rfl⟩
      rw [hi] at hat hsz ⊢
      have hni : (n1 : Int) - 1 = (i : Int) := by omega
      have hil : (i : Int) < (n1 : Int) := by omega
      have hn1b : (n1 : Int) ≤ 1000 := by omega
      have hn1p : 1 ≤ (n1 : Int) := by omega
      have hn0 : (0 : Int) < (n1 : Int) := by omega
      have AT := Aside0.mk hat
      generalize v1 i = cv at hat hsz AT
      obtain ⟨p, A4, n4, c4, B4, m4, d4⟩ := cv
      dsimp only at hsz
      have CI := Aside0.mk (fun W (hW : Below w.heap.size w W) => Inverse_calls (AT.out.below hW).h (by dsimp only; omega) (by dsimp only; omega))
      dsimp only at CI
      have HCI := Aside0.mk (fun W1 (hb : Below w.heap.size w W1) => (show W1.cell? (ad.add (i * 3)) = some (.int .i64 p) ∧ W1.cell? ⟨(ad.add (i * 3)).block, (ad.add (i * 3)).off + 1, none⟩ = some (.slice A4 n4 c4) ∧ W1.cell? ⟨(ad.add (i * 3)).block, (ad.add (i * 3)).off + 2, none⟩ = some (.slice B4 m4 d4) from ⟨(AT.out.below hb).c0, (AT.out.below hb).c1, (AT.out.below hb).c2⟩))
      have HI := Aside0.mk hi
      clear hat h5 hi
      go_wp2_with (first
        | (go_at_call 35; (with_reducible refine HRD.out.mono ?_); rintro e W1 ⟨rfl, hb⟩; obtain ⟨⟨g0_1, g1_1, g2_1⟩, ⟨o0_1, o1_1, o2_1, o3_1⟩, zr1⟩ := HCL.out _ hb; have y0 := blk_cell (j := 0) zr1; have y1 := blk_cell (j := 1) zr1; have y2 := blk_cell (j := 2) zr1; have f0 := blk_frozen (j := 0) zr1; have f1 := blk_frozen (j := 1) zr1; have f2 := blk_frozen (j := 2) zr1; have BT1 := Aside0.mk hb; have BW1 := Aside0.mk (below_step HBD.out hb); have ZR1 := Aside0.mk zr1; obtain ⟨k0, k1, k2⟩ := HCI.out _ BW1.out; clear hb zr1)
        | (go_at_call 38; (with_reducible refine (CI.out _ BW1.out).mono ?_); rintro e W2 ⟨p2, A3, n3, c3, B3, m3, d3, rfl, hV, hb⟩; obtain ⟨⟨g0_2, g1_2, g2_2⟩, ⟨o0_2, o1_2, o2_2, o3_2⟩, zr2⟩ := HCL.out _ (below_step BT1.out hb); have y0_2 := blk_cell (j := 0) zr2; have y1_2 := blk_cell (j := 1) zr2; have y2_2 := blk_cell (j := 2) zr2; have f0_2 := blk_frozen (j := 0) zr2; have f1_2 := blk_frozen (j := 1) zr2; have f2_2 := blk_frozen (j := 2) zr2; have BW2 := Aside0.mk (below_step BW1.out hb); have BT2 := Aside0.mk (below_step BT1.out hb); have ZR2 := Aside0.mk zr2; have V2 := Aside0.mk hV; clear hb zr2 hV))
      obtain ⟨c0, c1, c2, hV5, hb5⟩ := set3_ch ZR2.out V2.out BW2.out hler
      generalize ((W2.setCell ⟨r, 0, none⟩ (Value.int .i64 p2)).setCell ⟨r, 1, none⟩ (Value.slice A3 n3 c3)).setCell ⟨r, 2, none⟩ (Value.slice B3 m3 d3) = W5 at c0 c1 c2 hV5 hb5 ⊢
      refine bodyPost_ret (v := .tuple #[.agg #[.int .i64 p2, .slice A3 n3 c3, .slice B3 m3 d3], .int .i64 0]) (by simp [results, Try.results11, go_sem, c0, c1, c2]) rfl ?_
      rw [HI.out]
      exact ⟨p2, A3, n3, c3, B3, m3, d3, rfl, hV5, hb5⟩
    · rw [if_neg h5]
      obtain rfl : n1 = 0 := by omega
      go_wp2_with (first
        | (go_at_call 35; (with_reducible refine HRD.out.mono ?_); rintro e W1 ⟨rfl, hb⟩; obtain ⟨⟨g0_1, g1_1, g2_1⟩, ⟨o0_1, o1_1, o2_1, o3_1⟩, zr1⟩ := HCL.out _ hb; have y0 := blk_cell (j := 0) zr1; have y1 := blk_cell (j := 1) zr1; have y2 := blk_cell (j := 2) zr1; have f0 := blk_frozen (j := 0) zr1; have f1 := blk_frozen (j := 1) zr1; have f2 := blk_frozen (j := 2) zr1; have BT1 := Aside0.mk hb; have BW1 := Aside0.mk (below_step HBD.out hb); have ZR1 := Aside0.mk zr1; clear hb zr1))
      obtain ⟨c0, c1, c2, hV5, hb5⟩ := set3_ch ZR1.out (ChV.zero _) BW1.out hler
      generalize ((W1.setCell ⟨r, 0, none⟩ (Value.int .i64 0)).setCell ⟨r, 1, none⟩ (Value.slice none 0 0)).setCell ⟨r, 2, none⟩ (Value.slice none 0 0) = W5 at c0 c1 c2 hV5 hb5 ⊢
      refine bodyPost_ret (v := .tuple #[.agg #[.int .i64 0, .slice none 0 0, .slice none 0 0], .int .i64 220]) (by simp [results, Try.results11, go_sem, c0, c1, c2]) rfl ?_
      exact ⟨0, none, 0, 0, none, 0, 0, rfl, hV5, hb5⟩
  rw [if_neg h3]
  have d3 : (k == 3) = false := by simpa using h3
  by_cases h4 : k = 4
  · subst h4
    rw [if_pos rfl]
    by_cases h5 : 0 < n2
    · rw [if_pos h5]
      have hx := HS.out.r.at_ (n2 - 1) (show n2 - 1 < n2 by omega)
      have hsz := HS.out.s2 (n2 - 1) (show n2 - 1 < n2 by omega)
      dsimp only at hx hsz
      obtain ⟨ad, rfl, hat⟩ := hx
      obtain ⟨i, hi⟩ : ∃ i, n2 - 1 = i := ⟨_, rfl⟩
      rw [hi] at hat hsz ⊢
      have hni : (n2 : Int) - 1 = (i : Int) := by omega
      have hil : (i : Int) < (n2 : Int) := by omega
      have hn1b : (n2 : Int) ≤ 1000 := by omega
      have hn1p : 1 ≤ (n2 : Int) := by omega
      have hn0 : (0 : Int) < (n2 : Int) := by omega
      have AT := Aside0.mk hat
      generalize v2 i = cv at hat hsz AT
      obtain ⟨p, A4, n4, c4, B4, m4, d4⟩ := cv
      dsimp only at hsz
      have CI := Aside0.mk (fun W (hW : Below w.heap.size w W) => Inverse_calls (AT.out.below hW).h (by dsimp only; omega) (by dsimp only; omega))
      dsimp only at CI
      have hg1 := AT.out.h.g.hn
      have hk1 := AT.out.h.k.hn
      dsimp only at hg1 hk1
      have HGK := Aside0.mk (And.intro hg1 hk1)
      have HCI := Aside0.mk (fun W1 (hb : Below w.heap.size w W1) => (show W1.cell? (ad.add (i * 3)) = some (.int .i64 p) ∧ W1.cell? ⟨(ad.add (i * 3)).block, (ad.add (i * 3)).off + 1, none⟩ = some (.slice A4 n4 c4) ∧ W1.cell? ⟨(ad.add (i * 3)).block, (ad.add (i * 3)).off + 2, none⟩ = some (.slice B4 m4 d4) from ⟨(AT.out.below hb).c0, (AT.out.below hb).c1, (AT.out.below hb).c2⟩))
      have HI := Aside0.mk hi
      clear hat h5 hi hg1 hk1
      go_wp2_with (first
        | (go_at_call 35; (with_reducible refine HRD.out.mono ?_); rintro e W1 ⟨rfl, hb⟩; obtain ⟨⟨g0_1, g1_1, g2_1⟩, ⟨o0_1, o1_1, o2_1, o3_1⟩, zr1⟩ := HCL.out _ hb; have y0 := blk_cell (j := 0) zr1; have y1 := blk_cell (j := 1) zr1; have y2 := blk_cell (j := 2) zr1; have f0 := blk_frozen (j := 0) zr1; have f1 := blk_frozen (j := 1) zr1; have f2 := blk_frozen (j := 2) zr1; have BT1 := Aside0.mk hb; have BW1 := Aside0.mk (below_step HBD.out hb); have ZR1 := Aside0.mk zr1; obtain ⟨k0, k1, k2⟩ := HCI.out _ BW1.out; clear hb zr1)
        | (go_at_call 38; (with_reducible refine (CI.out _ BW1.out).mono ?_); rintro e W2 ⟨p2, A3, n3, c3, B3, m3, d3, rfl, hV, hb⟩; obtain ⟨⟨g0_2, g1_2, g2_2⟩, ⟨o0_2, o1_2, o2_2, o3_2⟩, zr2⟩ := HCL.out _ (below_step BT1.out hb); have y0_2 := blk_cell (j := 0) zr2; have y1_2 := blk_cell (j := 1) zr2; have y2_2 := blk_cell (j := 2) zr2; have f0_2 := blk_frozen (j := 0) zr2; have f1_2 := blk_frozen (j := 1) zr2; have f2_2 := blk_frozen (j := 2) zr2; have BW2 := Aside0.mk (below_step BW1.out hb); have BT2 := Aside0.mk (below_step BT1.out hb); have ZR2 := Aside0.mk zr2; have V2 := Aside0.mk hV; clear hb zr2 hV)
        | (go_at_call 38; (with_reducible refine (Inverse_calls V2.out (by have h1 := V2.out.g.hn; have h2 := HGK.out; simp only [Ch.inv] at h1; omega) (by have h1 := V2.out.k.hn; have h2 := HGK.out; simp only [Ch.inv] at h1; omega)).mono ?_); rintro e W3 ⟨p3, A5, n5, c5, B5, m5, d5, rfl, hV, hb⟩; obtain ⟨-, -, zr3⟩ := HCL.out _ (below_step BT2.out hb); have y0_3 := blk_cell (j := 0) zr3; have y1_3 := blk_cell (j := 1) zr3; have y2_3 := blk_cell (j := 2) zr3; have f0_3 := blk_frozen (j := 0) zr3; have f1_3 := blk_frozen (j := 1) zr3; have f2_3 := blk_frozen (j := 2) zr3; have BW3 := Aside0.mk (below_step BW2.out hb); have ZR3 := Aside0.mk zr3; have V3 := Aside0.mk hV; clear hb zr3 hV))
      obtain ⟨c0, c1, c2, hV5, hb5⟩ := set3_ch ZR3.out V3.out BW3.out hler
      generalize ((W3.setCell ⟨r, 0, none⟩ (Value.int .i64 p3)).setCell ⟨r, 1, none⟩ (Value.slice A5 n5 c5)).setCell ⟨r, 2, none⟩ (Value.slice B5 m5 d5) = W5 at c0 c1 c2 hV5 hb5 ⊢
      refine bodyPost_ret (v := .tuple #[.agg #[.int .i64 p3, .slice A5 n5 c5, .slice B5 m5 d5], .int .i64 0]) (by simp [results, Try.results11, go_sem, c0, c1, c2]) rfl ?_
      rw [HI.out]
      exact ⟨p3, A5, n5, c5, B5, m5, d5, rfl, hV5, hb5⟩
    · rw [if_neg h5]
      obtain rfl : n2 = 0 := by omega
      go_wp2_with (first
        | (go_at_call 35; (with_reducible refine HRD.out.mono ?_); rintro e W1 ⟨rfl, hb⟩; obtain ⟨⟨g0_1, g1_1, g2_1⟩, ⟨o0_1, o1_1, o2_1, o3_1⟩, zr1⟩ := HCL.out _ hb; have y0 := blk_cell (j := 0) zr1; have y1 := blk_cell (j := 1) zr1; have y2 := blk_cell (j := 2) zr1; have f0 := blk_frozen (j := 0) zr1; have f1 := blk_frozen (j := 1) zr1; have f2 := blk_frozen (j := 2) zr1; have BT1 := Aside0.mk hb; have BW1 := Aside0.mk (below_step HBD.out hb); have ZR1 := Aside0.mk zr1; clear hb zr1))
      obtain ⟨c0, c1, c2, hV5, hb5⟩ := set3_ch ZR1.out (ChV.zero _) BW1.out hler
      generalize ((W1.setCell ⟨r, 0, none⟩ (Value.int .i64 0)).setCell ⟨r, 1, none⟩ (Value.slice none 0 0)).setCell ⟨r, 2, none⟩ (Value.slice none 0 0) = W5 at c0 c1 c2 hV5 hb5 ⊢
      refine bodyPost_ret (v := .tuple #[.agg #[.int .i64 0, .slice none 0 0, .slice none 0 0], .int .i64 220]) (by simp [results, Try.results11, go_sem, c0, c1, c2]) rfl ?_
      exact ⟨0, none, 0, 0, none, 0, 0, rfl, hV5, hb5⟩
  rw [if_neg h4]
  have d4 : (k == 4) = false := by simpa using h4
  go_wp2_with (first
    | (go_at_call 35; (with_reducible refine HRD.out.mono ?_); rintro e W1 ⟨rfl, hb⟩; obtain ⟨⟨g0_1, g1_1, g2_1⟩, ⟨o0_1, o1_1, o2_1, o3_1⟩, zr1⟩ := HCL.out _ hb; have y0 := blk_cell (j := 0) zr1; have y1 := blk_cell (j := 1) zr1; have y2 := blk_cell (j := 2) zr1; have f0 := blk_frozen (j := 0) zr1; have f1 := blk_frozen (j := 1) zr1; have f2 := blk_frozen (j := 2) zr1; have BT1 := Aside0.mk hb; have BW1 := Aside0.mk (below_step HBD.out hb); have ZR1 := Aside0.mk zr1; clear hb zr1))
  obtain ⟨c0, c1, c2, hV5, hb5⟩ := set3_ch ZR1.out (ChV.zero _) BW1.out hler
  generalize ((W1.setCell ⟨r, 0, none⟩ (Value.int .i64 0)).setCell ⟨r, 1, none⟩ (Value.slice none 0 0)).setCell ⟨r, 2, none⟩ (Value.slice none 0 0) = W5 at c0 c1 c2 hV5 hb5 ⊢
  refine bodyPost_ret (v := .tuple #[.agg #[.int .i64 0, .slice none 0 0, .slice none 0 0], .int .i64 2]) (by simp [results, Try.results11, go_sem, c0, c1, c2]) rfl ?_
  exact ⟨0, none, 0, 0, none, 0, 0, rfl, hV5, hb5⟩
end
end Go.Proofs.Ytenjldfflkinkaa.Rop

namespace Go.Proofs.Ytenjldfflkinkaa.Rop
set_option linter.unusedVariables false
set_option linter.unusedSimpArgs false
open Go.RowKit Go.Proofs.Ytenjldfflkinkaa.F Go.Proofs.YtenjldfflkinkaaW.PrintWords Go.Proofs.YtenjldfflkinkaaW.PrintLast Go.Proofs.YtenjldfflkinkaaW.PrintMore
/-- a row of one's own, without runes in its block -/
def Rg (W : World) (A : Option Addr) (t sz : Nat) (vs : List Value) (n cap : Nat) : Prop :=
  (A = none ∧ n = 0 ∧ cap = 0 ∧ vs = []) ∨ ∃ (g : Nat) (cur : Array Value), A = some ⟨g, 0, none⟩ ∧ W.heap[g]? = some (.cells cur t (0, 0)) ∧ cur.size = cap * sz ∧ vs.length = n * sz ∧ (∀ i : Nat, i < vs.length → cur[i]? = vs[i]?) ∧ (∀ (i : Nat) (v : Value), cur[i]? = some v → NoI v) ∧ n ≤ cap ∧ cap ≤ 9223372036854775807
/-- the world but for the row's block -/
def But (W W1 : World) (A : Option Addr) : Prop := W.heap.size ≤ W1.heap.size ∧ (∀ k, k < W.heap.size → some k ≠ A.map (·.block) → W1.heap[k]? = W.heap[k]?) ∧ ∀ b w0, (∀ ad, A = some ad → b ≤ ad.block) → b ≤ W.heap.size → Below b w0 W → Below b w0 W1
theorem Rg.noI {W : World} {A : Option Addr} {t sz n cap : Nat} {vs : List Value} (h : Rg W A t sz vs n cap) {ad : Addr} (hA : A = some ad) (a : Addr) (v : Value) (ha : a.block = ad.block) (hc : W.cell? a = some v) : NoI v := by
  rcases h with ⟨h1, _⟩ | ⟨g, cur, h1, h2, _, _, _, h6, _⟩
  · rw [h1] at hA; cases hA
  · rw [h1] at hA
    injection hA with hA
    subst hA
    exact blk_noI h2 h6 a v ha hc
theorem Sl.but {W W1 : World} {A A0 : Option Addr} {t sz k cap n c : Nat} {vs : List Value} {l : List Int} (hR : Rg W A0 t sz vs k cap) (hb : But W W1 A0) (h : Sl W A n c l) : Sl W1 A n c l := by
  cases hA : A0 with
  | none =>
    refine h.cells (fun a v hc => ?_)
    have := hb.2.1 a.block (World.block_lt_of_cell? W _ hc) (by rw [hA]; simp)
    simp only [World.cell?, this]
    exact hc
  | some ad => exact h.only (g := ad.block) (fun a v ha hc => hR.noI hA a v ha hc) (fun k hk hne => hb.2.1 k hk (by rw [hA]; simpa using hne))
theorem ChV.but {W W1 : World} {A0 : Option Addr} {t sz k cap : Nat} {vs : List Value} {p : Int} {A B : Option Addr} {n c m d : Nat} {x : Ch} (hR : Rg W A0 t sz vs k cap) (hb : But W W1 A0) (h : ChV W p A n c B m d x) : ChV W1 p A n c B m d x := ⟨h.hp, h.g.but hR hb, h.k.but hR hb⟩
theorem Rg.below {W W' : World} {A : Option Addr} {t sz n cap : Nat} {vs : List Value} (h : Rg W A t sz vs n cap) (hb : Below W.heap.size W W') : Rg W' A t sz vs n cap := by
  rcases h with h | ⟨g, cur, h1, h2, h3⟩
  · exact .inl h
  · exact .inr ⟨g, cur, h1, (hb.block _ (Array.getElem?_eq_some_iff.1 h2).1).trans h2, h3⟩
theorem zero_noI {z : Value} (hz : ∀ v ∈ z.cells.toList, NoI v) (hs : 0 < z.cells.size) (n : Nat) : ∀ (i : Nat) (v : Value), (Builtin.zeroCells z.cells n)[i]? = some v → NoI v := by
  intro i v h
  simp only [Builtin.zeroCells, Array.getElem?_map, Option.map_eq_some_iff] at h
  obtain ⟨a, _, h2⟩ := h
  rw [← h2]
  have hlt : a % z.cells.size < z.cells.size := Nat.mod_lt _ hs
  rw [getElem!_pos z.cells _ hlt]
  exact hz _ (by simp)
theorem below_setCells {g n : Nat} {w : World} (hg : n ≤ g) : ∀ (vs : List Value) (o : Nat) (W : World), Below n w W → Below n w (W.setCells g o vs)
  | [], _, _, h => h
  | v :: r, o, W, h => by
    rw [World.setCells]
    exact below_setCells hg r (o + 1) _ (h.setCell (p := ⟨g, o, none⟩) hg v)
theorem rg_run {W : World} {t ty e n cap sz bytes : Nat} {z : Value} {A : Option Addr} {vs cs : List Value} (ht : Try.prog.underlying t = some (.slice e)) (hinfo : (Try.prog.info? e).map (fun i => (i.zero, i.size, i.bytes)) = some (some z, sz, bytes)) (hz : z.cells.size = sz) (hzn : ∀ v ∈ z.cells.toList, NoI v) (hs0 : 0 < sz) (hb : bytes ≤ 1000)
    (hR : Rg W A e sz vs n cap) (hn : n ≤ 1000) (hcs : cs.length = sz) (hno : ∀ v ∈ cs, NoI v) (h1 : ∀ v ∈ cs, v.oneCell' = true) :
    ∃ A' cap' w1, (Builtin.append_ #[t, t] ty #[.slice A n cap, .slice (some ⟨W.heap.size, 0, none⟩) 1 1]).run Try.prog (W.alloc (.cells cs.toArray e)) = .ok (.slice A' (n + 1) cap') w1 ∧ Rg w1 A' e sz (vs ++ cs) (n + 1) cap' ∧ (∃ ad, A' = some ad ∧ (A = some ad ∨ W.heap.size ≤ ad.block)) ∧ But W w1 A := by
  obtain ⟨i0, hi, hzz⟩ := Option.map_eq_some_iff.1 hinfo
  simp only [Prod.mk.injEq] at hzz
  obtain ⟨hz0, hz1, hz2⟩ := hzz
  have hnews : ∀ (j : Nat) (u : Value), cs[j]? = some u → (W.alloc (.cells cs.toArray e)).cell? ((⟨W.heap.size, 0, none⟩ : Addr).add j) = some u := by
    intro j u hj
    have hn : (W.alloc (.cells cs.toArray e)).cell? ⟨W.heap.size, j, none⟩ = some u := by rw [new_cell]; simpa using hj
    by_cases h0 : j = 0
    · subst h0
      exact hn
    · simpa [Addr.add, h0] using hn
  have hfit : ∀ old, old < n + 1 → Builtin.nextslicecap (n + 1) old * i0.bytes ≤ 281474976710656 := fun old ho => growslice_fits ho (by rw [hz2]; have := Nat.mul_le_mul (show n + 1 ≤ 1001 by omega) hb; omega)
  have hbn : ∀ (cu : Array Value), Below W.heap.size W ((W.alloc (.cells cs.toArray e)).drew.alloc (.cells cu e)) := fun cu => below_alloc (below_drew1 ((Below.refl _ _).alloc (Nat.le_refl _) _)) _
  have hgrown : ∀ (cu : Array Value) (cap' : Nat), cu.size = cap' * sz → (vs ++ cs).length = (n + 1) * sz → (∀ i : Nat, i < (vs ++ cs).length → cu[i]? = (vs ++ cs)[i]?) → (∀ (i : Nat) (v : Value), cu[i]? = some v → NoI v) → n + 1 ≤ cap' → cap' ≤ 9223372036854775807 →
      Rg ((W.alloc (.cells cs.toArray e)).drew.alloc (.cells cu e)) (some ⟨(W.alloc (.cells cs.toArray e)).heap.size, 0, none⟩) e sz (vs ++ cs) (n + 1) cap' ∧ (∃ ad, (some ⟨(W.alloc (.cells cs.toArray e)).heap.size, 0, none⟩ : Option Addr) = some ad ∧ (A = some ad ∨ W.heap.size ≤ ad.block)) ∧ But W ((W.alloc (.cells cs.toArray e)).drew.alloc (.cells cu e)) A := by
    intro cu cap' k1 k2 k3 k4 k5 k6
    refine ⟨.inr ⟨_, cu, rfl, ?_, k1, k2, k3, k4, k5, k6⟩, ⟨_, rfl, .inr (by simp)⟩, (hbn cu).size, fun k hk _ => (hbn cu).block k hk, fun b w0 _ hb2 hB => (below_drew1 (hB.alloc hb2 _)).alloc (by simp; omega) _⟩
    have := World.alloc_heap_new (W.alloc (.cells cs.toArray e)).drew (.cells cu e)
    simpa using this
  rcases hR with ⟨rfl, rfl, rfl, rfl⟩ | ⟨g, cur, rfl, hh, hcsz, hvl, hcv, hod, hlc, hcm⟩
  · have hrun := run_append_nil (P := Try.prog) (W.alloc (.cells cs.toArray e)) t ty e i0 z ht hi hz0 ⟨W.heap.size, 0, none⟩ 1 1 cs (by rw [hz1]; omega) hnews (by omega) (by omega) (by rw [hz2]; omega)
    have hge := grownCap_ge (W.alloc (.cells cs.toArray e)) 1 0 e
    have hcm' : grownCap (W.alloc (.cells cs.toArray e)) 1 0 e ≤ maxLen := grownCap_le_maxLen _ 1 0 e (by simp only [maxLen]; omega)
    simp only [maxLen] at hcm'
    generalize grownCap (W.alloc (.cells cs.toArray e)) 1 0 e = cap' at hrun hge hcm'
    refine ⟨_, cap', _, hrun, ?_⟩
    have hzs : (Builtin.zeroCells z.cells (cap' - 1)).size = (cap' - 1) * sz := by simp [Builtin.zeroCells, hz]
    refine hgrown _ cap' ?_ (by simp; omega) (fun i hi => ?_) (fun i v hv => ?_) (by omega) (by omega)
    · simp only [Array.size_append, hzs, List.size_toArray, hcs]
      rw [Nat.sub_mul, Nat.one_mul]
      have := Nat.mul_le_mul_right sz hge
      omega
    · simp only [List.nil_append] at hi ⊢
      rw [Array.getElem?_append_left (by simpa using hi)]
      simp
    · by_cases hil : i < cs.length
      · rw [Array.getElem?_append_left (by simpa using hil)] at hv
        simp at hv
        exact hno v (List.mem_of_getElem? hv)
      · rw [Array.getElem?_append_right (by simp; omega)] at hv
        exact zero_noI hzn (by omega) _ _ _ hv
  · have hgl : g < W.heap.size := (Array.getElem?_eq_some_iff.1 hh).1
    have hh1 : (W.alloc (.cells cs.toArray e)).heap[g]? = some (.cells cur e (0, 0)) := (Below.heap_alloc _ _ _ hgl).trans hh
    by_cases hroom : n + 1 ≤ cap
    · have hcap : n * sz + sz ≤ cap * sz := by rw [← Nat.succ_mul]; exact Nat.mul_le_mul_right _ hroom
      have hrun := run_append_room_cells (P := Try.prog) (W.alloc (.cells cs.toArray e)) t ty e i0 ht hi g 0 n cap ⟨W.heap.size, 0, none⟩ 1 1 cs (by rw [hz1]; omega) hnews h1 hroom
        (fun j hj => by rw [blk_cell hh1, hz1]; simp; omega) (fun j hj => blk_frozen hh1)
      refine ⟨_, cap, _, hrun, ?_⟩
      rw [hz1]
      obtain ⟨cur', q1, q2, q3⟩ := setCells_row (g := g) (e := e) cs (0 + n * sz) (W.alloc (.cells cs.toArray e)) cur hh1 (by omega)
      obtain ⟨s1, s2, s3, s4⟩ := setCells_same g cs (0 + n * sz) (W.alloc (.cells cs.toArray e))
      have htk : cur.toList.take (0 + n * sz) = vs := by
        rw [Nat.zero_add]
        apply List.ext_getElem?
        intro i
        rw [List.getElem?_take]
        by_cases hi : i < n * sz
        · rw [if_pos hi, ← hcv i (by omega)]
          simp
        · rw [if_neg hi, List.getElem?_eq_none (by omega)]
      rw [htk] at q3
      have hvl2 : (vs ++ cs).length = (n + 1) * sz := by rw [List.length_append, hvl, hcs, Nat.succ_mul]
      refine ⟨.inr ⟨g, cur', rfl, q1, by rw [q2]; exact hcsz, hvl2, fun i hi => ?_, fun i v hv => ?_, hroom, hcm⟩, ⟨_, rfl, .inl rfl⟩, by rw [s4]; simp, fun k hk hne => ?_, fun b w0 hb1 hb2 hB => below_setCells (hb1 _ rfl) _ _ _ (hB.alloc hb2 _)⟩
      · rw [← Array.getElem?_toList, q3, List.getElem?_append_left hi]
      · rw [← Array.getElem?_toList, q3] at hv
        rcases List.mem_append.1 (List.mem_of_getElem? hv) with h2 | h2
        · rcases List.mem_append.1 h2 with h3 | h3
          · obtain ⟨j, hj, rfl⟩ := List.mem_iff_getElem.1 h3
            exact hod j _ (by rw [hcv j hj, List.getElem?_eq_getElem hj])
          · exact hno v h3
        · have h3 := List.mem_of_mem_drop h2
          obtain ⟨j, hj, rfl⟩ := List.mem_iff_getElem.1 h3
          exact hod j _ (by rw [← Array.getElem?_toList, List.getElem?_eq_getElem hj])
      · exact (setCells_far _ _ _ (by simpa using hne)).trans (Below.heap_alloc _ _ _ hk)
    · have hrun := run_append_grow (P := Try.prog) (W.alloc (.cells cs.toArray e)) t ty e i0 z ht hi hz0 ⟨g, 0, none⟩ n cap vs (by rw [hz1]; omega) (fun j u hj => by
          have hl := (List.getElem?_eq_some_iff.1 hj).1
          have h2 := hcv j hl
          rw [hj] at h2
          by_cases h0 : j = 0
          · subst h0
            simpa [Addr.add, World.cell?, hh1] using h2
          · simpa [Addr.add, h0, World.cell?, hh1] using h2) ⟨W.heap.size, 0, none⟩ 1 1 cs (by rw [hz1]; omega) hnews (by omega) (by omega) (hfit cap (by omega))
      have hge := grownCap_ge (W.alloc (.cells cs.toArray e)) (n + 1) cap e
      have hcm' : grownCap (W.alloc (.cells cs.toArray e)) (n + 1) cap e ≤ maxLen := grownCap_le_maxLen _ (n + 1) cap e (by simp only [maxLen]; omega)
      simp only [maxLen] at hcm'
      generalize grownCap (W.alloc (.cells cs.toArray e)) (n + 1) cap e = cap' at hrun hge hcm'
      refine ⟨_, cap', _, hrun, ?_⟩
      have hzs : (Builtin.zeroCells z.cells (cap' - (n + 1))).size = (cap' - (n + 1)) * sz := by simp [Builtin.zeroCells, hz]
      have e0 : vs.toArray ++ cs.toArray = (vs ++ cs).toArray := by simp
      rw [e0]
      have hvl2 : (vs ++ cs).length = (n + 1) * sz := by rw [List.length_append, hvl, hcs, Nat.succ_mul]
      refine hgrown _ cap' ?_ hvl2 (fun i hi => ?_) (fun i v hv => ?_) hge (by omega)
      · rw [Array.size_append, hzs, List.size_toArray, hvl2, Nat.sub_mul]
        have := Nat.mul_le_mul_right sz hge
        omega
      · rw [Array.getElem?_append_left (by simpa using hi), List.getElem?_toArray]
      · by_cases hil : i < (vs ++ cs).length
        · rw [Array.getElem?_append_left (by simpa using hil)] at hv
          rw [List.getElem?_toArray] at hv
          by_cases hil2 : i < vs.length
          · rw [List.getElem?_append_left hil2] at hv
            exact hod i v (by rw [hcv i hil2]; exact hv)
          · rw [List.getElem?_append_right (by omega)] at hv
            exact hno v (List.mem_of_getElem? hv)
        · rw [Array.getElem?_append_right (by simpa using hil)] at hv
          exact zero_noI hzn (by omega) _ _ _ hv
end Go.Proofs.Ytenjldfflkinkaa.Rop

namespace Go.Proofs.Ytenjldfflkinkaa.Rop
set_option linter.unusedVariables false
set_option linter.unusedSimpArgs false
open Go.RowKit Go.Proofs.Ytenjldfflkinkaa.F Go.Proofs.YtenjldfflkinkaaW.PrintWords Go.Proofs.YtenjldfflkinkaaW.PrintLast Go.Proofs.YtenjldfflkinkaaW.PrintMore
theorem infoC : (Try.prog.info? 32).map (fun i => (i.zero, i.size, i.bytes)) = some (some (.agg #[.int .i64 0, .slice none 0 0, .slice none 0 0]), 3, 56) := by kernel_rfl
theorem zeroC_noI : ∀ v ∈ (Value.agg #[.int .i64 0, .slice none 0 0, .slice none 0 0]).cells.toList, NoI v := by
  intro v hv
  simp [Value.cells] at hv
  rcases hv with rfl | rfl
  · exact noI_64 0
  · exact noI_sl none 0 0
theorem chs_noI {p : Int} {A B : Option Addr} {n c m d : Nat} : ∀ v ∈ ([.int .i64 p, .slice A n c, .slice B m d] : List Value), NoI v := by
  intro v hv
  simp at hv
  rcases hv with rfl | rfl | rfl
  · exact noI_64 _
  · exact noI_sl _ _ _
  · exact noI_sl _ _ _
theorem chs_one {p : Int} {A B : Option Addr} {n c m d : Nat} : ∀ v ∈ ([.int .i64 p, .slice A n c, .slice B m d] : List Value), v.oneCell' = true := by
  intro v hv
  simp at hv
  rcases hv with rfl | rfl | rfl <;> rfl
/-- the cells of a change -/
def CV.cells (v : CV) : List Value := [.int .i64 v.p, .slice v.A v.n v.c, .slice v.B v.m v.d]
theorem rg_append {ops : Array Oper} {rest : List Oper} {o : Oper} {a : Act} {Q : Exit → Act → World → Prop} {W : World} {n cap : Nat} {A : Option Addr} {vs : List Value} (hg : o.guard = none) (s x : Operand)
    (hop : o.op = .call { callee := .builtin .append, args := #[s, x], argTypes := #[24, 24] }) (hs : a.eval s = .slice A n cap) (hx : a.eval x = .slice (some ⟨W.heap.size, 0, none⟩) 1 1) (hR : Rg W A 32 3 vs n cap) (hn : n ≤ 1000) (cv : CV)
    (h : ∀ A' cap' w1, Rg w1 A' 32 3 (vs ++ cv.cells) (n + 1) cap' → (∃ ad, A' = some ad ∧ (A = some ad ∨ W.heap.size ≤ ad.block)) → But W w1 A → wpList Try.prog ops Q rest (a.put o.dst (.slice A' (n + 1) cap')) w1) :
    wpList Try.prog ops Q (o :: rest) a (W.alloc (.cells #[.int .i64 cv.p, .slice cv.A cv.n cv.c, .slice cv.B cv.m cv.d] 32)) := by
  obtain ⟨A', cap', w1, hrun, h1, h2, h3⟩ := rg_run (ty := o.type) Try.underlying24 infoC rfl zeroC_noI (by decide) (by decide) hR hn (cs := cv.cells) rfl chs_noI chs_one
  refine wpList_plain hg fun K hK' => ?_
  unfold Oper.wp
  simp only [CV.cells] at hrun
  simp [execOp, hop, resolve, invoke, builtin, hs, hx, hrun, Result.andThen]
  exact hK' _ _ (h A' cap' w1 h1 h2 h3)
theorem rg_append_step {ops : Array Oper} {o : Oper} {a : Act} {Kc : Act → World → Prop} {Q : Exit → Act → World → Prop} {W : World} {n cap : Nat} {A : Option Addr} {vs : List Value} (hw : Region.wanted o (yielded ops a.tmps) = true) (s x : Operand)
    (hop : o.op = .call { callee := .builtin .append, args := #[s, x], argTypes := #[24, 24] }) (hs : a.eval s = .slice A n cap) (hx : a.eval x = .slice (some ⟨W.heap.size, 0, none⟩) 1 1) (hR : Rg W A 32 3 vs n cap) (hn : n ≤ 1000) (cv : CV)
    (h : ∀ A' cap' w1, Rg w1 A' 32 3 (vs ++ cv.cells) (n + 1) cap' → (∃ ad, A' = some ad ∧ (A = some ad ∨ W.heap.size ≤ ad.block)) → But W w1 A → Kc (a.put o.dst (.slice A' (n + 1) cap')) w1) :
    if Region.wanted o (yielded ops a.tmps) = true then Oper.wp Try.prog o a (W.alloc (.cells #[.int .i64 cv.p, .slice cv.A cv.n cv.c, .slice cv.B cv.m cv.d] 32)) Kc Q else Kc (a.put o.dst undef) (W.alloc (.cells #[.int .i64 cv.p, .slice cv.A cv.n cv.c, .slice cv.B cv.m cv.d] 32)) := by
  obtain ⟨A', cap', w1, hrun, h1, h2, h3⟩ := rg_run (ty := o.type) Try.underlying24 infoC rfl zeroC_noI (by decide) (by decide) hR hn (cs := cv.cells) rfl chs_noI chs_one
  rw [if_pos hw]
  unfold Oper.wp
  simp only [CV.cells] at hrun
  simp [execOp, hop, resolve, invoke, builtin, hs, hx, hrun, Result.andThen]
  exact h A' cap' w1 h1 h2 h3
/-- the cells of so many changes -/
def flat (vs : Nat → CV) : Nat → List Value
  | 0 => []
  | n + 1 => flat vs n ++ (vs n).cells
theorem flat_len (vs : Nat → CV) : ∀ n, (flat vs n).length = n * 3
  | 0 => rfl
  | n + 1 => by rw [flat, List.length_append, flat_len vs n]; simp [CV.cells]; omega
theorem flat_get (vs : Nat → CV) : ∀ (n i : Nat), i < n → (flat vs n)[i * 3]? = some (.int .i64 (vs i).p) ∧ (flat vs n)[i * 3 + 1]? = some (.slice (vs i).A (vs i).n (vs i).c) ∧ (flat vs n)[i * 3 + 2]? = some (.slice (vs i).B (vs i).m (vs i).d)
  | n + 1, i, h => by
    have hl := flat_len vs n
    by_cases hi : i < n
    · obtain ⟨h1, h2, h3⟩ := flat_get vs n i hi
      rw [flat, List.getElem?_append_left (by omega), List.getElem?_append_left (by omega), List.getElem?_append_left (by omega)]
      exact ⟨h1, h2, h3⟩
    · obtain rfl : i = n := by omega
      rw [flat, List.getElem?_append_right (by omega), List.getElem?_append_right (by omega), List.getElem?_append_right (by omega), hl, Nat.sub_self, show i * 3 + 1 - i * 3 = 1 by omega, show i * 3 + 2 - i * 3 = 2 by omega]
      exact ⟨rfl, rfl, rfl⟩
/-- one more value -/
def upd {α : Type} (f : Nat → α) (n : Nat) (v : α) : Nat → α := fun i => if i = n then v else f i
theorem upd_same {α : Type} (f : Nat → α) (n : Nat) (v : α) : upd f n v n = v := if_pos rfl
theorem upd_ne {α : Type} {f : Nat → α} {n i : Nat} {v : α} (h : i ≠ n) : upd f n v i = f i := if_neg h
theorem flat_upd (vs : Nat → CV) (v : CV) : ∀ (m n : Nat), m ≤ n → flat (upd vs n v) m = flat vs m
  | 0, _, _ => rfl
  | m + 1, n, h => by rw [flat, flat, flat_upd vs v m n (by omega), upd_ne (by omega)]
/-- changes in a row of one's own -/
structure Ro (W : World) (base : Nat) (A : Option Addr) (n c : Nat) (vs : Nat → CV) (xs : Nat → Ch) : Prop where
  row : Rg W A 32 3 (flat vs n) n c
  ch : ∀ i, i < n → ChV W (vs i).p (vs i).A (vs i).n (vs i).c (vs i).B (vs i).m (vs i).d (xs i)
  hb : ∀ ad, A = some ad → base ≤ ad.block
  sz : ∀ i, i < n → (vs i).n ≤ 5000 ∧ (vs i).m ≤ 5000
theorem Ro.below {W W' : World} {base n c : Nat} {A : Option Addr} {vs : Nat → CV} {xs : Nat → Ch} (h : Ro W base A n c vs xs) (hb : Below W.heap.size W W') : Ro W' base A n c vs xs := ⟨h.row.below hb, fun i hi => (h.ch i hi).below hb, h.hb, h.sz⟩
theorem Ro.empty (W : World) (base : Nat) (vs : Nat → CV) (xs : Nat → Ch) : Ro W base none 0 0 vs xs := ⟨.inl ⟨rfl, rfl, rfl, rfl⟩, fun i hi => by omega, fun ad h => (by cases h), fun i hi => by omega⟩
/-- read only -/
theorem Ro.rc {W : World} {base n c : Nat} {A : Option Addr} {vs : Nat → CV} {xs : Nat → Ch} (h : Ro W base A n c vs xs) : Rc W A n c vs xs := by
  rcases h.row with ⟨rfl, rfl, rfl, _⟩ | ⟨g, cur, rfl, h1, h2, h3, h4, h5, h6, h7⟩
  · exact ⟨fun i hi => by omega, Nat.le_refl _, by omega, fun _ => rfl⟩
  · refine ⟨fun i hi => ⟨_, rfl, ?_, ?_, ?_, h.ch i hi⟩, h6, h7, fun e => by cases e⟩
    all_goals
      obtain ⟨f1, f2, f3⟩ := flat_get vs n i hi
      have hl := flat_len vs n
      have k1 := (h4 (i * 3) (by omega)).trans f1
      have k2 := (h4 (i * 3 + 1) (by omega)).trans f2
      have k3 := (h4 (i * 3 + 2) (by omega)).trans f3
    · by_cases h0 : i = 0
      · subst h0
        simpa [Addr.add, World.cell?, h1] using k1
      · have h0' : ¬ i * 3 = 0 := by omega
        simpa [Addr.add, h0', World.cell?, h1] using k1
    · by_cases h0 : i = 0
      · subst h0
        simpa [Addr.add, World.cell?, h1] using k2
      · have h0' : ¬ i * 3 = 0 := by omega
        simpa [Addr.add, h0', World.cell?, h1] using k2
    · by_cases h0 : i = 0
      · subst h0
        simpa [Addr.add, World.cell?, h1] using k3
      · have h0' : ¬ i * 3 = 0 := by omega
        simpa [Addr.add, h0', World.cell?, h1] using k3
/-- one more change -/
theorem Ro.more {W w1 : World} {base n c c' : Nat} {A A' : Option Addr} {vs : Nat → CV} {xs : Nat → Ch} (h : Ro W base A n c vs xs) (cv : CV) {x : Ch} (hx : ChV W cv.p cv.A cv.n cv.c cv.B cv.m cv.d x) (hsz : cv.n ≤ 5000 ∧ cv.m ≤ 5000) (hbase : base ≤ W.heap.size)
    (hR : Rg w1 A' 32 3 (flat vs n ++ cv.cells) (n + 1) c') (hA : ∃ ad, A' = some ad ∧ (A = some ad ∨ W.heap.size ≤ ad.block)) (hb : But W w1 A) : Ro w1 base A' (n + 1) c' (upd vs n cv) (upd xs n x) := by
  refine ⟨?_, fun i hi => ?_, fun ad e => ?_, fun i hi => ?_⟩
  · rw [flat, flat_upd vs cv n n (Nat.le_refl _), upd_same]
    exact hR
  · by_cases he : i = n
    · subst he
      rw [upd_same, upd_same]
      exact hx.but h.row hb
    · rw [upd_ne he, upd_ne he]
      exact (h.ch i (by omega)).but h.row hb
  · obtain ⟨ad', e', h1⟩ := hA
    rw [e'] at e
    injection e with e
    subst e
    rcases h1 with h1 | h1
    · exact h.hb _ h1
    · omega
  · by_cases he : i = n
    · subst he
      rw [upd_same]
      exact hsz
    · rw [upd_ne he]
      exact h.sz i (by omega)
theorem Ro.congr {W : World} {base n c : Nat} {A : Option Addr} {vs : Nat → CV} {xs xs' : Nat → Ch} (h : Ro W base A n c vs xs) (he : ∀ i, i < n → xs i = xs' i) : Ro W base A n c vs xs' := ⟨h.row, fun i hi => by rw [← he i hi]; exact h.ch i hi, h.hb, h.sz⟩
def GivesRo (n : Nat) (xs : Nat → Ch) (w : World) (e : Ending) (w' : World) : Prop := ∃ A c vs, e = .returned (.slice A n c) ∧ Ro w' w.heap.size A n c vs xs ∧ Below w.heap.size w w'
theorem But.below {W w1 : World} {A : Option Addr} {b : Nat} {w0 : World} (h : But W w1 A) (hA : ∀ ad, A = some ad → b ≤ ad.block) (hb : Below b w0 W) (hs : b ≤ W.heap.size) : Below b w0 w1 := h.2.2 b w0 hA hs hb
set_option maxRecDepth 100000 in
set_option maxHeartbeats 4000000 in
theorem copied_calls {w : World} {A : Option Addr} {n c : Nat} {vs : Nat → CV} {xs : Nat → Ch} (h : Rc w A n c vs xs) (hn : n ≤ 1000) (hv : ∀ i, i < n → (vs i).n ≤ 5000 ∧ (vs i).m ≤ 5000) : Calls Try.prog 40 #[.slice A n c] w (GivesRo n xs w) := by
  have H := Aside0.mk h
  have HV := Aside0.mk hv
  clear h hv
  go_enter Try.func40, Try.ntmps40
  go_wp2
  go_loopw [3, 8] (fun v3 v8 wr => ∃ (A' : Option Addr) (c' i : Nat) (vs' : Nat → CV), v3 = .slice A' i c' ∧ v8 = .int .i64 (i : Int) ∧ i ≤ n ∧ Aside0 (Ro wr w.heap.size A' i c' vs' xs) ∧ Aside0 (Below w.heap.size w wr)) (fun _ v8 _ => n - (intOf v8).toNat)
  case atStart => exact ⟨none, 0, 0, vs, rfl, rfl, Nat.zero_le _, ⟨Ro.empty _ _ _ _⟩, ⟨Below.refl _ _⟩⟩
  case round =>
    obtain ⟨A', c', i, vs', rfl, rfl, hi, HO, HB⟩ := hrel
    by_cases hlt : i < n
    · have hlt' : (i : Int) < (n : Int) := by omega
      obtain ⟨ad, rfl, hat⟩ := (H.out.below HB.out).at_ i hlt
      have hsz := HV.out i hlt
      have AT := Aside0.mk hat
      obtain ⟨x, hx⟩ : ∃ x, xs i = x := ⟨_, rfl⟩
      rw [hx] at AT hat
      have HX := Aside0.mk hx
      obtain ⟨k0, k1, k2, -⟩ := hat
      have hgk := AT.out.h.g.hn
      have hkk := AT.out.h.k.hn
      generalize vs i = cv at AT hsz k0 k1 k2 hgk hkk
      obtain ⟨p, A4, n4, c4, B4, m4, d4⟩ := cv
      dsimp only at hsz k0 k1 k2 hgk hkk
      have hA4 : ChV wr p A4 n4 c4 B4 m4 d4 x := AT.out.h
      have HA4 := Aside0.mk hA4
      have HSZ := Aside0.mk hsz
      have HGK := Aside0.mk (And.intro hgk hkk)
      clear hx hgk hkk hA4 AT
      go_wp2_with (first
        | (go_at_call 38; (with_reducible refine (Inverse_calls (HA4.out.below ((Below.refl _ _).alloc (Nat.le_refl _) _)) (by have := HSZ.out; omega) (by have := HSZ.out; omega)).mono ?_); rintro e W1 ⟨p2, A5, n5, c5, B5, m5, d5, rfl, hV, hb⟩; have V1 := Aside0.mk hV; have BT1 := Aside0.mk (below_step (w := wr) ((Below.refl _ _).alloc (Nat.le_refl _) _) hb); clear hV hb)
        | (go_at_call 38; (with_reducible refine (Inverse_calls V1.out (by have h1 := V1.out.g.hn; have h2 := HGK.out; have h3 := HSZ.out; simp only [Ch.inv] at h1; omega) (by have h1 := V1.out.k.hn; have h2 := HGK.out; have h3 := HSZ.out; simp only [Ch.inv] at h1; omega)).mono ?_); rintro e W2 ⟨p3, A6, n6, c6, B6, m6, d6, rfl, hV, hb⟩; have V2 : Aside0 (ChV W2 p3 A6 n6 c6 B6 m6 d6 x) := ⟨hV⟩; have BT2 := Aside0.mk (below_step BT1.out hb); have O2 := Aside0.mk (HO.out.below BT2.out); have BW2 := Aside0.mk (below_step HB.out BT2.out); clear hV hb)
        | ((with_reducible refine gate_dst (N := 17) rfl ?_); at_builtin; refine rg_append (W := W2) rfl (.tmp 12) (.tmp 16) rfl rfl rfl O2.out.row (by omega) ⟨p3, A6, n6, c6, B6, m6, d6⟩ ?_; intro A7 c7 w7 hR hA hBt; have O7 := Aside0.mk (O2.out.more ⟨p3, A6, n6, c6, B6, m6, d6⟩ V2.out (by have h1 := V2.out.g.hn; have h2 := V2.out.k.hn; have h3 := HGK.out; have h4 := HSZ.out; dsimp only; omega) BW2.out.size hR hA hBt); have BW7 := Aside0.mk (hBt.below (fun ad e => O2.out.hb ad e) BW2.out BW2.out.size); clear hR hA hBt))
      go_roundw
      case measure => simp [intOf]; omega
      case rel => exact ⟨A7, c7, i + 1, _, rfl, by go_num, by omega, ⟨O7.out.congr (fun j hj => by
          by_cases e : j = i
          · subst e; rw [upd_same]; exact HX.out.symm
          · rw [upd_ne e])⟩, BW7⟩
    · obtain rfl : i = n := by omega
      go_wp2
      go_ret
      exact ⟨A', c', vs', rfl, HO.out, HB.out⟩
end Go.Proofs.Ytenjldfflkinkaa.Rop

namespace Go.Proofs.Ytenjldfflkinkaa.Rop
set_option linter.unusedVariables false
set_option linter.unusedSimpArgs false
open Go.RowKit Go.Proofs.Ytenjldfflkinkaa.F Go.Proofs.YtenjldfflkinkaaW.PrintWords Go.Proofs.YtenjldfflkinkaaW.PrintLast Go.Proofs.YtenjldfflkinkaaW.PrintMore
theorem step_ok {back : Bool} {t : List Int} {x : Ch} (h : (stepT back t x).isSome = true) : fitsB t (x.way back) = true ∧ (doneT t (x.way back)).length ≤ 4096 := by
  unfold stepT at h
  split at h
  · rename_i hc
    exact ⟨hc.1, hc.2.2.2⟩
  · cases h
theorem goes_head {back : Bool} {t : List Int} {n : Nat} {xs : Nat → Ch} (hn : 0 < n) (h : (goesT back t ((dn n (Nat.le_refl n)).map fun j => xs j.1)).isSome = true) : (stepT back t (xs (n - 1))).isSome = true := by
  obtain ⟨k, rfl⟩ : ∃ k, n = k + 1 := ⟨n - 1, by omega⟩
  simp only [dn, List.map_cons, goesT] at h
  have : k + 1 - 1 = k := by omega
  rw [this]
  cases hs : stepT back t (xs k) with
  | none => rw [hs] at h; cases h
  | some _ => rfl
/-- what an operation does fits -/
theorem eff_ok {v : SV} {s : SP} {W : World} {k a b : Int} {z : List Int} (hst : StOk W v s) (hz : z.length ≤ 5000) (h : (effE v s k a b z).2 = 0) :
    fitsB s.text (effE v s k a b z).1 = true ∧ (doneT s.text (effE v s k a b z).1).length ≤ 4096 ∧ (effE v s k a b z).1.gone.length ≤ 5000 ∧ (effE v s k a b z).1.came.length ≤ 5000 ∧ v.n ≤ 4096 ∧ v.n1 ≤ 16 ∧ v.n1 + v.n2 ≤ 16 ∧ (k = 3 → 0 < v.n1) ∧ (k = 4 → 0 < v.n2) := by
  have hn := hst.t.hn
  unfold effE at h ⊢
  by_cases hr : rightE v s ≠ 0
  · rw [if_pos hr] at h
    exact absurd h hr
  rw [if_neg hr] at h ⊢
  have hr : rightE v s = 0 := by omega
  have hb : v.n ≤ 4096 ∧ v.n1 ≤ 16 ∧ v.n1 + v.n2 ≤ 16 ∧ (goesT true s.text ((dn v.n1 (Nat.le_refl _)).map fun j => s.x1 j.1)).isSome = true ∧ (goesT false s.text ((dn v.n2 (Nat.le_refl _)).map fun j => s.x2 j.1)).isSome = true := by
    unfold rightE at hr
    by_cases h1 : 4096 < v.n ∨ 16 < v.n1 ∨ 16 < v.n1 + v.n2
    · rw [if_pos h1] at hr
      omega
    · rw [if_neg h1] at hr
      split at hr
      · omega
      · split at hr
        · omega
        · rename_i h3
          refine ⟨by omega, by omega, by omega, ?_, ?_⟩
          · cases hh : (goesT true s.text ((dn v.n1 (Nat.le_refl _)).map fun j => s.x1 j.1)).isSome
            · exact absurd (.inl hh) h3
            · rfl
          · cases hh : (goesT false s.text ((dn v.n2 (Nat.le_refl _)).map fun j => s.x2 j.1)).isSome
            · exact absurd (.inr hh) h3
            · rfl
  obtain ⟨b1, b2, b3, g1, g2⟩ := hb
  by_cases k1 : k = 1
  · rw [if_pos k1] at h ⊢
    unfold insE at h ⊢
    by_cases e1 : z.length = 0
    · rw [if_pos e1] at h; exact absurd h (by decide)
    rw [if_neg e1] at h ⊢
    by_cases e2 : z.all scl = false
    · rw [if_pos e2] at h; exact absurd h (by decide)
    rw [if_neg e2] at h ⊢
    by_cases e3 : a < 0 ∨ (s.text.length : Int) < a
    · rw [if_pos e3] at h; exact absurd h (by decide)
    rw [if_neg e3] at h ⊢
    by_cases e4 : 4096 < z.length + s.text.length
    · rw [if_pos e4] at h; exact absurd h (by decide)
    rw [if_neg e4]
    refine ⟨?_, ?_, by simp, hz, b1, b2, b3, fun e => by omega, fun e => by omega⟩
    · unfold fitsB
      exact decide_eq_true ⟨by dsimp only; omega, by simp; omega, by simp⟩
    · unfold doneT
      simp
      omega
  rw [if_neg k1] at h ⊢
  by_cases k2 : k = 2
  · rw [if_pos k2] at h ⊢
    unfold remE at h ⊢
    by_cases e1 : a < 0 ∨ (s.text.length : Int) < b ∨ b < a
    · rw [if_pos e1] at h; exact absurd h (by decide)
    rw [if_neg e1] at h ⊢
    by_cases e2 : a = b
    · rw [if_pos e2] at h; exact absurd h (by decide)
    rw [if_neg e2]
    have hl : ((s.text.drop a.toNat).take (b.toNat - a.toNat)).length = b.toNat - a.toNat := by simp; omega
    refine ⟨?_, ?_, by dsimp only; omega, by simp, b1, b2, b3, fun e => by omega, fun e => by omega⟩
    · unfold fitsB
      exact decide_eq_true ⟨by dsimp only; omega, by dsimp only; omega, by dsimp only; rw [hl]⟩
    · unfold doneT
      simp
      omega
  rw [if_neg k2] at h ⊢
  by_cases k3 : k = 3
  · rw [if_pos k3] at h ⊢
    by_cases e1 : 0 < v.n1
    · rw [if_pos e1]
      have h1 := step_ok (goes_head e1 g1)
      have h2 := hst.s1 (v.n1 - 1) (by omega)
      obtain ⟨ad, _, hat⟩ := hst.u.at_ (v.n1 - 1) (by omega)
      have h3 := hat.h.g.hn
      have h4 := hat.h.k.hn
      exact ⟨h1.1, h1.2, by show (s.x1 (v.n1 - 1)).came.length ≤ 5000; omega, by show (s.x1 (v.n1 - 1)).gone.length ≤ 5000; omega, b1, b2, b3, fun _ => e1, fun e => by omega⟩
    · rw [if_neg e1] at h; exact absurd h (by decide)
  rw [if_neg k3] at h ⊢
  by_cases k4 : k = 4
  · rw [if_pos k4] at h ⊢
    by_cases e1 : 0 < v.n2
    · rw [if_pos e1]
      have h1 := step_ok (goes_head e1 g2)
      have h2 := hst.s2 (v.n2 - 1) (by omega)
      obtain ⟨ad, _, hat⟩ := hst.r.at_ (v.n2 - 1) (by omega)
      have h3 := hat.h.g.hn
      have h4 := hat.h.k.hn
      exact ⟨h1.1, h1.2, by dsimp only; omega, by dsimp only; omega, b1, b2, b3, fun e => by omega, fun _ => e1⟩
    · rw [if_neg e1] at h; exact absurd h (by decide)
  rw [if_neg k4] at h
  exact absurd h (by decide)
/-! ### rows kept and cut -/
/-- the world but for one block -/
def Put1 (W W1 : World) (q : Nat) : Prop := W.heap.size ≤ W1.heap.size ∧ ∀ k, k < W.heap.size → k ≠ q → W1.heap[k]? = W.heap[k]?
theorem Rg.lt {W : World} {A : Option Addr} {t sz n cap : Nat} {vs : List Value} (h : Rg W A t sz vs n cap) {ad : Addr} (hA : A = some ad) : ad.block < W.heap.size := by
  rcases h with ⟨h1, _⟩ | ⟨g, cur, h1, h2, _⟩
  · rw [h1] at hA; cases hA
  · rw [h1] at hA
    injection hA with hA
    subst hA
    exact (Array.getElem?_eq_some_iff.1 h2).1
theorem Rg.keep {W W1 : World} {A : Option Addr} {t sz n cap : Nat} {vs : List Value} (h : Rg W A t sz vs n cap) (hk : ∀ ad, A = some ad → W1.heap[ad.block]? = W.heap[ad.block]?) : Rg W1 A t sz vs n cap := by
  rcases h with h | ⟨g, cur, h1, h2, h3⟩
  · exact .inl h
  · exact .inr ⟨g, cur, h1, (hk _ h1).trans h2, h3⟩
theorem Ro.put {W W1 : World} {base n c q : Nat} {A : Option Addr} {vs : Nat → CV} {xs : Nat → Ch} (h : Ro W base A n c vs xs) (hp : Put1 W W1 q) (hq : ∀ (a : Addr) (v : Value), a.block = q → W.cell? a = some v → NoI v) (hne : ∀ ad, A = some ad → ad.block ≠ q) : Ro W1 base A n c vs xs :=
  ⟨h.row.keep (fun ad e => hp.2 _ (h.row.lt e) (hne ad e)), fun i hi => (h.ch i hi).only hq hp.2, h.hb, h.sz⟩
theorem Ro.but {W W1 : World} {base n c base' n' c' : Nat} {A A' : Option Addr} {vs vs' : Nat → CV} {xs xs' : Nat → Ch} (h : Ro W base A n c vs xs) (h' : Ro W base' A' n' c' vs' xs') (hb : But W W1 A') (hne : ∀ ad ad', A = some ad → A' = some ad' → ad.block ≠ ad'.block) : Ro W1 base A n c vs xs :=
  ⟨h.row.keep (fun ad e => hb.2.1 _ (h.row.lt e) (fun e' => by
    obtain ⟨ad', h1, h2⟩ := Option.map_eq_some_iff.1 e'.symm
    exact hne ad ad' e h1 h2.symm)), fun i hi => (h.ch i hi).but h'.row hb, h.hb, h.sz⟩
theorem Rc.take {W : World} {A : Option Addr} {n c m : Nat} {vs : Nat → CV} {xs : Nat → Ch} (h : Rc W A n c vs xs) (hm : m ≤ n) : Rc W A m c vs xs := ⟨fun i hi => h.at_ i (by omega), by have := h.hc; omega, h.hm, h.h0⟩
theorem add_add3 (ad : Addr) (i : Nat) : (ad.add 3).add (i * 3) = ad.add ((i + 1) * 3) := by
  unfold Addr.add
  rw [if_neg (by omega : ¬ (3 = 0)), if_neg (by omega : ¬ (i + 1) * 3 = 0)]
  by_cases h : i * 3 = 0
  · rw [if_pos h]
    have : i = 0 := by omega
    subst this
    rfl
  · rw [if_neg h]
    dsimp only
    congr 1
    omega
theorem Rc.drop1 {W : World} {A : Option Addr} {n c : Nat} {vs : Nat → CV} {xs : Nat → Ch} (h : Rc W A (n + 1) c vs xs) : Rc W (if c = 1 then A else A.map (·.add (1 * 3))) n (c - 1) (fun i => vs (i + 1)) (fun i => xs (i + 1)) := by
  have hc := h.hc
  refine ⟨fun i hi => ?_, by omega, by have := h.hm; omega, fun e => ?_⟩
  · obtain ⟨ad, hA, hat⟩ := h.at_ (i + 1) (by omega)
    rw [if_neg (by omega), hA]
    refine ⟨ad.add 3, rfl, ?_⟩
    exact ⟨by rw [add_add3]; exact hat.c0, by rw [add_add3]; exact hat.c1, by rw [add_add3]; exact hat.c2, hat.h⟩
  · by_cases h1 : c = 1
    · omega
    · rw [if_neg h1] at e
      cases hA : A with
      | none => have := h.h0 hA; omega
      | some ad => rw [hA] at e; cases e
theorem run_ctake {A : Option Addr} {n c x : Nat} (h : x ≤ n) (hc : n ≤ c) (W : World) : (Instr.slice 24 (.slice A n c) none (some (.int .i64 (x : Int))) none).run Try.prog W = .ok (.slice A x c) W := by
  obtain ⟨i0, hi, hz0, hz1, hz2⟩ := info_parts infoC
  have := cut_to 24 32 .i64 Try.underlying24 hi A n c (x : Int) (by omega) (by omega) hc W
  rw [this, Int.toNat_natCast]
theorem run_cdrop1 {A : Option Addr} {n c : Nat} (h : 1 ≤ n) (W : World) : (Instr.slice 24 (.slice A n c) (some (.int .i64 1)) none none).run Try.prog W = .ok (.slice (if c = 1 then A else A.map (·.add (1 * 3))) (n - 1) (c - 1)) W := by
  obtain ⟨i0, hi, hz0, hz1, hz2⟩ := info_parts infoC
  have := cut_from 24 32 .i64 Try.underlying24 hi 3 hz1 A n c 1 (by omega) (by omega) W
  rw [this]
  rfl
end Go.Proofs.Ytenjldfflkinkaa.Rop

namespace Go.Proofs.Ytenjldfflkinkaa.Rop
set_option linter.unusedVariables false
set_option linter.unusedSimpArgs false
open Go.RowKit Go.Proofs.Ytenjldfflkinkaa.F Go.Proofs.YtenjldfflkinkaaW.PrintWords Go.Proofs.YtenjldfflkinkaaW.PrintLast Go.Proofs.YtenjldfflkinkaaW.PrintMore
theorem add_blk (a : Addr) (k : Nat) : (a.add k).block = a.block := by
  unfold Addr.add
  split <;> rfl
theorem cell_same {W W1 : World} {a : Addr} (h : W1.heap[a.block]? = W.heap[a.block]?) : W1.cell? a = W.cell? a := by simp only [World.cell?, h]
theorem Put1.cell {W W1 : World} {q : Nat} (hp : Put1 W W1 q) {a : Addr} {v : Value} (h : W.cell? a = some v) (hne : a.block ≠ q) : W1.cell? a = some v := (cell_same (hp.2 _ (World.block_lt_of_cell? W _ h) hne)).trans h
theorem ChAt.put {W W1 : World} {ad : Addr} {i q : Nat} {v : CV} {x : Ch} (h : ChAt W ad i v x) (hp : Put1 W W1 q) (hq : ∀ (a : Addr) (v : Value), a.block = q → W.cell? a = some v → NoI v) (hne : ad.block ≠ q) : ChAt W1 ad i v x :=
  ⟨hp.cell h.c0 (by rw [add_blk]; exact hne), hp.cell h.c1 (by dsimp only; rw [add_blk]; exact hne), hp.cell h.c2 (by dsimp only; rw [add_blk]; exact hne), h.h.only hq hp.2⟩
theorem Rc.put {W W1 : World} {n c q : Nat} {A : Option Addr} {vs : Nat → CV} {xs : Nat → Ch} (h : Rc W A n c vs xs) (hp : Put1 W W1 q) (hq : ∀ (a : Addr) (v : Value), a.block = q → W.cell? a = some v → NoI v) (hne : ∀ ad, A = some ad → ad.block ≠ q) : Rc W1 A n c vs xs :=
  ⟨fun i hi => by
    obtain ⟨ad, hA, hat⟩ := h.at_ i hi
    exact ⟨ad, hA, hat.put hp hq (hne ad hA)⟩, h.hc, h.hm, h.h0⟩
theorem Put1.one (W : World) (q o : Nat) (u : Value) : Put1 W (W.setCell ⟨q, o, none⟩ u) q := ⟨by simp, fun k _ hk => Below.heap_setCell W ⟨q, o, none⟩ u k hk⟩
theorem Put1.three (W : World) (q : Nat) (a b c : Value) : Put1 W (((W.setCell ⟨q, 0, none⟩ a).setCell ⟨q, 1, none⟩ b).setCell ⟨q, 2, none⟩ c) q := ⟨by simp, fun k _ hk => set3_far hk⟩
theorem set_blk {W : World} {q t i : Nat} {cur : Array Value} {u : Value} (h : W.heap[q]? = some (.cells cur t (0, 0))) : (W.setCell ⟨q, i, none⟩ u).heap[q]? = some (.cells (cur.setIfInBounds i u) t (0, 0)) := by
  have hl := (Array.getElem?_eq_some_iff.1 h).1
  simp [World.setCell, Array.getElem?_modify, h]
/-- the three cells of a state -/
def C3 (W : World) (q : Nat) (a b c : Value) : Prop := W.heap[q]? = some (.cells #[a, b, c] 26 (0, 0))
theorem C3.set0 {W : World} {q : Nat} {a b c : Value} (h : C3 W q a b c) (u : Value) : C3 (W.setCell ⟨q, 0, none⟩ u) q u b c := set_blk h
theorem C3.set1 {W : World} {q : Nat} {a b c : Value} (h : C3 W q a b c) (u : Value) : C3 (W.setCell ⟨q, 1, none⟩ u) q a u c := set_blk h
theorem C3.set2 {W : World} {q : Nat} {a b c : Value} (h : C3 W q a b c) (u : Value) : C3 (W.setCell ⟨q, 2, none⟩ u) q a b u := set_blk h
theorem C3.below {W W' : World} {q : Nat} {a b c : Value} (h : C3 W q a b c) (hb : Below W.heap.size W W') : C3 W' q a b c := (hb.block _ (Array.getElem?_eq_some_iff.1 h).1).trans h
theorem C3.but {W W1 : World} {q n cap : Nat} {a b c : Value} {A : Option Addr} {vs : List Value} (h : C3 W q a b c) (hR : Rg W A 32 3 vs n cap) (hb : But W W1 A) : C3 W1 q a b c :=
  (hb.2.1 q (Array.getElem?_eq_some_iff.1 h).1 (fun e => by
    obtain ⟨ad, h1, h2⟩ := Option.map_eq_some_iff.1 e.symm
    rcases hR with ⟨h3, _⟩ | ⟨g, cu, h3, h4, _⟩
    · rw [h3] at h1; cases h1
    · rw [h3] at h1
      injection h1 with h1
      subst h1
      dsimp only at h2
      subst h2
      rw [C3, h4] at h
      injection h with h
      injection h with _ h5
      exact absurd h5 (by decide))).trans h
theorem C3.noI {W : World} {q : Nat} {A B C : Option Addr} {x y z x' y' z' : Nat} (h : C3 W q (.slice A x x') (.slice B y y') (.slice C z z')) : ∀ (a : Addr) (v : Value), a.block = q → W.cell? a = some v → NoI v := by
  intro a v ha hc
  refine blk_noI h (fun i v h => ?_) a v ha hc
  match i with
  | 0 => simp at h; subst h; exact noI_sl _ _ _
  | 1 => simp at h; subst h; exact noI_sl _ _ _
  | 2 => simp at h; subst h; exact noI_sl _ _ _
  | i + 3 => simp at h
theorem C3.rows {W : World} {q n cap : Nat} {a b c : Value} {A : Option Addr} {vs : List Value} (h : C3 W q a b c) (hR : Rg W A 32 3 vs n cap) : ∀ ad, A = some ad → ad.block ≠ q := by
  intro ad hA e
  rcases hR with ⟨h1, _⟩ | ⟨g, cu, h1, h2, _⟩
  · rw [h1] at hA; cases hA
  · rw [h1] at hA
    injection hA with hA
    subst hA
    dsimp only at e
    subst e
    rw [C3, h2] at h
    injection h with h
    injection h with _ h5
    exact absurd h5 (by decide)
theorem Ro.mono {W : World} {base b' n c : Nat} {A : Option Addr} {vs : Nat → CV} {xs : Nat → Ch} (h : Ro W base A n c vs xs) (hb : b' ≤ base) : Ro W b' A n c vs xs := ⟨h.row, h.ch, fun ad e => Nat.le_trans hb (h.hb ad e), h.sz⟩
/-- two rows of their own -/
def Apt (A B : Option Addr) : Prop := ∀ ad ad', A = some ad → B = some ad' → ad.block ≠ ad'.block
theorem Ro.apt {W W' : World} {b n c b' n' c' : Nat} {A A' : Option Addr} {vs vs' : Nat → CV} {xs xs' : Nat → Ch} (h : Ro W b A n c vs xs) (h' : Ro W' b' A' n' c' vs' xs') (hb : W.heap.size ≤ b') : Apt A A' := fun ad ad' h1 h2 => by
  have e1 := h.row.lt h1
  have e2 := h'.hb ad' h2
  omega
/-- the new state's parts behind the copies -/
structure At4 (D W : World) (text : List Int) (n1 n2 : Nat) (x1 x2 : Nat → Ch) (A : Option Addr) (n c : Nat) (A1 : Option Addr) (c1 : Nat) (v1 : Nat → CV) (A2 : Option Addr) (c2 : Nat) (v2 : Nat → CV) : Prop where
  b : Below D.heap.size D W
  t : Sl W A n c text
  u : Ro W D.heap.size A1 n1 c1 v1 x1
  r : Ro W D.heap.size A2 n2 c2 v2 x2
  ap : Apt A1 A2
theorem At4.below {D W W' : World} {text : List Int} {n1 n2 : Nat} {x1 x2 : Nat → Ch} {A : Option Addr} {n c : Nat} {A1 : Option Addr} {c1 : Nat} {v1 : Nat → CV} {A2 : Option Addr} {c2 : Nat} {v2 : Nat → CV} (h : At4 D W text n1 n2 x1 x2 A n c A1 c1 v1 A2 c2 v2) (hb : Below W.heap.size W W') : At4 D W' text n1 n2 x1 x2 A n c A1 c1 v1 A2 c2 v2 :=
  ⟨below_step h.b hb, h.t.below hb, h.u.below hb, h.r.below hb, h.ap⟩
/-- what the four orders leave: the values of the three calls and the new block -/
def J4 (D : World) (text : List Int) (n1 n2 : Nat) (x1 x2 : Nat → Ch) (s : Value × Value × Value × Nat) (W : World) : Prop := ∃ A n c A1 c1 v1 A2 c2 v2, s.1 = .slice A n c ∧ s.2.1 = .slice A1 n1 c1 ∧ s.2.2.1 = .slice A2 n2 c2 ∧ At4 D W text n1 n2 x1 x2 A n c A1 c1 v1 A2 c2 v2 ∧ D.heap.size ≤ s.2.2.2 ∧ C3 W s.2.2.2 (.slice none 0 0) (.slice none 0 0) (.slice none 0 0)
theorem StOk.put {W W1 : World} {q : Nat} {v : SV} {s : SP} (h : StOk W v s) (hp : Put1 W W1 q) (hq : ∀ (a : Addr) (v : Value), a.block = q → W.cell? a = some v → NoI v) (h1 : ∀ ad, v.A1 = some ad → ad.block ≠ q) (h2 : ∀ ad, v.A2 = some ad → ad.block ≠ q) : StOk W1 v s :=
  ⟨h.t.only hq hp.2, h.u.put hp hq h1, h.r.put hp hq h2, h.bn, h.b1, h.b2, h.s1, h.s2⟩
theorem C3.far {W : World} {q o i : Nat} {a b c u : Value} (h : C3 W q a b c) (hne : q ≠ o) : C3 (W.setCell ⟨o, i, none⟩ u) q a b c := (Below.heap_setCell W ⟨o, i, none⟩ u q hne).trans h
theorem Ro.far {W : World} {base n c q i : Nat} {A : Option Addr} {vs : Nat → CV} {xs : Nat → Ch} {A0 B0 D0 : Option Addr} {x y z x' y' z' : Nat} (h : Ro W base A n c vs xs) (hC : C3 W q (.slice A0 x x') (.slice B0 y y') (.slice D0 z z')) (u : Value) : Ro (W.setCell ⟨q, i, none⟩ u) base A n c vs xs := h.put (Put1.one W q i u) hC.noI (hC.rows h.row)
theorem Sl.far {W : World} {n c q i : Nat} {A : Option Addr} {l : List Int} {A0 B0 D0 : Option Addr} {x y z x' y' z' : Nat} (h : Sl W A n c l) (hC : C3 W q (.slice A0 x x') (.slice B0 y y') (.slice D0 z z')) (u : Value) : Sl (W.setCell ⟨q, i, none⟩ u) A n c l := h.only hC.noI (Put1.one W q i u).2
/-- all that is known of the world while Apply changes its new state: D the world ahead of the copies, q the state, r the result -/
structure Ap (D W : World) (q r : Nat) (t : List Int) (A : Option Addr) (n c : Nat) (A1 : Option Addr) (n1 c1 : Nat) (v1 : Nat → CV) (x1 : Nat → Ch) (A2 : Option Addr) (n2 c2 : Nat) (v2 : Nat → CV) (x2 : Nat → Ch) : Prop where
  b : Below D.heap.size D W
  t : Sl W A n c t
  u : Ro W D.heap.size A1 n1 c1 v1 x1
  rr : Ro W D.heap.size A2 n2 c2 v2 x2
  ap : Apt A1 A2
  cq : C3 W q (.slice A n c) (.slice A1 n1 c1) (.slice A2 n2 c2)
  cr : C3 W r (.slice none 0 0) (.slice none 0 0) (.slice none 0 0)
  gq : D.heap.size ≤ q
  gr : r < D.heap.size
theorem Ap.below {D W W' : World} {q r : Nat} {t : List Int} {A : Option Addr} {n c : Nat} {A1 : Option Addr} {n1 c1 : Nat} {v1 : Nat → CV} {x1 : Nat → Ch} {A2 : Option Addr} {n2 c2 : Nat} {v2 : Nat → CV} {x2 : Nat → Ch} (h : Ap D W q r t A n c A1 n1 c1 v1 x1 A2 n2 c2 v2 x2) (hb : Below W.heap.size W W') : Ap D W' q r t A n c A1 n1 c1 v1 x1 A2 n2 c2 v2 x2 :=
  ⟨below_step h.b hb, h.t.below hb, h.u.below hb, h.rr.below hb, h.ap, h.cq.below hb, h.cr.below hb, h.gq, h.gr⟩
/-- the redo row grown by one, and both slices written: undo cut to its first m -/
theorem Ap.push2 {D W W1 : World} {q r : Nat} {t : List Int} {A : Option Addr} {n c : Nat} {A1 : Option Addr} {n1 c1 : Nat} {v1 : Nat → CV} {x1 : Nat → Ch} {A2 : Option Addr} {n2 c2 : Nat} {v2 : Nat → CV} {x2 : Nat → Ch} (h : Ap D W q r t A n c A1 n1 c1 v1 x1 A2 n2 c2 v2 x2) (cv : CV) {x : Ch} (hx : ChV W cv.p cv.A cv.n cv.c cv.B cv.m cv.d x) (hsz : cv.n ≤ 5000 ∧ cv.m ≤ 5000)
    {A' : Option Addr} {c' : Nat} (hR : Rg W1 A' 32 3 (flat v2 n2 ++ cv.cells) (n2 + 1) c') (hA : ∃ ad, A' = some ad ∧ (A2 = some ad ∨ W.heap.size ≤ ad.block)) (hb : But W W1 A2) :
    Below D.heap.size D W1 ∧ Sl W1 A n c t ∧ Ro W1 D.heap.size A1 n1 c1 v1 x1 ∧ Ro W1 D.heap.size A' (n2 + 1) c' (upd v2 n2 cv) (upd x2 n2 x) ∧ C3 W1 q (.slice A n c) (.slice A1 n1 c1) (.slice A2 n2 c2) ∧ C3 W1 r (.slice none 0 0) (.slice none 0 0) (.slice none 0 0) :=
  ⟨hb.below h.rr.hb h.b h.b.size, h.t.but h.rr.row hb, h.u.but h.rr hb h.ap, h.rr.more cv hx hsz h.b.size hR hA hb, h.cq.but h.rr.row hb, h.cr.but h.rr.row hb⟩
theorem Ap.push1 {D W W1 : World} {q r : Nat} {t : List Int} {A : Option Addr} {n c : Nat} {A1 : Option Addr} {n1 c1 : Nat} {v1 : Nat → CV} {x1 : Nat → Ch} {A2 : Option Addr} {n2 c2 : Nat} {v2 : Nat → CV} {x2 : Nat → Ch} (h : Ap D W q r t A n c A1 n1 c1 v1 x1 A2 n2 c2 v2 x2) (cv : CV) {x : Ch} (hx : ChV W cv.p cv.A cv.n cv.c cv.B cv.m cv.d x) (hsz : cv.n ≤ 5000 ∧ cv.m ≤ 5000)
    {A' : Option Addr} {c' : Nat} (hR : Rg W1 A' 32 3 (flat v1 n1 ++ cv.cells) (n1 + 1) c') (hA : ∃ ad, A' = some ad ∧ (A1 = some ad ∨ W.heap.size ≤ ad.block)) (hb : But W W1 A1) :
    Below D.heap.size D W1 ∧ Sl W1 A n c t ∧ Ro W1 D.heap.size A' (n1 + 1) c' (upd v1 n1 cv) (upd x1 n1 x) ∧ Ro W1 D.heap.size A2 n2 c2 v2 x2 ∧ C3 W1 q (.slice A n c) (.slice A1 n1 c1) (.slice A2 n2 c2) ∧ C3 W1 r (.slice none 0 0) (.slice none 0 0) (.slice none 0 0) :=
  ⟨hb.below h.u.hb h.b h.b.size, h.t.but h.u.row hb, h.u.more cv hx hsz h.b.size hR hA hb, h.rr.but h.u hb (fun ad ad' e1 e2 e3 => h.ap ad' ad e2 e1 e3.symm), h.cq.but h.u.row hb, h.cr.but h.u.row hb⟩
/-- the end: both slices written -/
structure En (w W : World) (q r : Nat) (t : List Int) (A : Option Addr) (n c : Nat) (A1 : Option Addr) (n1 c1 : Nat) (A2 : Option Addr) (n2 c2 : Nat) : Prop where
  b : Below w.heap.size w W
  cq : C3 W q (.slice A n c) (.slice A1 n1 c1) (.slice A2 n2 c2)
  cr : C3 W r (.slice none 0 0) (.slice none 0 0) (.slice none 0 0)
  ok : ∃ v1 v2 x1 x2, StOk W ⟨A, n, c, A1, n1, c1, A2, n2, c2, v1, v2⟩ ⟨t, x1, x2⟩
  e1 : ∀ ad, A1 = some ad → ad.block ≠ r
  e2 : ∀ ad, A2 = some ad → ad.block ≠ r
/-- two cells written behind a push -/
theorem en_of {w D W : World} {q r : Nat} {t : List Int} {A : Option Addr} {n c : Nat} {A1 : Option Addr} {n1 c1 : Nat} {v1 : Nat → CV} {x1 : Nat → Ch} {A2 : Option Addr} {n2 c2 : Nat} {v2 : Nat → CV} {x2 : Nat → Ch} {B1 B2 : Option Addr} {y1 z1 y2 z2 : Nat} {m1 m2 : Nat} (hw : Below w.heap.size w D) (gq : D.heap.size ≤ q) (gr : r < D.heap.size)
    (hb : Below D.heap.size D W) (ht : Sl W A n c t) (hu : Ro W D.heap.size A1 n1 c1 v1 x1) (hr : Ro W D.heap.size A2 n2 c2 v2 x2) (cq : C3 W q (.slice A n c) (.slice B1 y1 z1) (.slice B2 y2 z2)) (cr : C3 W r (.slice none 0 0) (.slice none 0 0) (.slice none 0 0))
    (h1 : m1 ≤ n1) (h2 : m2 ≤ n2) (hn : n ≤ 5000) (hn1 : n1 ≤ 1000) (hn2 : n2 ≤ 1000) : En w ((W.setCell ⟨q, 1, none⟩ (.slice A1 m1 c1)).setCell ⟨q, 2, none⟩ (.slice A2 m2 c2)) q r t A n c A1 m1 c1 A2 m2 c2 := by
  have k1 := cq.set1 (.slice A1 m1 c1)
  have hne : r ≠ q := by omega
  refine ⟨below_step hw ((hb.setCell (p := ⟨q, 1, none⟩) gq _).setCell (p := ⟨q, 2, none⟩) gq _), k1.set2 _, (cr.far hne).far hne, ⟨v1, v2, x1, x2, ⟨(ht.far cq _).far k1 _, ((hu.far cq _).far k1 _).rc.take h1, ((hr.far cq _).far k1 _).rc.take h2, hn, by dsimp only; omega, by dsimp only; omega, fun i hi => hu.sz i (by dsimp only at hi; omega), fun i hi => hr.sz i (by dsimp only at hi; omega)⟩⟩, fun ad e => ?_, fun ad e => ?_⟩
  · have := hu.hb ad e; omega
  · have := hr.hb ad e; omega
theorem But.cell {W W1 : World} {A : Option Addr} {a : Addr} {v : Value} (hb : But W W1 A) (h : W.cell? a = some v) (hne : ∀ ad, A = some ad → a.block ≠ ad.block) : W1.cell? a = some v :=
  (cell_same (hb.2.1 _ (World.block_lt_of_cell? W _ h) (fun e => by
    obtain ⟨ad, h1, h2⟩ := Option.map_eq_some_iff.1 e.symm
    exact hne ad h1 h2.symm))).trans h
theorem En.drop {w W : World} {q r : Nat} {t : List Int} {A : Option Addr} {n c : Nat} {A1 : Option Addr} {n1 c1 : Nat} {A2 : Option Addr} {n2 c2 : Nat} (h : En w W q r t A n c A1 (n1 + 1) c1 A2 n2 c2) (gq : w.heap.size ≤ q) (hqr : r ≠ q) (e3 : ∀ ad, A1 = some ad → ad.block ≠ q) (e4 : ∀ ad, A2 = some ad → ad.block ≠ q) :
    En w (W.setCell ⟨q, 1, none⟩ (.slice (if c1 = 1 then A1 else A1.map (·.add (1 * 3))) n1 (c1 - 1))) q r t A n c (if c1 = 1 then A1 else A1.map (·.add (1 * 3))) n1 (c1 - 1) A2 n2 c2 := by
  obtain ⟨v1, v2, x1, x2, ok⟩ := h.ok
  refine ⟨h.b.setCell (p := ⟨q, 1, none⟩) gq _, h.cq.set1 _, h.cr.far hqr, ?_, fun ad e => ?_, h.e2⟩
  · have k := ok.put (Put1.one W q 1 (.slice (if c1 = 1 then A1 else A1.map (·.add (1 * 3))) n1 (c1 - 1))) h.cq.noI e3 e4
    exact ⟨fun i => v1 (i + 1), v2, fun i => x1 (i + 1), x2, ⟨k.t, k.u.drop1, k.r, k.bn, by have := k.b1; dsimp only at this ⊢; omega, k.b2, fun i hi => k.s1 (i + 1) (by dsimp only at hi ⊢; omega), k.s2⟩⟩
  · by_cases h1 : c1 = 1
    · rw [if_pos h1] at e
      exact h.e1 ad e
    · rw [if_neg h1] at e
      obtain ⟨ad', h2, rfl⟩ := Option.map_eq_some_iff.1 e
      rw [add_blk]
      exact h.e1 ad' h2
end Go.Proofs.Ytenjldfflkinkaa.Rop

namespace Go.Proofs.Ytenjldfflkinkaa.Rop
set_option linter.unusedVariables false
set_option linter.unusedSimpArgs false
open Go.RowKit Go.Proofs.Ytenjldfflkinkaa.F Go.Proofs.YtenjldfflkinkaaW.PrintWords Go.Proofs.YtenjldfflkinkaaW.PrintLast Go.Proofs.YtenjldfflkinkaaW.PrintMore
/-- what Apply tells: the error of Effect; where there is none, a state with the text behind the change -/
def GivesSt (t : List Int) (q : Int) (w : World) (e : Ending) (w' : World) : Prop := ∃ A n c A1 n1 c1 A2 n2 c2, e = .returned (.tuple #[.agg #[.slice A n c, .slice A1 n1 c1, .slice A2 n2 c2], .int .i64 q]) ∧ Below w.heap.size w w' ∧
  (q = 0 → ∃ v1 v2 x1 x2, StOk w' ⟨A, n, c, A1, n1, c1, A2, n2, c2, v1, v2⟩ ⟨t, x1, x2⟩ ∧ n1 ≤ 17 ∧ n2 ≤ 17 ∧ n ≤ 4096)
section
variable {w : World} {v : SV} {s : SP} {Az : Option Addr} {nz cz : Nat} {z : List Int} {k a b : Int}

set_option maxRecDepth 100000 in
set_option maxHeartbeats 8000000 in
theorem Apply_calls (h : StOk w v s) (hz : Sl w Az nz cz z) (hnz : nz ≤ 5000) : Calls Try.prog 12 #[v.val, .agg #[.int .i64 k, .int .i64 a, .int .i64 b, .slice Az nz cz]] w (GivesSt (doneT s.text (effE v s k a b z).1) (effE v s k a b z).2 w) := by
  have hok := eff_ok (k := k) (a := a) (b := b) (z := z) h (by rw [hz.hn]; exact hnz)
  have CE := Aside0.mk (fun W (hW : Below w.heap.size w W) => Effect_calls (k := k) (a := a) (b := b) (h.below hW) (hz.below hW) hnz)
  obtain ⟨x, q, hxq⟩ : ∃ x q, effE v s k a b z = (x, q) := ⟨_, _, rfl⟩
  have hk2 : q = 0 → k = 1 ∨ k = 2 ∨ k = 3 ∨ k = 4 := by
    intro hq
    have h1 : (effE v s k a b z).2 = 0 := by rw [hxq]; exact hq
    unfold effE at h1
    by_cases hr : rightE v s ≠ 0
    · rw [if_pos hr] at h1
      exact absurd h1 hr
    rw [if_neg hr] at h1
    by_cases e1 : k = 1
    · exact .inl e1
    rw [if_neg e1] at h1
    by_cases e2 : k = 2
    · exact .inr (.inl e2)
    rw [if_neg e2] at h1
    by_cases e3 : k = 3
    · exact .inr (.inr (.inl e3))
    rw [if_neg e3] at h1
    by_cases e4 : k = 4
    · exact .inr (.inr (.inr e4))
    rw [if_neg e4] at h1
    exact absurd h1 (by decide)
  rw [hxq] at hok CE ⊢
  obtain ⟨A, n, c, A1, n1, c1, A2, n2, c2, v1, v2⟩ := v
  dsimp only [SV.val] at CE hok ⊢
  have HS := Aside0.mk h
  have bn := h.bn
  have b1 := h.b1
  have b2 := h.b2
  dsimp only at bn b1 b2
  have OK := Aside0.mk hok
  have K2 := Aside0.mk hk2
  clear h hz hok hk2 hxq
  go_enter Try.func12, Try.ntmps12
  go_upto_region 1 with (fail)
  obtain ⟨D1, hD1⟩ : ∃ D1, w.alloc (Obj.cells #[Value.slice A n c, Value.slice A1 n1 c1, Value.slice A2 n2 c2] 26) = D1 := ⟨_, rfl⟩
  have m0 : D1.cell? ⟨w.heap.size, 0, none⟩ = some (.slice A n c) := by rw [← hD1, new_cell]; rfl
  have m1 : D1.cell? ⟨w.heap.size, 1, none⟩ = some (.slice A1 n1 c1) := by rw [← hD1, new_cell]; rfl
  have m2 : D1.cell? ⟨w.heap.size, 2, none⟩ = some (.slice A2 n2 c2) := by rw [← hD1, new_cell]; rfl
  have hz1 : D1.heap.size = w.heap.size + 1 := by rw [← hD1]; simp
  have hb1 : Below w.heap.size w D1 := by rw [← hD1]; exact (Below.refl _ _).alloc (Nat.le_refl _) _
  rw [hD1]
  obtain ⟨D2, hD2⟩ : ∃ D2, D1.alloc (Obj.cells #[Value.int IntKind.i64 k, Value.int IntKind.i64 a, Value.int IntKind.i64 b, Value.slice Az nz cz] 30) = D2 := ⟨_, rfl⟩
  have o0 : D2.cell? ⟨D1.heap.size, 0, none⟩ = some (.int .i64 k) := by rw [← hD2, new_cell]; rfl
  have o1 : D2.cell? ⟨D1.heap.size, 1, none⟩ = some (.int .i64 a) := by rw [← hD2, new_cell]; rfl
  have o2 : D2.cell? ⟨D1.heap.size, 2, none⟩ = some (.int .i64 b) := by rw [← hD2, new_cell]; rfl
  have o3 : D2.cell? ⟨D1.heap.size, 3, none⟩ = some (.slice Az nz cz) := by rw [← hD2, new_cell]; rfl
  have hz2 : D2.heap.size = w.heap.size + 2 := by rw [← hD2, World.size_alloc, hz1]
  have hb2 : Below D1.heap.size D1 D2 := by rw [← hD2]; exact (Below.refl _ _).alloc (Nat.le_refl _) _
  rw [hD2]
  obtain ⟨D3, hD3⟩ : ∃ D3, D2.alloc (Obj.cells #[Value.slice none 0 0, Value.slice none 0 0, Value.slice none 0 0] 26) = D3 := ⟨_, rfl⟩
  have hb3 : Below D2.heap.size D2 D3 := by rw [← hD3]; exact (Below.refl _ _).alloc (Nat.le_refl _) _
  have zr : D3.heap[w.heap.size + 1 + 1]? = some (.cells #[Value.slice none 0 0, Value.slice none 0 0, Value.slice none 0 0] 26 (0, 0)) := by rw [← hD3, show w.heap.size + 1 + 1 = D2.heap.size from by omega]; exact World.alloc_heap_new D2 _
  have hz3 : D3.heap.size = w.heap.size + 3 := by rw [← hD3, World.size_alloc, hz2]
  rw [hD3]
  rw [hz1] at o0 o1 o2 o3
  have tr1 : ∀ a : Addr, a.block = w.heap.size → D3.cell? a = D1.cell? a := fun a ha => (hb3.cell (p := a) (by rw [ha]; omega)).trans (hb2.cell (p := a) (by rw [ha]; omega))
  have tr2 : ∀ a : Addr, a.block = w.heap.size + 1 → D3.cell? a = D2.cell? a := fun a ha => hb3.cell (p := a) (by rw [ha]; omega)
  replace m0 := (tr1 ⟨w.heap.size, 0, none⟩ rfl).trans m0
  replace m1 := (tr1 ⟨w.heap.size, 1, none⟩ rfl).trans m1
  replace m2 := (tr1 ⟨w.heap.size, 2, none⟩ rfl).trans m2
  replace o0 := (tr2 ⟨w.heap.size + 1, 0, none⟩ rfl).trans o0
  replace o1 := (tr2 ⟨w.heap.size + 1, 1, none⟩ rfl).trans o1
  replace o2 := (tr2 ⟨w.heap.size + 1, 2, none⟩ rfl).trans o2
  replace o3 := (tr2 ⟨w.heap.size + 1, 3, none⟩ rfl).trans o3
  have HBD := Aside0.mk (below_step (below_step hb1 hb2) hb3)
  have hgl : w.heap.size < D3.heap.size := by omega
  have hhl : w.heap.size + 1 < D3.heap.size := by omega
  have hrl : w.heap.size + 1 + 1 < D3.heap.size := by omega
  clear hD1 hD2 hD3 hz1 hz2 hz3 hb1 hb2 hb3 tr1 tr2
  obtain ⟨r, hr⟩ : ∃ r, w.heap.size + 1 + 1 = r := ⟨_, rfl⟩
  have hler : w.heap.size ≤ r := by omega
  rw [hr] at zr hrl ⊢
  obtain ⟨h, hh⟩ : ∃ h, w.heap.size + 1 = h := ⟨_, rfl⟩
  rw [hh] at o0 o1 o2 o3 hhl ⊢
  obtain ⟨g, hg⟩ : ∃ g, w.heap.size = g := ⟨_, rfl⟩
  have HGG := Aside0.mk (show g < r ∧ h < r by omega)
  rw [hg] at m0 m1 m2 hgl ⊢
  clear hg hh hr
  have HCL := Aside0.mk (fun W1 (hb : Below D3.heap.size D3 W1) => (show (W1.cell? ⟨g, 0, none⟩ = some (.slice A n c) ∧ W1.cell? ⟨g, 1, none⟩ = some (.slice A1 n1 c1) ∧ W1.cell? ⟨g, 2, none⟩ = some (.slice A2 n2 c2)) ∧ W1.cell? ⟨h, 0, none⟩ = some (.int .i64 k) ∧ W1.heap[r]? = some (.cells #[Value.slice none 0 0, Value.slice none 0 0, Value.slice none 0 0] 26 (0, 0)) from
    ⟨⟨(hb.cell (p := ⟨g, 0, none⟩) hgl).trans m0, (hb.cell (p := ⟨g, 1, none⟩) hgl).trans m1, (hb.cell (p := ⟨g, 2, none⟩) hgl).trans m2⟩, (hb.cell (p := ⟨h, 0, none⟩) hhl).trans o0, (hb.block _ hrl).trans zr⟩))
  have HED := Aside0.mk (CE.out D3 HBD.out)
  by_cases hq : q ≠ 0
  · have d0 : (q != 0) = true := by simpa using hq
    go_upto_region 2 with (first
      | (go_at_call 11; (with_reducible refine HED.out.mono ?_); rintro e W1 ⟨p3, A3, n3, c3, B3, m3, d3, rfl, hV, hb⟩; have V1 := Aside0.mk hV; have BT1 := Aside0.mk hb; clear hV hb))
    obtain ⟨D4, hD4⟩ : ∃ D4, W1.alloc (Obj.cells #[Value.int IntKind.i64 p3, Value.slice A3 n3 c3, Value.slice B3 m3 d3] 32) = D4 := ⟨_, rfl⟩
    have hb4 : Below W1.heap.size W1 D4 := by rw [← hD4]; exact (Below.refl _ _).alloc (Nat.le_refl _) _
    rw [hD4]
    obtain ⟨-, -, zr4⟩ := HCL.out _ (below_step BT1.out hb4)
    have y0 := blk_cell (j := 0) zr4
    have y1 := blk_cell (j := 1) zr4
    have y2 := blk_cell (j := 2) zr4
    have f0 := blk_frozen (j := 0) zr4
    have f1 := blk_frozen (j := 1) zr4
    have f2 := blk_frozen (j := 2) zr4
    have BW4 := Aside0.mk (below_step HBD.out (below_step BT1.out hb4))
    clear hD4 hb4 zr4
    go_wp2
    obtain ⟨c0, c1, c2⟩ := set3_get (a := Value.slice none 0 0) (b := Value.slice none 0 0) (c := Value.slice none 0 0) y0 y1 y2
    have hb5 := below_set3 (a := Value.slice none 0 0) (b := Value.slice none 0 0) (c := Value.slice none 0 0) hler BW4.out
    generalize ((D4.setCell ⟨r, 0, none⟩ (Value.slice none 0 0)).setCell ⟨r, 1, none⟩ (Value.slice none 0 0)).setCell ⟨r, 2, none⟩ (Value.slice none 0 0) = W5 at c0 c1 c2 hb5 ⊢
    refine bodyPost_ret (v := .tuple #[.agg #[.slice none 0 0, .slice none 0 0, .slice none 0 0], .int .i64 q]) (by simp [results, Try.results12, go_sem, c0, c1, c2]) rfl ?_
    exact ⟨none, 0, 0, none, 0, 0, none, 0, 0, rfl, hb5, fun e => absurd e hq⟩
  obtain rfl : q = 0 := by omega
  obtain ⟨f1, f2, f3, f4, f5, f6, f7, f8, f9⟩ := OK.out rfl
  have hkk := K2.out rfl
  have F1 := Aside0.mk f1
  have F2 := Aside0.mk f2
  have F89 := Aside0.mk (And.intro f8 f9)
  have HKK := Aside0.mk hkk
  clear hq f1 f2 f8 f9 OK K2 hkk
  go_upto_region 4 with (first
    | (go_at_call 11; (with_reducible refine HED.out.mono ?_); rintro e W1 ⟨p3, A3, n3, c3, B3, m3, d3, rfl, hV, hb⟩; have V1 := Aside0.mk hV; have BT1 := Aside0.mk hb; clear hV hb))

  obtain ⟨D4, hD4⟩ : ∃ D4, W1.alloc (Obj.cells #[Value.int IntKind.i64 p3, Value.slice A3 n3 c3, Value.slice B3 m3 d3] 32) = D4 := ⟨_, rfl⟩
  have k0 : D4.cell? ⟨W1.heap.size, 0, none⟩ = some (.int .i64 p3) := by rw [← hD4, new_cell]; rfl
  have k1 : D4.cell? ⟨W1.heap.size, 1, none⟩ = some (.slice A3 n3 c3) := by rw [← hD4, new_cell]; rfl
  have k2 : D4.cell? ⟨W1.heap.size, 2, none⟩ = some (.slice B3 m3 d3) := by rw [← hD4, new_cell]; rfl
  have hb4 : Below W1.heap.size W1 D4 := by rw [← hD4]; exact (Below.refl _ _).alloc (Nat.le_refl _) _
  have hql : W1.heap.size < D4.heap.size := by rw [← hD4]; simp
  rw [hD4]
  have BD4 := Aside0.mk (below_step BT1.out hb4)
  have BW4 := Aside0.mk (below_step HBD.out BD4.out)
  have V4 := Aside0.mk (V1.out.below hb4)
  have HS4 := Aside0.mk (HS.out.below BW4.out)
  obtain ⟨⟨y0, y1, y2⟩, yo, yr⟩ := HCL.out _ BD4.out
  clear hD4 hb4
  generalize W1.heap.size = q6 at k0 k1 k2 hql ⊢
  clear V1 BT1 HED CE
  have HQ6 := Aside0.mk hql
  have GR := Aside0.mk (show r < D4.heap.size from (Array.getElem?_eq_some_iff.1 yr).1)
  have hgl4 : g < D4.heap.size := World.block_lt_of_cell? D4 _ y0
  have hhl4 : h < D4.heap.size := World.block_lt_of_cell? D4 _ yo
  have CF := Aside0.mk (fun W1 (hb : Below D4.heap.size D4 W1) => (show (W1.cell? ⟨g, 0, none⟩ = some (.slice A n c) ∧ W1.cell? ⟨g, 1, none⟩ = some (.slice A1 n1 c1) ∧ W1.cell? ⟨g, 2, none⟩ = some (.slice A2 n2 c2)) ∧ W1.cell? ⟨h, 0, none⟩ = some (.int .i64 k) ∧ W1.heap[r]? = some (.cells #[Value.slice none 0 0, Value.slice none 0 0, Value.slice none 0 0] 26 (0, 0)) ∧ (W1.cell? ⟨q6, 0, none⟩ = some (.int .i64 p3) ∧ W1.cell? ⟨q6, 1, none⟩ = some (.slice A3 n3 c3) ∧ W1.cell? ⟨q6, 2, none⟩ = some (.slice B3 m3 d3)) from
    ⟨⟨(hb.cell (p := ⟨g, 0, none⟩) hgl4).trans y0, (hb.cell (p := ⟨g, 1, none⟩) hgl4).trans y1, (hb.cell (p := ⟨g, 2, none⟩) hgl4).trans y2⟩, (hb.cell (p := ⟨h, 0, none⟩) hhl4).trans yo, (hb.block _ (Array.getElem?_eq_some_iff.1 yr).1).trans yr, (hb.cell (p := ⟨q6, 0, none⟩) hql).trans k0, (hb.cell (p := ⟨q6, 1, none⟩) hql).trans k1, (hb.cell (p := ⟨q6, 2, none⟩) hql).trans k2⟩))
  clear y0 y1 y2 yo yr k0 k1 k2 hgl4 hhl4 hql HCL m0 m1 m2 o0 o1 o2 o3 zr hgl hhl hrl
  have HB := Aside0.mk (below_drew1 (Below.refl D4.heap.size D4))
  refine start_ (n := 13) (S := fun w' => Below D4.heap.size D4 w') (ds := []) #[false, false, false, false, false, false, false, false, false, false, false, false, false] (by kernel_rfl) rfl rfl HB.out (fun hHeld => ?_)
  generalize D4.drew = D at HB hHeld ⊢
  refine pure_ (i := 0) (N := some 19) (v := ?_) (a' := ?_) #[true, false, false, false, false, false, false, false, false, false, false, false, false] rfl rfl (by kernel_rfl) (fun _ _ _ h => h) (Or.inl ⟨by rfl, ?_⟩) ?_ ?_
  rotate_left
  · intro w'
    go_simp
    with_reducible rfl
  rotate_left
  · simp only [Act.put, List.setIfInBounds_toArray, List.set_cons_zero, List.set_cons_succ, i64_w, i32_w]
    rfl
  refine pure_ (i := 4) (N := some 23) (v := ?_) (a' := ?_) #[true, false, false, false, true, false, false, false, false, false, false, false, false] rfl rfl (by kernel_rfl) (fun _ _ _ h => h) (Or.inl ⟨by rfl, ?_⟩) ?_ ?_
  rotate_left
  · intro w'
    go_simp
    with_reducible rfl
  rotate_left
  · simp only [Act.put, List.setIfInBounds_toArray, List.set_cons_zero, List.set_cons_succ, i64_w, i32_w]
    rfl
  refine pure_ (i := 7) (N := some 26) (v := ?_) (a' := ?_) #[true, false, false, false, true, false, false, true, false, false, false, false, false] rfl rfl (by kernel_rfl) (fun _ _ _ h => h) (Or.inl ⟨by rfl, ?_⟩) ?_ ?_
  rotate_left
  · intro w'
    go_simp
    with_reducible rfl
  rotate_left
  · simp only [Act.put, List.setIfInBounds_toArray, List.set_cons_zero, List.set_cons_succ, i64_w, i32_w]
    rfl
  refine take_ (i := 1) (N := some 20) (v := ?_) (a' := ?_) #[true, true, false, false, true, false, false, true, false, false, false, false, false] rfl rfl (by kernel_rfl) (fun _ _ _ h => h) (Or.inl ⟨by rfl, ?_⟩) hHeld ?_ ?_
  rotate_left
  · rintro w' hs
    obtain ⟨⟨s0, s1, s2⟩, so, sr, l0, l1, l2⟩ := CF.out w' hs
    go_simp
    with_reducible rfl
  rotate_left
  · simp only [Act.put, List.setIfInBounds_toArray, List.set_cons_zero, List.set_cons_succ, i64_w, i32_w]
    rfl
  refine take_ (i := 2) (N := some 21) (v := ?_) (a' := ?_) #[true, true, true, false, true, false, false, true, false, false, false, false, false] rfl rfl (by kernel_rfl) (fun _ _ _ h => h) (Or.inl ⟨by rfl, ?_⟩) hHeld ?_ ?_
  rotate_left
  · rintro w' hs
    obtain ⟨⟨s0, s1, s2⟩, so, sr, l0, l1, l2⟩ := CF.out w' hs
    go_simp
    with_reducible rfl
  rotate_left
  · simp only [Act.put, List.setIfInBounds_toArray, List.set_cons_zero, List.set_cons_succ, i64_w, i32_w]
    rfl
  refine take_ (i := 5) (N := some 24) (v := ?_) (a' := ?_) #[true, true, true, false, true, true, false, true, false, false, false, false, false] rfl rfl (by kernel_rfl) (fun _ _ _ h => h) (Or.inl ⟨by rfl, ?_⟩) hHeld ?_ ?_
  rotate_left
  · rintro w' hs
    obtain ⟨⟨s0, s1, s2⟩, so, sr, l0, l1, l2⟩ := CF.out w' hs
    go_simp
    with_reducible rfl
  rotate_left
  · simp only [Act.put, List.setIfInBounds_toArray, List.set_cons_zero, List.set_cons_succ, i64_w, i32_w]
    rfl
  refine take_ (i := 8) (N := some 27) (v := ?_) (a' := ?_) #[true, true, true, false, true, true, false, true, true, false, false, false, false] rfl rfl (by kernel_rfl) (fun _ _ _ h => h) (Or.inl ⟨by rfl, ?_⟩) hHeld ?_ ?_
  rotate_left
  · rintro w' hs
    obtain ⟨⟨s0, s1, s2⟩, so, sr, l0, l1, l2⟩ := CF.out w' hs
    go_simp
    with_reducible rfl
  rotate_left
  · simp only [Act.put, List.setIfInBounds_toArray, List.set_cons_zero, List.set_cons_succ, i64_w, i32_w]
    rfl
  refine join_ (σ := Value × Value × Value × Nat) 1 #[true, true, true, true, true, true, true, true, true, true, true, true, false] (fun s_ => [(22, s_.1), (25, s_.2.1), (28, s_.2.2.1), (29, .agg #[s_.1, s_.2.1, s_.2.2.1]), (8, .pointer (some ⟨s_.2.2.2, 0, none⟩))]) (J4 D4 (doneT s.text x) n1 n2 s.x1 s.x2) ?_ ?_
  rotate_left
  · intro hCont
    refine two_ (i := 3) (j := 11) (Ni := some 22) (Nj := some 8) #[true, true, true, true, true, true, false, true, true, false, false, false, false] #[true, true, true, false, true, true, false, true, true, false, false, true, false] rfl rfl rfl rfl (by kernel_rfl) (by decide) (by decide) (fun K hK => ?_) (fun K hK => ?_)
    · skip
      refine goes_ Try.func39 (by kernel_rfl) rfl #[.slice A n c, .agg #[.int .i64 p3, .slice A3 n3 c3, .slice B3 m3 d3]] (by rfl) rfl rfl (by (try simp only [List.map_toArray, List.map_cons, List.map_nil]); first | done | rfl) ?_
      (with_reducible refine (done_calls (HS4.out.t.below HB.out) (V4.out.below HB.out) F1.out (show n ≤ 1000000 by omega) (by have := V4.out.k.hn; omega)).mono ?_)
      rintro e Z1 ⟨A5, n5, c5, rfl, h_, hb⟩
      refine ⟨_, rfl, ?_⟩
      have T := Aside0.mk h_
      clear h_
      replace HB := Aside0.mk (below_step HB.out hb)
      clear hb
      refine hK.out _ _ HB.out (fun hHeld => ?_)
      clear hK K
      refine norm_ (a' := ?_) ?_ ?_
      rotate_left
      · show Act.put _ (some 22) _ = _
        simp only [Act.put, List.setIfInBounds_toArray, List.set_cons_zero, List.set_cons_succ, i64_w, i32_w]
        rfl
      refine two_ (i := 6) (j := 11) (Ni := some 25) (Nj := some 8) #[true, true, true, true, true, true, true, true, true, false, false, false, false] #[true, true, true, true, true, true, false, true, true, false, false, true, false] rfl rfl rfl rfl (by kernel_rfl) (by decide) (by decide) (fun K hK => ?_) (fun K hK => ?_)
      · skip
        refine goes_ Try.func40 (by kernel_rfl) rfl #[.slice A1 n1 c1] (by rfl) rfl rfl (by (try simp only [List.map_toArray, List.map_cons, List.map_nil]); first | done | rfl) ?_
        (with_reducible refine (copied_calls (HS4.out.u.below HB.out) b1 HS4.out.s1).mono ?_)
        rintro e Z2 ⟨A6, c6, v6, rfl, h_, hb⟩
        refine ⟨_, rfl, ?_⟩
        replace T := Aside0.mk (T.out.below hb)
        have U := Aside0.mk (h_.mono HB.out.size)
        clear h_
        replace HB := Aside0.mk (below_step HB.out hb)
        clear hb
        refine hK.out _ _ HB.out (fun hHeld => ?_)
        clear hK K
        refine norm_ (a' := ?_) ?_ ?_
        rotate_left
        · show Act.put _ (some 25) _ = _
          simp only [Act.put, List.setIfInBounds_toArray, List.set_cons_zero, List.set_cons_succ, i64_w, i32_w]
          rfl
        refine two_ (i := 9) (j := 11) (Ni := some 28) (Nj := some 8) #[true, true, true, true, true, true, true, true, true, true, false, false, false] #[true, true, true, true, true, true, true, true, true, false, false, true, false] rfl rfl rfl rfl (by kernel_rfl) (by decide) (by decide) (fun K hK => ?_) (fun K hK => ?_)
        · skip
          refine goes_ Try.func40 (by kernel_rfl) rfl #[.slice A2 n2 c2] (by rfl) rfl rfl (by (try simp only [List.map_toArray, List.map_cons, List.map_nil]); first | done | rfl) ?_
          (with_reducible refine (copied_calls (HS4.out.r.below HB.out) b2 HS4.out.s2).mono ?_)
          rintro e Z3 ⟨A7, c7, v7, rfl, h_, hb⟩
          refine ⟨_, rfl, ?_⟩
          have AP := Aside0.mk (U.out.apt h_ (Nat.le_refl _))
          replace T := Aside0.mk (T.out.below hb)
          replace U := Aside0.mk (U.out.below hb)
          have V := Aside0.mk (h_.mono HB.out.size)
          clear h_
          replace HB := Aside0.mk (below_step HB.out hb)
          clear hb
          refine hK.out _ _ HB.out (fun hHeld => ?_)
          clear hK K
          refine norm_ (a' := ?_) ?_ ?_
          rotate_left
          · show Act.put _ (some 28) _ = _
            simp only [Act.put, List.setIfInBounds_toArray, List.set_cons_zero, List.set_cons_succ, i64_w, i32_w]
            rfl
          refine pure_ (i := 10) (N := some 29) (v := ?_) (a' := ?_) #[true, true, true, true, true, true, true, true, true, true, true, false, false] rfl rfl (by kernel_rfl) (fun _ _ _ h => h) (Or.inl ⟨by rfl, ?_⟩) ?_ ?_
          rotate_left
          · intro w'
            go_simp
            with_reducible rfl
          rotate_left
          · simp only [Act.put, List.setIfInBounds_toArray, List.set_cons_zero, List.set_cons_succ, i64_w, i32_w]
            rfl
          refine one_ (i := 11) (N := some 8) #[true, true, true, true, true, true, true, true, true, true, true, true, false] rfl rfl (by kernel_rfl) (by decide) (fun K hK => ?_)
          refine event_step (w1 := ?_) (v := ?_) (by rfl) ?_ ?_
          rotate_left 2
          · go_simp
            constructor
            · rfl
            · rfl
          generalize hZ : World.alloc Z3 (Obj.cells #[Value.slice none 0 0, Value.slice none 0 0, Value.slice none 0 0] 26) = Z4
          have hb : Below Z3.heap.size Z3 Z4 := by rw [← hZ]; exact (Below.refl _ _).alloc (Nat.le_refl _) _
          have hc : C3 Z4 Z3.heap.size (.slice none 0 0) (.slice none 0 0) (.slice none 0 0) := by rw [← hZ]; exact World.alloc_heap_new _ _
          have G8 := Aside0.mk (HB.out.size)
          clear hZ
          replace T := Aside0.mk (T.out.below hb)
          replace U := Aside0.mk (U.out.below hb)
          replace V := Aside0.mk (V.out.below hb)
          have C8 := Aside0.mk hc
          clear hc
          replace HB := Aside0.mk (below_step HB.out hb)
          clear hb
          refine hK.out _ _ HB.out (fun hHeld => ?_)
          clear hK K
          refine norm_ (a' := ?_) ?_ ?_
          rotate_left
          · show Act.put _ (some 8) _ = _
            simp only [Act.put, List.setIfInBounds_toArray, List.set_cons_zero, List.set_cons_succ, i64_w, i32_w]
            rfl
          exact norm_ (by first | rfl | simp only [Go.Proofs.YtenjldfflkinkaaW.PrintLast.putAll, Act.put, List.setIfInBounds_toArray, List.set_cons_zero, List.set_cons_succ]) (hCont (.slice A5 n5 c5, .slice A6 n1 c6, .slice A7 n2 c7, Z3.heap.size) _ ⟨A5, n5, c5, A6, c6, v6, A7, c7, v7, rfl, rfl, rfl, ⟨HB.out, T.out, U.out, V.out, AP.out⟩, G8.out, C8.out⟩)
        · skip
          refine event_step (w1 := ?_) (v := ?_) (by rfl) ?_ ?_
          rotate_left 2
          · go_simp
            constructor
            · rfl
            · rfl
          generalize hZ : World.alloc Z2 (Obj.cells #[Value.slice none 0 0, Value.slice none 0 0, Value.slice none 0 0] 26) = Z5
          have hb : Below Z2.heap.size Z2 Z5 := by rw [← hZ]; exact (Below.refl _ _).alloc (Nat.le_refl _) _
          have hc : C3 Z5 Z2.heap.size (.slice none 0 0) (.slice none 0 0) (.slice none 0 0) := by rw [← hZ]; exact World.alloc_heap_new _ _
          have G8 := Aside0.mk (HB.out.size)
          clear hZ
          replace T := Aside0.mk (T.out.below hb)
          replace U := Aside0.mk (U.out.below hb)
          have C8 := Aside0.mk hc
          clear hc
          replace HB := Aside0.mk (below_step HB.out hb)
          clear hb
          refine hK.out _ _ HB.out (fun hHeld => ?_)
          clear hK K
          refine norm_ (a' := ?_) ?_ ?_
          rotate_left
          · show Act.put _ (some 8) _ = _
            simp only [Act.put, List.setIfInBounds_toArray, List.set_cons_zero, List.set_cons_succ, i64_w, i32_w]
            rfl
          refine one_ (i := 9) (N := some 28) #[true, true, true, true, true, true, true, true, true, true, false, true, false] rfl rfl (by kernel_rfl) (by decide) (fun K hK => ?_)
          refine goes_ Try.func40 (by kernel_rfl) rfl #[.slice A2 n2 c2] (by rfl) rfl rfl (by (try simp only [List.map_toArray, List.map_cons, List.map_nil]); first | done | rfl) ?_
          (with_reducible refine (copied_calls (HS4.out.r.below HB.out) b2 HS4.out.s2).mono ?_)
          rintro e Z6 ⟨A7, c7, v7, rfl, h_, hb⟩
          refine ⟨_, rfl, ?_⟩
          have AP := Aside0.mk (U.out.apt h_ (Nat.le_refl _))
          replace C8 := Aside0.mk (C8.out.below hb)
          replace T := Aside0.mk (T.out.below hb)
          replace U := Aside0.mk (U.out.below hb)
          have V := Aside0.mk (h_.mono HB.out.size)
          clear h_
          replace HB := Aside0.mk (below_step HB.out hb)
          clear hb
          refine hK.out _ _ HB.out (fun hHeld => ?_)
          clear hK K
          refine norm_ (a' := ?_) ?_ ?_
          rotate_left
          · show Act.put _ (some 28) _ = _
            simp only [Act.put, List.setIfInBounds_toArray, List.set_cons_zero, List.set_cons_succ, i64_w, i32_w]
            rfl
          refine pure_ (i := 10) (N := some 29) (v := ?_) (a' := ?_) #[true, true, true, true, true, true, true, true, true, true, true, true, false] rfl rfl (by kernel_rfl) (fun _ _ _ h => h) (Or.inl ⟨by rfl, ?_⟩) ?_ ?_
          rotate_left
          · intro w'
            go_simp
            with_reducible rfl
          rotate_left
          · simp only [Act.put, List.setIfInBounds_toArray, List.set_cons_zero, List.set_cons_succ, i64_w, i32_w]
            rfl
          exact norm_ (by first | rfl | simp only [Go.Proofs.YtenjldfflkinkaaW.PrintLast.putAll, Act.put, List.setIfInBounds_toArray, List.set_cons_zero, List.set_cons_succ]) (hCont (.slice A5 n5 c5, .slice A6 n1 c6, .slice A7 n2 c7, Z2.heap.size) _ ⟨A5, n5, c5, A6, c6, v6, A7, c7, v7, rfl, rfl, rfl, ⟨HB.out, T.out, U.out, V.out, AP.out⟩, G8.out, C8.out⟩)
      · skip
        refine event_step (w1 := ?_) (v := ?_) (by rfl) ?_ ?_
        rotate_left 2
        · go_simp
          constructor
          · rfl
          · rfl
        generalize hZ : World.alloc Z1 (Obj.cells #[Value.slice none 0 0, Value.slice none 0 0, Value.slice none 0 0] 26) = Z7
        have hb : Below Z1.heap.size Z1 Z7 := by rw [← hZ]; exact (Below.refl _ _).alloc (Nat.le_refl _) _
        have hc : C3 Z7 Z1.heap.size (.slice none 0 0) (.slice none 0 0) (.slice none 0 0) := by rw [← hZ]; exact World.alloc_heap_new _ _
        have G8 := Aside0.mk (HB.out.size)
        clear hZ
        replace T := Aside0.mk (T.out.below hb)
        have C8 := Aside0.mk hc
        clear hc
        replace HB := Aside0.mk (below_step HB.out hb)
        clear hb
        refine hK.out _ _ HB.out (fun hHeld => ?_)
        clear hK K
        refine norm_ (a' := ?_) ?_ ?_
        rotate_left
        · show Act.put _ (some 8) _ = _
          simp only [Act.put, List.setIfInBounds_toArray, List.set_cons_zero, List.set_cons_succ, i64_w, i32_w]
          rfl
        refine one_ (i := 6) (N := some 25) #[true, true, true, true, true, true, true, true, true, false, false, true, false] rfl rfl (by kernel_rfl) (by decide) (fun K hK => ?_)
        refine goes_ Try.func40 (by kernel_rfl) rfl #[.slice A1 n1 c1] (by rfl) rfl rfl (by (try simp only [List.map_toArray, List.map_cons, List.map_nil]); first | done | rfl) ?_
        (with_reducible refine (copied_calls (HS4.out.u.below HB.out) b1 HS4.out.s1).mono ?_)
        rintro e Z8 ⟨A6, c6, v6, rfl, h_, hb⟩
        refine ⟨_, rfl, ?_⟩
        replace C8 := Aside0.mk (C8.out.below hb)
        replace T := Aside0.mk (T.out.below hb)
        have U := Aside0.mk (h_.mono HB.out.size)
        clear h_
        replace HB := Aside0.mk (below_step HB.out hb)
        clear hb
        refine hK.out _ _ HB.out (fun hHeld => ?_)
        clear hK K
        refine norm_ (a' := ?_) ?_ ?_
        rotate_left
        · show Act.put _ (some 25) _ = _
          simp only [Act.put, List.setIfInBounds_toArray, List.set_cons_zero, List.set_cons_succ, i64_w, i32_w]
          rfl
        refine one_ (i := 9) (N := some 28) #[true, true, true, true, true, true, true, true, true, true, false, true, false] rfl rfl (by kernel_rfl) (by decide) (fun K hK => ?_)
        refine goes_ Try.func40 (by kernel_rfl) rfl #[.slice A2 n2 c2] (by rfl) rfl rfl (by (try simp only [List.map_toArray, List.map_cons, List.map_nil]); first | done | rfl) ?_
        (with_reducible refine (copied_calls (HS4.out.r.below HB.out) b2 HS4.out.s2).mono ?_)
        rintro e Z9 ⟨A7, c7, v7, rfl, h_, hb⟩
        refine ⟨_, rfl, ?_⟩
        have AP := Aside0.mk (U.out.apt h_ (Nat.le_refl _))
        replace C8 := Aside0.mk (C8.out.below hb)
        replace T := Aside0.mk (T.out.below hb)
        replace U := Aside0.mk (U.out.below hb)
        have V := Aside0.mk (h_.mono HB.out.size)
        clear h_
        replace HB := Aside0.mk (below_step HB.out hb)
        clear hb
        refine hK.out _ _ HB.out (fun hHeld => ?_)
        clear hK K
        refine norm_ (a' := ?_) ?_ ?_
        rotate_left
        · show Act.put _ (some 28) _ = _
          simp only [Act.put, List.setIfInBounds_toArray, List.set_cons_zero, List.set_cons_succ, i64_w, i32_w]
          rfl
        refine pure_ (i := 10) (N := some 29) (v := ?_) (a' := ?_) #[true, true, true, true, true, true, true, true, true, true, true, true, false] rfl rfl (by kernel_rfl) (fun _ _ _ h => h) (Or.inl ⟨by rfl, ?_⟩) ?_ ?_
        rotate_left
        · intro w'
          go_simp
          with_reducible rfl
        rotate_left
        · simp only [Act.put, List.setIfInBounds_toArray, List.set_cons_zero, List.set_cons_succ, i64_w, i32_w]
          rfl
        exact norm_ (by first | rfl | simp only [Go.Proofs.YtenjldfflkinkaaW.PrintLast.putAll, Act.put, List.setIfInBounds_toArray, List.set_cons_zero, List.set_cons_succ]) (hCont (.slice A5 n5 c5, .slice A6 n1 c6, .slice A7 n2 c7, Z1.heap.size) _ ⟨A5, n5, c5, A6, c6, v6, A7, c7, v7, rfl, rfl, rfl, ⟨HB.out, T.out, U.out, V.out, AP.out⟩, G8.out, C8.out⟩)
    · skip
      refine event_step (w1 := ?_) (v := ?_) (by rfl) ?_ ?_
      rotate_left 2
      · go_simp
        constructor
        · rfl
        · rfl
      generalize hZ : World.alloc D (Obj.cells #[Value.slice none 0 0, Value.slice none 0 0, Value.slice none 0 0] 26) = Z10
      have hb : Below D.heap.size D Z10 := by rw [← hZ]; exact (Below.refl _ _).alloc (Nat.le_refl _) _
      have hc : C3 Z10 D.heap.size (.slice none 0 0) (.slice none 0 0) (.slice none 0 0) := by rw [← hZ]; exact World.alloc_heap_new _ _
      have G8 := Aside0.mk (HB.out.size)
      clear hZ
      have C8 := Aside0.mk hc
      clear hc
      replace HB := Aside0.mk (below_step HB.out hb)
      clear hb
      refine hK.out _ _ HB.out (fun hHeld => ?_)
      clear hK K
      refine norm_ (a' := ?_) ?_ ?_
      rotate_left
      · show Act.put _ (some 8) _ = _
        simp only [Act.put, List.setIfInBounds_toArray, List.set_cons_zero, List.set_cons_succ, i64_w, i32_w]
        rfl
      refine one_ (i := 3) (N := some 22) #[true, true, true, true, true, true, false, true, true, false, false, true, false] rfl rfl (by kernel_rfl) (by decide) (fun K hK => ?_)
      refine goes_ Try.func39 (by kernel_rfl) rfl #[.slice A n c, .agg #[.int .i64 p3, .slice A3 n3 c3, .slice B3 m3 d3]] (by rfl) rfl rfl (by (try simp only [List.map_toArray, List.map_cons, List.map_nil]); first | done | rfl) ?_
      (with_reducible refine (done_calls (HS4.out.t.below HB.out) (V4.out.below HB.out) F1.out (show n ≤ 1000000 by omega) (by have := V4.out.k.hn; omega)).mono ?_)
      rintro e Z11 ⟨A5, n5, c5, rfl, h_, hb⟩
      refine ⟨_, rfl, ?_⟩
      replace C8 := Aside0.mk (C8.out.below hb)
      have T := Aside0.mk h_
      clear h_
      replace HB := Aside0.mk (below_step HB.out hb)
      clear hb
      refine hK.out _ _ HB.out (fun hHeld => ?_)
      clear hK K
      refine norm_ (a' := ?_) ?_ ?_
      rotate_left
      · show Act.put _ (some 22) _ = _
        simp only [Act.put, List.setIfInBounds_toArray, List.set_cons_zero, List.set_cons_succ, i64_w, i32_w]
        rfl
      refine one_ (i := 6) (N := some 25) #[true, true, true, true, true, true, true, true, true, false, false, true, false] rfl rfl (by kernel_rfl) (by decide) (fun K hK => ?_)
      refine goes_ Try.func40 (by kernel_rfl) rfl #[.slice A1 n1 c1] (by rfl) rfl rfl (by (try simp only [List.map_toArray, List.map_cons, List.map_nil]); first | done | rfl) ?_
      (with_reducible refine (copied_calls (HS4.out.u.below HB.out) b1 HS4.out.s1).mono ?_)
      rintro e Z12 ⟨A6, c6, v6, rfl, h_, hb⟩
      refine ⟨_, rfl, ?_⟩
      replace C8 := Aside0.mk (C8.out.below hb)
      replace T := Aside0.mk (T.out.below hb)
      have U := Aside0.mk (h_.mono HB.out.size)
      clear h_
      replace HB := Aside0.mk (below_step HB.out hb)
      clear hb
      refine hK.out _ _ HB.out (fun hHeld => ?_)
      clear hK K
      refine norm_ (a' := ?_) ?_ ?_
      rotate_left
      · show Act.put _ (some 25) _ = _
        simp only [Act.put, List.setIfInBounds_toArray, List.set_cons_zero, List.set_cons_succ, i64_w, i32_w]
        rfl
      refine one_ (i := 9) (N := some 28) #[true, true, true, true, true, true, true, true, true, true, false, true, false] rfl rfl (by kernel_rfl) (by decide) (fun K hK => ?_)
      refine goes_ Try.func40 (by kernel_rfl) rfl #[.slice A2 n2 c2] (by rfl) rfl rfl (by (try simp only [List.map_toArray, List.map_cons, List.map_nil]); first | done | rfl) ?_
      (with_reducible refine (copied_calls (HS4.out.r.below HB.out) b2 HS4.out.s2).mono ?_)
      rintro e Z13 ⟨A7, c7, v7, rfl, h_, hb⟩
      refine ⟨_, rfl, ?_⟩
      have AP := Aside0.mk (U.out.apt h_ (Nat.le_refl _))
      replace C8 := Aside0.mk (C8.out.below hb)
      replace T := Aside0.mk (T.out.below hb)
      replace U := Aside0.mk (U.out.below hb)
      have V := Aside0.mk (h_.mono HB.out.size)
      clear h_
      replace HB := Aside0.mk (below_step HB.out hb)
      clear hb
      refine hK.out _ _ HB.out (fun hHeld => ?_)
      clear hK K
      refine norm_ (a' := ?_) ?_ ?_
      rotate_left
      · show Act.put _ (some 28) _ = _
        simp only [Act.put, List.setIfInBounds_toArray, List.set_cons_zero, List.set_cons_succ, i64_w, i32_w]
        rfl
      refine pure_ (i := 10) (N := some 29) (v := ?_) (a' := ?_) #[true, true, true, true, true, true, true, true, true, true, true, true, false] rfl rfl (by kernel_rfl) (fun _ _ _ h => h) (Or.inl ⟨by rfl, ?_⟩) ?_ ?_
      rotate_left
      · intro w'
        go_simp
        with_reducible rfl
      rotate_left
      · simp only [Act.put, List.setIfInBounds_toArray, List.set_cons_zero, List.set_cons_succ, i64_w, i32_w]
        rfl
      exact norm_ (by first | rfl | simp only [Go.Proofs.YtenjldfflkinkaaW.PrintLast.putAll, Act.put, List.setIfInBounds_toArray, List.set_cons_zero, List.set_cons_succ]) (hCont (.slice A5 n5 c5, .slice A6 n1 c6, .slice A7 n2 c7, D.heap.size) _ ⟨A5, n5, c5, A6, c6, v6, A7, c7, v7, rfl, rfl, rfl, ⟨HB.out, T.out, U.out, V.out, AP.out⟩, G8.out, C8.out⟩)
  rintro ⟨e5, e6, e7, q8⟩ W5 ⟨A5, n5, c5, A6, c6, v6, A7, c7, v7, h5, h6, h7, hAT, hg8, hc8⟩
  dsimp only at h5 h6 h7 hg8 hc8
  subst h5 h6 h7
  have C8 := Aside0.mk hc8
  have AT := Aside0.mk hAT
  have G8 := Aside0.mk hg8
  clear hc8 hAT hg8 HB
  refine norm_ (a' := ?_) ?_ ?_
  rotate_left
  · simp only [Go.Proofs.YtenjldfflkinkaaW.PrintLast.putAll, Act.put, List.setIfInBounds_toArray, List.set_cons_zero, List.set_cons_succ]
    rfl
  refine one_ (i := 12) (N := none) #[true, true, true, true, true, true, true, true, true, true, true, true, true] rfl rfl (by kernel_rfl) (by decide) (fun K hK => ?_)
  have p0 := blk_cell (j := 0) C8.out
  have p1 := blk_cell (j := 1) C8.out
  have p2 := blk_cell (j := 2) C8.out
  have f0 := blk_frozen (j := 0) C8.out
  have f1 := blk_frozen (j := 1) C8.out
  have f2 := blk_frozen (j := 2) C8.out
  refine skip_ (w1 := ?_) (by rfl) rfl ?_ ?_
  rotate_left
  · go_simp
    rfl
  have C9 := Aside0.mk (((C8.out.set0 (.slice A5 n5 c5)).set1 (.slice A6 n1 c6)).set2 (.slice A7 n2 c7))
  have PT := Aside0.mk (Put1.three W5 q8 (.slice A5 n5 c5) (.slice A6 n1 c6) (.slice A7 n2 c7))
  have AT9 := Aside0.mk (show At4 D4 (((W5.setCell ⟨q8, 0, none⟩ (.slice A5 n5 c5)).setCell ⟨q8, 1, none⟩ (.slice A6 n1 c6)).setCell ⟨q8, 2, none⟩ (.slice A7 n2 c7)) (doneT s.text x) n1 n2 s.x1 s.x2 A5 n5 c5 A6 c6 v6 A7 c7 v7 from ⟨below_set3 G8.out AT.out.b, AT.out.t.only C8.out.noI PT.out.2, AT.out.u.put PT.out C8.out.noI (C8.out.rows AT.out.u.row), AT.out.r.put PT.out C8.out.noI (C8.out.rows AT.out.r.row), AT.out.ap⟩)
  clear PT C8 AT p0 p1 p2 f0 f1 f2
  generalize ((W5.setCell ⟨q8, 0, none⟩ (.slice A5 n5 c5)).setCell ⟨q8, 1, none⟩ (.slice A6 n1 c6)).setCell ⟨q8, 2, none⟩ (.slice A7 n2 c7) = W9 at C9 AT9 ⊢
  refine hK.out _ _ AT9.out.b (fun hHeld => ?_)
  clear hK K
  refine done_ (by kernel_rfl) ?_
  have AQ := Aside0.mk (show Ap D4 W9 q8 r (doneT s.text x) A5 n5 c5 A6 n1 c6 v6 s.x1 A7 n2 c7 v7 s.x2 from ⟨AT9.out.b, AT9.out.t, AT9.out.u, AT9.out.r, AT9.out.ap, C9.out, (CF.out W9 AT9.out.b).2.2.1, G8.out, GR.out⟩)
  have SO := Aside0.mk (CF.out W9 AT9.out.b).2.1
  have CH := Aside0.mk (fun W1 (hb : Below W9.heap.size W9 W1) => (show C3 W1 q8 (.slice A5 n5 c5) (.slice A6 n1 c6) (.slice A7 n2 c7) ∧ (W1.cell? ⟨q6, 0, none⟩ = some (.int .i64 p3) ∧ W1.cell? ⟨q6, 1, none⟩ = some (.slice A3 n3 c3) ∧ W1.cell? ⟨q6, 2, none⟩ = some (.slice B3 m3 d3)) from ⟨AQ.out.cq.below hb, (CF.out W1 (below_step AQ.out.b hb)).2.2.2⟩))
  have V9 := Aside0.mk (V4.out.below AQ.out.b)
  have hn5 : n5 ≤ 4096 := by have h1 := AQ.out.t.hn; have h2 := F2.out; omega
  have HC6 := Aside0.mk AQ.out.u.rc.hc
  have HC7 := Aside0.mk AQ.out.rr.rc.hc
  have HGC := Aside0.mk (show n3 ≤ 5000 ∧ m3 ≤ 5000 by have h1 := V9.out.g.hn; have h2 := V9.out.k.hn; omega)
  clear C9 AT9 G8 GR HS4 V4 BD4 hHeld HS HBD
  rcases HKK.out with rfl | rfl | rfl | rfl
  · skip
    have so := SO.out
    obtain ⟨hcq, l0, l1, l2⟩ := CH.out W9 (Below.refl _ _)
    have s0 := blk_cell (j := 0) hcq
    have s1 := blk_cell (j := 1) hcq
    have s2 := blk_cell (j := 2) hcq
    clear hcq
    go_upto_region 7 with (first
      | ((with_reducible refine gate_dst (N := 36) rfl ?_); at_builtin; refine rg_append (W := W9) rfl (.tmp 33) (.tmp 35) rfl rfl rfl AQ.out.u.row (by omega) ⟨p3, A3, n3, c3, B3, m3, d3⟩ ?_; intro A9 c9 W12 hR hA hBt; have PP := Aside0.mk (AQ.out.push1 ⟨p3, A3, n3, c3, B3, m3, d3⟩ V9.out HGC.out hR hA hBt); have hcq2 := PP.out.2.2.2.2.1; have p0 := blk_cell (j := 0) hcq2; have p1 := blk_cell (j := 1) hcq2; have p2 := (cell_off (W := W12) (b := q8) (o := 1) (v := .slice A9 (n1 + 1) c9) (by decide)).trans (blk_cell (j := 2) hcq2); have f0 := blk_frozen (j := 0) hcq2; have f1 := blk_frozen (j := 1) hcq2; have f2 := blk_frozen (j := 2) (hcq2.set1 (.slice A9 (n1 + 1) c9)); clear hR hA hBt hcq2))
    have EN := Aside0.mk (en_of (m1 := n1 + 1) (m2 := 0) BW4.out AQ.out.gq AQ.out.gr PP.out.1 PP.out.2.1 PP.out.2.2.1 (Ro.empty W12 D4.heap.size v7 s.x2 : Ro W12 D4.heap.size none 0 0 v7 s.x2) PP.out.2.2.2.2.1 PP.out.2.2.2.2.2 (Nat.le_refl _) (Nat.le_refl _) (by omega) (by omega) (by omega))
    have NQ := Aside0.mk (C3.rows PP.out.2.2.2.2.1 PP.out.2.2.1.row)
    have HSL := Aside0.mk (fun W => (show (Instr.slice 24 (.slice A9 (n1 + 1) c9) (some (.int .i64 1)) none none).run Try.prog W = .ok (.slice (if c9 = 1 then A9 else A9.map (·.add (1 * 3))) n1 (c9 - 1)) W from by have h1 := run_cdrop1 (A := A9) (n := n1 + 1) (c := c9) (by omega) W; rw [Nat.add_sub_cancel] at h1; exact h1))
    have DRP := Aside0.mk (EN.out.drop (by have h1 := AQ.out.gq; have h2 := BW4.out.size; omega) (by have h1 := AQ.out.gq; have h2 := AQ.out.gr; omega) NQ.out (fun ad e => by cases e))
    clear so l0 l1 l2 s0 s1 s2 p0 p1 p2 f0 f1 f2 PP AQ CH V9 CF SO NQ
    generalize ((W12.setCell ⟨q8, 1, none⟩ (.slice A9 (n1 + 1) c9)).setCell ⟨q8, 2, none⟩ (.slice none 0 0)) = WE at EN DRP ⊢
    generalize (if c9 = 1 then A9 else A9.map (·.add (1 * 3))) = A10 at HSL DRP
    generalize c9 - 1 = c10 at HSL DRP
    obtain ⟨N1, hN1⟩ : ∃ N1, n1 + 1 = N1 := ⟨_, rfl⟩
    rw [hN1] at EN HSL ⊢
    have s1 := blk_cell (j := 1) EN.out.cq
    have HN1 := Aside0.mk hN1
    by_cases h16 : 16 < N1
    · have h16' : (16 : Int) < (N1 : Int) := by omega
      have hsl := HSL.out WE
      have hfz := blk_frozen (j := 1) EN.out.cq
      have HN2 := Aside0.mk (show n1 ≤ 17 by omega)
      clear hN1 EN
      go_upto_region 13 with (fail)
      clear s1 hsl hfz h16 h16' HSL
      generalize WE.setCell ⟨q8, 1, none⟩ (.slice A10 n1 c10) = WE2 at DRP ⊢
      have EN := DRP
      clear DRP
      go_upto_region 13 with (fail)
      obtain ⟨vu, vr, xu, xr, hst⟩ := EN.out.ok
      have p0 := blk_cell (j := 0) EN.out.cq
      have p1 := blk_cell (j := 1) EN.out.cq
      have p2 := blk_cell (j := 2) EN.out.cq
      have y0 := blk_cell (j := 0) EN.out.cr
      have y1 := blk_cell (j := 1) EN.out.cr
      have y2 := blk_cell (j := 2) EN.out.cr
      have f0 := blk_frozen (j := 0) EN.out.cr
      have f1 := blk_frozen (j := 1) EN.out.cr
      have f2 := blk_frozen (j := 2) EN.out.cr
      have HST := Aside0.mk hst
      clear hst
      go_wp2
      obtain ⟨c0, c1, c2⟩ := set3_get (a := Value.slice A5 n5 c5) (b := Value.slice A10 n1 c10) (c := Value.slice none 0 0) y0 y1 y2
      have hb5 := below_set3 (a := Value.slice A5 n5 c5) (b := Value.slice A10 n1 c10) (c := Value.slice none 0 0) hler EN.out.b
      have hok5 := HST.out.put (Put1.three _ r (Value.slice A5 n5 c5) (Value.slice A10 n1 c10) (Value.slice none 0 0)) EN.out.cr.noI EN.out.e1 EN.out.e2
      generalize ((World.setCell _ ⟨r, 0, none⟩ (Value.slice A5 n5 c5)).setCell ⟨r, 1, none⟩ (Value.slice A10 n1 c10)).setCell ⟨r, 2, none⟩ (Value.slice none 0 0) = W99 at c0 c1 c2 hb5 hok5 ⊢
      refine bodyPost_ret (v := .tuple #[.agg #[.slice A5 n5 c5, .slice A10 n1 c10, .slice none 0 0], .int .i64 0]) (by simp [results, Try.results12, go_sem, c0, c1, c2]) rfl ?_
      exact ⟨A5, n5, c5, _, _, _, _, _, _, rfl, hb5, fun _ => ⟨vu, vr, xu, xr, hok5, by omega, by omega, hn5⟩⟩
    · have h16' : ¬ (16 : Int) < (N1 : Int) := by omega
      clear hN1 DRP HSL
      go_upto_region 13 with (fail)
      clear s1
      go_upto_region 13 with (fail)
      obtain ⟨vu, vr, xu, xr, hst⟩ := EN.out.ok
      have p0 := blk_cell (j := 0) EN.out.cq
      have p1 := blk_cell (j := 1) EN.out.cq
      have p2 := blk_cell (j := 2) EN.out.cq
      have y0 := blk_cell (j := 0) EN.out.cr
      have y1 := blk_cell (j := 1) EN.out.cr
      have y2 := blk_cell (j := 2) EN.out.cr
      have f0 := blk_frozen (j := 0) EN.out.cr
      have f1 := blk_frozen (j := 1) EN.out.cr
      have f2 := blk_frozen (j := 2) EN.out.cr
      have HST := Aside0.mk hst
      clear hst
      go_wp2
      obtain ⟨c0, c1, c2⟩ := set3_get (a := Value.slice A5 n5 c5) (b := Value.slice A9 N1 c9) (c := Value.slice none 0 0) y0 y1 y2
      have hb5 := below_set3 (a := Value.slice A5 n5 c5) (b := Value.slice A9 N1 c9) (c := Value.slice none 0 0) hler EN.out.b
      have hok5 := HST.out.put (Put1.three _ r (Value.slice A5 n5 c5) (Value.slice A9 N1 c9) (Value.slice none 0 0)) EN.out.cr.noI EN.out.e1 EN.out.e2
      generalize ((World.setCell _ ⟨r, 0, none⟩ (Value.slice A5 n5 c5)).setCell ⟨r, 1, none⟩ (Value.slice A9 N1 c9)).setCell ⟨r, 2, none⟩ (Value.slice none 0 0) = W99 at c0 c1 c2 hb5 hok5 ⊢
      refine bodyPost_ret (v := .tuple #[.agg #[.slice A5 n5 c5, .slice A9 N1 c9, .slice none 0 0], .int .i64 0]) (by simp [results, Try.results12, go_sem, c0, c1, c2]) rfl ?_
      exact ⟨A5, n5, c5, _, _, _, _, _, _, rfl, hb5, fun _ => ⟨vu, vr, xu, xr, hok5, by omega, by omega, hn5⟩⟩
  · skip
    have so := SO.out
    obtain ⟨hcq, l0, l1, l2⟩ := CH.out W9 (Below.refl _ _)
    have s0 := blk_cell (j := 0) hcq
    have s1 := blk_cell (j := 1) hcq
    have s2 := blk_cell (j := 2) hcq
    clear hcq
    go_upto_region 7 with (first
      | ((with_reducible refine gate_dst (N := 36) rfl ?_); at_builtin; refine rg_append (W := W9) rfl (.tmp 33) (.tmp 35) rfl rfl rfl AQ.out.u.row (by omega) ⟨p3, A3, n3, c3, B3, m3, d3⟩ ?_; intro A9 c9 W12 hR hA hBt; have PP := Aside0.mk (AQ.out.push1 ⟨p3, A3, n3, c3, B3, m3, d3⟩ V9.out HGC.out hR hA hBt); have hcq2 := PP.out.2.2.2.2.1; have p0 := blk_cell (j := 0) hcq2; have p1 := blk_cell (j := 1) hcq2; have p2 := (cell_off (W := W12) (b := q8) (o := 1) (v := .slice A9 (n1 + 1) c9) (by decide)).trans (blk_cell (j := 2) hcq2); have f0 := blk_frozen (j := 0) hcq2; have f1 := blk_frozen (j := 1) hcq2; have f2 := blk_frozen (j := 2) (hcq2.set1 (.slice A9 (n1 + 1) c9)); clear hR hA hBt hcq2))
    have EN := Aside0.mk (en_of (m1 := n1 + 1) (m2 := 0) BW4.out AQ.out.gq AQ.out.gr PP.out.1 PP.out.2.1 PP.out.2.2.1 (Ro.empty W12 D4.heap.size v7 s.x2 : Ro W12 D4.heap.size none 0 0 v7 s.x2) PP.out.2.2.2.2.1 PP.out.2.2.2.2.2 (Nat.le_refl _) (Nat.le_refl _) (by omega) (by omega) (by omega))
    have NQ := Aside0.mk (C3.rows PP.out.2.2.2.2.1 PP.out.2.2.1.row)
    have HSL := Aside0.mk (fun W => (show (Instr.slice 24 (.slice A9 (n1 + 1) c9) (some (.int .i64 1)) none none).run Try.prog W = .ok (.slice (if c9 = 1 then A9 else A9.map (·.add (1 * 3))) n1 (c9 - 1)) W from by have h1 := run_cdrop1 (A := A9) (n := n1 + 1) (c := c9) (by omega) W; rw [Nat.add_sub_cancel] at h1; exact h1))
    have DRP := Aside0.mk (EN.out.drop (by have h1 := AQ.out.gq; have h2 := BW4.out.size; omega) (by have h1 := AQ.out.gq; have h2 := AQ.out.gr; omega) NQ.out (fun ad e => by cases e))
    clear so l0 l1 l2 s0 s1 s2 p0 p1 p2 f0 f1 f2 PP AQ CH V9 CF SO NQ
    generalize ((W12.setCell ⟨q8, 1, none⟩ (.slice A9 (n1 + 1) c9)).setCell ⟨q8, 2, none⟩ (.slice none 0 0)) = WE at EN DRP ⊢
    generalize (if c9 = 1 then A9 else A9.map (·.add (1 * 3))) = A10 at HSL DRP
    generalize c9 - 1 = c10 at HSL DRP
    obtain ⟨N1, hN1⟩ : ∃ N1, n1 + 1 = N1 := ⟨_, rfl⟩
    rw [hN1] at EN HSL ⊢
    have s1 := blk_cell (j := 1) EN.out.cq
    have HN1 := Aside0.mk hN1
    by_cases h16 : 16 < N1
    · have h16' : (16 : Int) < (N1 : Int) := by omega
      have hsl := HSL.out WE
      have hfz := blk_frozen (j := 1) EN.out.cq
      have HN2 := Aside0.mk (show n1 ≤ 17 by omega)
      clear hN1 EN
      go_upto_region 13 with (fail)
      clear s1 hsl hfz h16 h16' HSL
      generalize WE.setCell ⟨q8, 1, none⟩ (.slice A10 n1 c10) = WE2 at DRP ⊢
      have EN := DRP
      clear DRP
      go_upto_region 13 with (fail)
      obtain ⟨vu, vr, xu, xr, hst⟩ := EN.out.ok
      have p0 := blk_cell (j := 0) EN.out.cq
      have p1 := blk_cell (j := 1) EN.out.cq
      have p2 := blk_cell (j := 2) EN.out.cq
      have y0 := blk_cell (j := 0) EN.out.cr
      have y1 := blk_cell (j := 1) EN.out.cr
      have y2 := blk_cell (j := 2) EN.out.cr
      have f0 := blk_frozen (j := 0) EN.out.cr
      have f1 := blk_frozen (j := 1) EN.out.cr
      have f2 := blk_frozen (j := 2) EN.out.cr
      have HST := Aside0.mk hst
      clear hst
      go_wp2
      obtain ⟨c0, c1, c2⟩ := set3_get (a := Value.slice A5 n5 c5) (b := Value.slice A10 n1 c10) (c := Value.slice none 0 0) y0 y1 y2
      have hb5 := below_set3 (a := Value.slice A5 n5 c5) (b := Value.slice A10 n1 c10) (c := Value.slice none 0 0) hler EN.out.b
      have hok5 := HST.out.put (Put1.three _ r (Value.slice A5 n5 c5) (Value.slice A10 n1 c10) (Value.slice none 0 0)) EN.out.cr.noI EN.out.e1 EN.out.e2
      generalize ((World.setCell _ ⟨r, 0, none⟩ (Value.slice A5 n5 c5)).setCell ⟨r, 1, none⟩ (Value.slice A10 n1 c10)).setCell ⟨r, 2, none⟩ (Value.slice none 0 0) = W99 at c0 c1 c2 hb5 hok5 ⊢
      refine bodyPost_ret (v := .tuple #[.agg #[.slice A5 n5 c5, .slice A10 n1 c10, .slice none 0 0], .int .i64 0]) (by simp [results, Try.results12, go_sem, c0, c1, c2]) rfl ?_
      exact ⟨A5, n5, c5, _, _, _, _, _, _, rfl, hb5, fun _ => ⟨vu, vr, xu, xr, hok5, by omega, by omega, hn5⟩⟩
    · have h16' : ¬ (16 : Int) < (N1 : Int) := by omega
      clear hN1 DRP HSL
      go_upto_region 13 with (fail)
      clear s1
      go_upto_region 13 with (fail)
      obtain ⟨vu, vr, xu, xr, hst⟩ := EN.out.ok
      have p0 := blk_cell (j := 0) EN.out.cq
      have p1 := blk_cell (j := 1) EN.out.cq
      have p2 := blk_cell (j := 2) EN.out.cq
      have y0 := blk_cell (j := 0) EN.out.cr
      have y1 := blk_cell (j := 1) EN.out.cr
      have y2 := blk_cell (j := 2) EN.out.cr
      have f0 := blk_frozen (j := 0) EN.out.cr
      have f1 := blk_frozen (j := 1) EN.out.cr
      have f2 := blk_frozen (j := 2) EN.out.cr
      have HST := Aside0.mk hst
      clear hst
      go_wp2
      obtain ⟨c0, c1, c2⟩ := set3_get (a := Value.slice A5 n5 c5) (b := Value.slice A9 N1 c9) (c := Value.slice none 0 0) y0 y1 y2
      have hb5 := below_set3 (a := Value.slice A5 n5 c5) (b := Value.slice A9 N1 c9) (c := Value.slice none 0 0) hler EN.out.b
      have hok5 := HST.out.put (Put1.three _ r (Value.slice A5 n5 c5) (Value.slice A9 N1 c9) (Value.slice none 0 0)) EN.out.cr.noI EN.out.e1 EN.out.e2
      generalize ((World.setCell _ ⟨r, 0, none⟩ (Value.slice A5 n5 c5)).setCell ⟨r, 1, none⟩ (Value.slice A9 N1 c9)).setCell ⟨r, 2, none⟩ (Value.slice none 0 0) = W99 at c0 c1 c2 hb5 hok5 ⊢
      refine bodyPost_ret (v := .tuple #[.agg #[.slice A5 n5 c5, .slice A9 N1 c9, .slice none 0 0], .int .i64 0]) (by simp [results, Try.results12, go_sem, c0, c1, c2]) rfl ?_
      exact ⟨A5, n5, c5, _, _, _, _, _, _, rfl, hb5, fun _ => ⟨vu, vr, xu, xr, hok5, by omega, by omega, hn5⟩⟩
  · skip
    have hpos : 0 < n1 := F89.out.1 rfl
    obtain ⟨m1, hm1⟩ : ∃ m, n1 = m + 1 := ⟨n1 - 1, by omega⟩
    have so := SO.out
    go_upto_region 10 with (fail)
    clear so
    have HM1 := Aside0.mk hm1
    have HSUB := Aside0.mk (show IntKind.i64.wrap ((n1 : Int) - 1) = (m1 : Int) by rw [i64_w]; unfold wrap64; omega)
    clear hm1 hpos
    have HB := Aside0.mk (below_drew1 (Below.refl W9.heap.size W9))
    refine start_ (n := 17) (S := fun w' => C3 w' q8 (.slice A5 n5 c5) (.slice A6 n1 c6) (.slice A7 n2 c7) ∧ (w'.cell? ⟨q6, 0, none⟩ = some (.int .i64 p3) ∧ w'.cell? ⟨q6, 1, none⟩ = some (.slice A3 n3 c3) ∧ w'.cell? ⟨q6, 2, none⟩ = some (.slice B3 m3 d3))) (ds := [14, 16]) #[false, false, false, false, false, false, false, false, false, false, false, false, false, false, false, false, false] (by kernel_rfl) rfl rfl (CH.out _ HB.out) (fun hHeld => ?_)
    generalize W9.drew = D at HB hHeld ⊢
    refine pure_ (i := 0) (N := some 49) (v := ?_) (a' := ?_) #[true, false, false, false, false, false, false, false, false, false, false, false, false, false, false, false, false] rfl rfl (by kernel_rfl) (fun _ _ _ h => h) (Or.inl ⟨by rfl, ?_⟩) ?_ ?_
    rotate_left
    · intro w'
      go_simp
      with_reducible rfl
    rotate_left
    · simp only [Act.put, List.setIfInBounds_toArray, List.set_cons_zero, List.set_cons_succ, i64_w, i32_w]
      rfl
    refine pure_ (i := 2) (N := some 51) (v := ?_) (a' := ?_) #[true, false, true, false, false, false, false, false, false, false, false, false, false, false, false, false, false] rfl rfl (by kernel_rfl) (fun _ _ _ h => h) (Or.inl ⟨by rfl, ?_⟩) ?_ ?_
    rotate_left
    · intro w'
      go_simp
      with_reducible rfl
    rotate_left
    · simp only [Act.put, List.setIfInBounds_toArray, List.set_cons_zero, List.set_cons_succ, i64_w, i32_w]
      rfl
    refine pure_ (i := 7) (N := some 56) (v := ?_) (a' := ?_) #[true, false, true, false, false, false, false, true, false, false, false, false, false, false, false, false, false] rfl rfl (by kernel_rfl) (fun _ _ _ h => h) (Or.inl ⟨by rfl, ?_⟩) ?_ ?_
    rotate_left
    · intro w'
      go_simp
      with_reducible rfl
    rotate_left
    · simp only [Act.put, List.setIfInBounds_toArray, List.set_cons_zero, List.set_cons_succ, i64_w, i32_w]
      rfl
    refine take_ (i := 1) (N := some 50) (v := ?_) (a' := ?_) #[true, true, true, false, false, false, false, true, false, false, false, false, false, false, false, false, false] rfl rfl (by kernel_rfl) (fun _ _ _ h => h) (Or.inl ⟨by rfl, ?_⟩) hHeld ?_ ?_
    rotate_left
    · rintro w' ⟨hcq, l0, l1, l2⟩
      have s0 := blk_cell (j := 0) hcq
      have s1 := blk_cell (j := 1) hcq
      have s2 := blk_cell (j := 2) hcq
      go_simp
      with_reducible rfl
    rotate_left
    · simp only [Act.put, List.setIfInBounds_toArray, List.set_cons_zero, List.set_cons_succ, i64_w, i32_w]
      rfl
    refine take_ (i := 3) (N := some 52) (v := ?_) (a' := ?_) #[true, true, true, true, false, false, false, true, false, false, false, false, false, false, false, false, false] rfl rfl (by kernel_rfl) (fun _ _ _ h => h) (Or.inl ⟨by rfl, ?_⟩) hHeld ?_ ?_
    rotate_left
    · rintro w' ⟨hcq, l0, l1, l2⟩
      have s0 := blk_cell (j := 0) hcq
      have s1 := blk_cell (j := 1) hcq
      have s2 := blk_cell (j := 2) hcq
      go_simp
      with_reducible rfl
    rotate_left
    · simp only [Act.put, List.setIfInBounds_toArray, List.set_cons_zero, List.set_cons_succ, i64_w, i32_w]
      rfl
    refine take_ (i := 8) (N := some 57) (v := ?_) (a' := ?_) #[true, true, true, true, false, false, false, true, true, false, false, false, false, false, false, false, false] rfl rfl (by kernel_rfl) (fun _ _ _ h => h) (Or.inl ⟨by rfl, ?_⟩) hHeld ?_ ?_
    rotate_left
    · rintro w' ⟨hcq, l0, l1, l2⟩
      have s0 := blk_cell (j := 0) hcq
      have s1 := blk_cell (j := 1) hcq
      have s2 := blk_cell (j := 2) hcq
      go_simp
      with_reducible rfl
    rotate_left
    · simp only [Act.put, List.setIfInBounds_toArray, List.set_cons_zero, List.set_cons_succ, i64_w, i32_w]
      rfl
    refine take_ (i := 9) (N := some 58) (v := ?_) (a' := ?_) #[true, true, true, true, false, false, false, true, true, true, false, false, false, false, false, false, false] rfl rfl (by kernel_rfl) (fun _ _ _ h => h) (Or.inl ⟨by rfl, ?_⟩) hHeld ?_ ?_
    rotate_left
    · rintro w' ⟨hcq, l0, l1, l2⟩
      have s0 := blk_cell (j := 0) hcq
      have s1 := blk_cell (j := 1) hcq
      have s2 := blk_cell (j := 2) hcq
      go_simp
      with_reducible rfl
    rotate_left
    · simp only [Act.put, List.setIfInBounds_toArray, List.set_cons_zero, List.set_cons_succ, i64_w, i32_w]
      rfl
    refine pure_ (i := 4) (N := some 53) (v := ?_) (a' := ?_) #[true, true, true, true, true, false, false, true, true, true, false, false, false, false, false, false, false] rfl rfl (by kernel_rfl) (fun _ _ _ h => h) (Or.inl ⟨by rfl, ?_⟩) ?_ ?_
    rotate_left
    · intro w'
      go_simp
      with_reducible rfl
    rotate_left
    · simp only [Act.put, List.setIfInBounds_toArray, List.set_cons_zero, List.set_cons_succ, i64_w, i32_w]
      rfl
    refine pure_ (i := 5) (N := some 54) (v := ?_) (a' := ?_) #[true, true, true, true, true, true, false, true, true, true, false, false, false, false, false, false, false] rfl rfl (by kernel_rfl) (fun _ _ _ h => h) (Or.inl ⟨by rfl, ?_⟩) ?_ ?_
    rotate_left
    · intro w'
      go_simp
      rw [HSUB.out]
    rotate_left
    · simp only [Act.put, List.setIfInBounds_toArray, List.set_cons_zero, List.set_cons_succ, i64_w, i32_w]
      rfl
    refine pure_ (i := 6) (N := some 55) (v := .slice A6 m1 c6) (a' := ?_) #[true, true, true, true, true, true, true, true, true, true, false, false, false, false, false, false, false] rfl rfl (by kernel_rfl) (fun _ _ _ h => h) (Or.inl ⟨by rfl, ?_⟩) ?_ ?_
    · intro w'
      have hsl := run_ctake (A := A6) (show m1 ≤ n1 by have := HM1.out; omega) HC6.out w'
      go_simp
    rotate_left
    · simp only [Act.put, List.setIfInBounds_toArray, List.set_cons_zero, List.set_cons_succ, i64_w, i32_w]
      rfl
    refine pure_ (i := 13) (N := some 62) (v := ?_) (a' := ?_) #[true, true, true, true, true, true, true, true, true, true, false, false, false, true, false, false, false] rfl rfl (by kernel_rfl) (fun _ _ _ h => h) (Or.inl ⟨by rfl, ?_⟩) ?_ ?_
    rotate_left
    · intro w'
      go_simp
      with_reducible rfl
    rotate_left
    · simp only [Act.put, List.setIfInBounds_toArray, List.set_cons_zero, List.set_cons_succ, i64_w, i32_w]
      rfl
    refine one_ (i := 10) (N := some 59) #[true, true, true, true, true, true, true, true, true, true, true, false, false, true, false, false, false] rfl rfl (by kernel_rfl) (by decide) (fun K hK => ?_)
    refine goes_ Try.func38 (by kernel_rfl) rfl #[.agg #[.int .i64 p3, .slice A3 n3 c3, .slice B3 m3 d3]] (by rfl) rfl rfl (by (try simp only [List.map_toArray, List.map_cons, List.map_nil]); first | done | rfl) ?_
    (with_reducible refine (Inverse_calls (V9.out.below HB.out) (by have := HGC.out; omega) (by have := HGC.out; omega)).mono ?_)
    rintro e Z8 ⟨p8, E8, i8, j8, F8, k8, l8, rfl, h_, hb⟩
    refine ⟨_, rfl, ?_⟩
    have BZ8 := Aside0.mk (below_step HB.out hb)
    have V8 := Aside0.mk h_
    clear h_ hb
    have HSZ := Aside0.mk (show i8 ≤ 5000 ∧ k8 ≤ 5000 by have h1 := V8.out.g.hn; have h2 := V8.out.k.hn; simp only [Ch.inv] at h1 h2; omega)
    have AQ8 := Aside0.mk (AQ.out.below BZ8.out)
    have GQ6 := Aside0.mk (show q6 < D4.heap.size by exact HQ6.out)
    refine hK.out _ _ (CH.out _ BZ8.out) (fun hHeld => ?_)
    clear hK K
    refine norm_ (a' := ?_) ?_ ?_
    rotate_left
    · show Act.put _ (some 59) _ = _
      simp only [Act.put, List.setIfInBounds_toArray, List.set_cons_zero, List.set_cons_succ, i64_w, i32_w]
      rfl
    refine one_ (i := 11) (N := some 60) #[true, true, true, true, true, true, true, true, true, true, true, true, false, true, false, false, false] rfl rfl (by kernel_rfl) (by decide) (fun K hK => ?_)
    refine event_step (w1 := Z8.alloc (.cells #[.int .i64 p8, .slice E8 i8 j8, .slice F8 k8 l8] 32)) (v := .slice (some ⟨Z8.heap.size, 0, none⟩) 1 1) (by rfl) ?_ ?_
    · go_simp
      try rfl
    refine hK.out _ _ (CH.out _ (BZ8.out.alloc BZ8.out.size _)) (fun hHeld => ?_)
    clear hK K
    refine norm_ (a' := ?_) ?_ ?_
    rotate_left
    · show Act.put _ (some 60) _ = _
      simp only [Act.put, List.setIfInBounds_toArray, List.set_cons_zero, List.set_cons_succ, i64_w, i32_w]
      rfl
    refine one_ (i := 12) (N := some 61) #[true, true, true, true, true, true, true, true, true, true, true, true, true, true, false, false, false] rfl rfl (by kernel_rfl) (by decide) (fun K hK => ?_)
    refine rg_append_step (W := Z8) (by rfl) (.tmp 57) (.tmp 60) rfl rfl rfl (AQ8.out.rr.row) (by omega) ⟨p8, E8, i8, j8, F8, k8, l8⟩ ?_
    intro A9 c9 W12 hR hA hBt
    have PP := Aside0.mk (AQ8.out.push2 ⟨p8, E8, i8, j8, F8, k8, l8⟩ V8.out HSZ.out hR hA hBt)
    have H12 := Aside0.mk (show C3 W12 q8 (.slice A5 n5 c5) (.slice A6 n1 c6) (.slice A7 n2 c7) ∧ (W12.cell? ⟨q6, 0, none⟩ = some (.int .i64 p3) ∧ W12.cell? ⟨q6, 1, none⟩ = some (.slice A3 n3 c3) ∧ W12.cell? ⟨q6, 2, none⟩ = some (.slice B3 m3 d3)) from ⟨PP.out.2.2.2.2.1, by
      obtain ⟨-, l0, l1, l2⟩ := CH.out Z8 BZ8.out
      have hne : ∀ ad, A7 = some ad → q6 ≠ ad.block := fun ad e => by have h1 := AQ8.out.rr.hb ad e; have h2 := GQ6.out; omega
      exact ⟨hBt.cell l0 hne, hBt.cell l1 hne, hBt.cell l2 hne⟩⟩)
    clear hR hA hBt
    refine hK.out _ _ H12.out (fun hHeld => ?_)
    clear hK K
    refine norm_ (a' := ?_) ?_ ?_
    rotate_left
    · show Act.put _ (some 61) _ = _
      simp only [Act.put, List.setIfInBounds_toArray, List.set_cons_zero, List.set_cons_succ, i64_w, i32_w]
      rfl
    have cq := PP.out.2.2.2.2.1
    have p1 := blk_cell (j := 1) cq
    have p2 := (cell_off (W := W12) (b := q8) (o := 1) (v := .slice A6 m1 c6) (by decide)).trans (blk_cell (j := 2) cq)
    have f1 := blk_frozen (j := 1) cq
    have f2 := blk_frozen (j := 2) (cq.set1 (.slice A6 m1 c6))
    clear cq
    refine last_ (i := 14) (N := none) #[true, true, true, true, true, true, true, true, true, true, true, true, true, true, true, false, false] rfl rfl (by kernel_rfl) (by decide) (fun K hK => ?_)
    refine skip_ (w1 := ?_) (by rfl) rfl ?_ ?_
    rotate_left
    · go_simp
      rfl
    refine hK.out _ _ ?_
    clear hK K
    refine pure_ (i := 15) (N := some 63) (v := ?_) (a' := ?_) #[true, true, true, true, true, true, true, true, true, true, true, true, true, true, true, true, false] rfl rfl (by kernel_rfl) (fun _ _ _ h => h) (Or.inl ⟨by rfl, ?_⟩) ?_ ?_
    rotate_left
    · intro w'
      go_simp
      with_reducible rfl
    rotate_left
    · simp only [Act.put, List.setIfInBounds_toArray, List.set_cons_zero, List.set_cons_succ, i64_w, i32_w]
      rfl
    refine last_ (i := 16) (N := none) #[true, true, true, true, true, true, true, true, true, true, true, true, true, true, true, true, true] rfl rfl (by kernel_rfl) (by decide) (fun K hK => ?_)
    refine skip_ (w1 := ?_) (by rfl) rfl ?_ ?_
    rotate_left
    · go_simp
      rfl
    refine hK.out _ _ ?_
    clear hK K
    refine done_ (by kernel_rfl) ?_
    have EN := Aside0.mk (en_of (m1 := m1) (m2 := n2 + 1) BW4.out AQ.out.gq AQ.out.gr PP.out.1 PP.out.2.1 PP.out.2.2.1 PP.out.2.2.2.1 PP.out.2.2.2.2.1 PP.out.2.2.2.2.2 (by have := HM1.out; omega) (Nat.le_refl _) (by omega) (by omega) (by omega))
    have HM2 := HM1.out
    clear PP H12 AQ8 AQ CH HB V8 V9 HSZ BZ8 CF SO
    generalize ((W12.setCell ⟨q8, 1, none⟩ (.slice A6 m1 c6)).setCell ⟨q8, 2, none⟩ (.slice A9 (n2 + 1) c9)) = WE at EN ⊢
    go_upto_region 13 with (fail)
    obtain ⟨vu, vr, xu, xr, hst⟩ := EN.out.ok
    have p0 := blk_cell (j := 0) EN.out.cq
    have p1 := blk_cell (j := 1) EN.out.cq
    have p2 := blk_cell (j := 2) EN.out.cq
    have y0 := blk_cell (j := 0) EN.out.cr
    have y1 := blk_cell (j := 1) EN.out.cr
    have y2 := blk_cell (j := 2) EN.out.cr
    have f0 := blk_frozen (j := 0) EN.out.cr
    have f1 := blk_frozen (j := 1) EN.out.cr
    have f2 := blk_frozen (j := 2) EN.out.cr
    have HST := Aside0.mk hst
    clear hst
    go_wp2
    obtain ⟨c0, c1, c2⟩ := set3_get (a := Value.slice A5 n5 c5) (b := Value.slice A6 m1 c6) (c := Value.slice A9 (n2 + 1) c9) y0 y1 y2
    have hb5 := below_set3 (a := Value.slice A5 n5 c5) (b := Value.slice A6 m1 c6) (c := Value.slice A9 (n2 + 1) c9) hler EN.out.b
    have hok5 := HST.out.put (Put1.three _ r (Value.slice A5 n5 c5) (Value.slice A6 m1 c6) (Value.slice A9 (n2 + 1) c9)) EN.out.cr.noI EN.out.e1 EN.out.e2
    generalize ((World.setCell _ ⟨r, 0, none⟩ (Value.slice A5 n5 c5)).setCell ⟨r, 1, none⟩ (Value.slice A6 m1 c6)).setCell ⟨r, 2, none⟩ (Value.slice A9 (n2 + 1) c9) = W99 at c0 c1 c2 hb5 hok5 ⊢
    refine bodyPost_ret (v := .tuple #[.agg #[.slice A5 n5 c5, .slice A6 m1 c6, .slice A9 (n2 + 1) c9], .int .i64 0]) (by simp [results, Try.results12, go_sem, c0, c1, c2]) rfl ?_
    exact ⟨A5, n5, c5, _, _, _, _, _, _, rfl, hb5, fun _ => ⟨vu, vr, xu, xr, hok5, by omega, by omega, hn5⟩⟩
  · skip
    have hpos : 0 < n2 := F89.out.2 rfl
    obtain ⟨m2, hm2⟩ : ∃ m, n2 = m + 1 := ⟨n2 - 1, by omega⟩
    have so := SO.out
    go_upto_region 12 with (fail)
    clear so
    have HM1 := Aside0.mk hm2
    have HSUB := Aside0.mk (show IntKind.i64.wrap ((n2 : Int) - 1) = (m2 : Int) by rw [i64_w]; unfold wrap64; omega)
    clear hm2 hpos
    have HB := Aside0.mk (below_drew1 (Below.refl W9.heap.size W9))
    refine start_ (n := 18) (S := fun w' => C3 w' q8 (.slice A5 n5 c5) (.slice A6 n1 c6) (.slice A7 n2 c7) ∧ (w'.cell? ⟨q6, 0, none⟩ = some (.int .i64 p3) ∧ w'.cell? ⟨q6, 1, none⟩ = some (.slice A3 n3 c3) ∧ w'.cell? ⟨q6, 2, none⟩ = some (.slice B3 m3 d3))) (ds := [15, 17]) #[false, false, false, false, false, false, false, false, false, false, false, false, false, false, false, false, false, false] (by kernel_rfl) rfl rfl (CH.out _ HB.out) (fun hHeld => ?_)
    generalize W9.drew = D at HB hHeld ⊢
    refine pure_ (i := 0) (N := some 66) (v := ?_) (a' := ?_) #[true, false, false, false, false, false, false, false, false, false, false, false, false, false, false, false, false, false] rfl rfl (by kernel_rfl) (fun _ _ _ h => h) (Or.inl ⟨by rfl, ?_⟩) ?_ ?_
    rotate_left
    · intro w'
      go_simp
      with_reducible rfl
    rotate_left
    · simp only [Act.put, List.setIfInBounds_toArray, List.set_cons_zero, List.set_cons_succ, i64_w, i32_w]
      rfl
    refine pure_ (i := 7) (N := some 73) (v := ?_) (a' := ?_) #[true, false, false, false, false, false, false, true, false, false, false, false, false, false, false, false, false, false] rfl rfl (by kernel_rfl) (fun _ _ _ h => h) (Or.inl ⟨by rfl, ?_⟩) ?_ ?_
    rotate_left
    · intro w'
      go_simp
      with_reducible rfl
    rotate_left
    · simp only [Act.put, List.setIfInBounds_toArray, List.set_cons_zero, List.set_cons_succ, i64_w, i32_w]
      rfl
    refine pure_ (i := 9) (N := some 75) (v := ?_) (a' := ?_) #[true, false, false, false, false, false, false, true, false, true, false, false, false, false, false, false, false, false] rfl rfl (by kernel_rfl) (fun _ _ _ h => h) (Or.inl ⟨by rfl, ?_⟩) ?_ ?_
    rotate_left
    · intro w'
      go_simp
      with_reducible rfl
    rotate_left
    · simp only [Act.put, List.setIfInBounds_toArray, List.set_cons_zero, List.set_cons_succ, i64_w, i32_w]
      rfl
    refine take_ (i := 1) (N := some 67) (v := ?_) (a' := ?_) #[true, true, false, false, false, false, false, true, false, true, false, false, false, false, false, false, false, false] rfl rfl (by kernel_rfl) (fun _ _ _ h => h) (Or.inl ⟨by rfl, ?_⟩) hHeld ?_ ?_
    rotate_left
    · rintro w' ⟨hcq, l0, l1, l2⟩
      have s0 := blk_cell (j := 0) hcq
      have s1 := blk_cell (j := 1) hcq
      have s2 := blk_cell (j := 2) hcq
      go_simp
      with_reducible rfl
    rotate_left
    · simp only [Act.put, List.setIfInBounds_toArray, List.set_cons_zero, List.set_cons_succ, i64_w, i32_w]
      rfl
    refine take_ (i := 2) (N := some 68) (v := ?_) (a' := ?_) #[true, true, true, false, false, false, false, true, false, true, false, false, false, false, false, false, false, false] rfl rfl (by kernel_rfl) (fun _ _ _ h => h) (Or.inl ⟨by rfl, ?_⟩) hHeld ?_ ?_
    rotate_left
    · rintro w' ⟨hcq, l0, l1, l2⟩
      have s0 := blk_cell (j := 0) hcq
      have s1 := blk_cell (j := 1) hcq
      have s2 := blk_cell (j := 2) hcq
      go_simp
      with_reducible rfl
    rotate_left
    · simp only [Act.put, List.setIfInBounds_toArray, List.set_cons_zero, List.set_cons_succ, i64_w, i32_w]
      rfl
    refine take_ (i := 8) (N := some 74) (v := ?_) (a' := ?_) #[true, true, true, false, false, false, false, true, true, true, false, false, false, false, false, false, false, false] rfl rfl (by kernel_rfl) (fun _ _ _ h => h) (Or.inl ⟨by rfl, ?_⟩) hHeld ?_ ?_
    rotate_left
    · rintro w' ⟨hcq, l0, l1, l2⟩
      have s0 := blk_cell (j := 0) hcq
      have s1 := blk_cell (j := 1) hcq
      have s2 := blk_cell (j := 2) hcq
      go_simp
      with_reducible rfl
    rotate_left
    · simp only [Act.put, List.setIfInBounds_toArray, List.set_cons_zero, List.set_cons_succ, i64_w, i32_w]
      rfl
    refine take_ (i := 10) (N := some 76) (v := ?_) (a' := ?_) #[true, true, true, false, false, false, false, true, true, true, true, false, false, false, false, false, false, false] rfl rfl (by kernel_rfl) (fun _ _ _ h => h) (Or.inl ⟨by rfl, ?_⟩) hHeld ?_ ?_
    rotate_left
    · rintro w' ⟨hcq, l0, l1, l2⟩
      have s0 := blk_cell (j := 0) hcq
      have s1 := blk_cell (j := 1) hcq
      have s2 := blk_cell (j := 2) hcq
      go_simp
      with_reducible rfl
    rotate_left
    · simp only [Act.put, List.setIfInBounds_toArray, List.set_cons_zero, List.set_cons_succ, i64_w, i32_w]
      rfl
    refine pure_ (i := 11) (N := some 77) (v := ?_) (a' := ?_) #[true, true, true, false, false, false, false, true, true, true, true, true, false, false, false, false, false, false] rfl rfl (by kernel_rfl) (fun _ _ _ h => h) (Or.inl ⟨by rfl, ?_⟩) ?_ ?_
    rotate_left
    · intro w'
      go_simp
      with_reducible rfl
    rotate_left
    · simp only [Act.put, List.setIfInBounds_toArray, List.set_cons_zero, List.set_cons_succ, i64_w, i32_w]
      rfl
    refine pure_ (i := 12) (N := some 78) (v := ?_) (a' := ?_) #[true, true, true, false, false, false, false, true, true, true, true, true, true, false, false, false, false, false] rfl rfl (by kernel_rfl) (fun _ _ _ h => h) (Or.inl ⟨by rfl, ?_⟩) ?_ ?_
    rotate_left
    · intro w'
      go_simp
      rw [HSUB.out]
    rotate_left
    · simp only [Act.put, List.setIfInBounds_toArray, List.set_cons_zero, List.set_cons_succ, i64_w, i32_w]
      rfl
    refine pure_ (i := 13) (N := some 79) (v := .slice A7 m2 c7) (a' := ?_) #[true, true, true, false, false, false, false, true, true, true, true, true, true, true, false, false, false, false] rfl rfl (by kernel_rfl) (fun _ _ _ h => h) (Or.inl ⟨by rfl, ?_⟩) ?_ ?_
    · intro w'
      have hsl := run_ctake (A := A7) (show m2 ≤ n2 by have := HM1.out; omega) HC7.out w'
      go_simp
    rotate_left
    · simp only [Act.put, List.setIfInBounds_toArray, List.set_cons_zero, List.set_cons_succ, i64_w, i32_w]
      rfl
    refine one_ (i := 3) (N := some 69) #[true, true, true, true, false, false, false, true, true, true, true, true, true, true, false, false, false, false] rfl rfl (by kernel_rfl) (by decide) (fun K hK => ?_)
    refine goes_ Try.func38 (by kernel_rfl) rfl #[.agg #[.int .i64 p3, .slice A3 n3 c3, .slice B3 m3 d3]] (by rfl) rfl rfl (by (try simp only [List.map_toArray, List.map_cons, List.map_nil]); first | done | rfl) ?_
    (with_reducible refine (Inverse_calls (V9.out.below HB.out) (by have := HGC.out; omega) (by have := HGC.out; omega)).mono ?_)
    rintro e Z8 ⟨p8, E8, i8, j8, F8, k8, l8, rfl, h_, hb⟩
    refine ⟨_, rfl, ?_⟩
    have BZ8 := Aside0.mk (below_step HB.out hb)
    have V8 := Aside0.mk h_
    clear h_ hb
    have HSZ := Aside0.mk (show i8 ≤ 5000 ∧ k8 ≤ 5000 by have h1 := V8.out.g.hn; have h2 := V8.out.k.hn; simp only [Ch.inv] at h1 h2; omega)
    have AQ8 := Aside0.mk (AQ.out.below BZ8.out)
    have GQ6 := Aside0.mk (show q6 < D4.heap.size by exact HQ6.out)
    refine hK.out _ _ (CH.out _ BZ8.out) (fun hHeld => ?_)
    clear hK K
    refine norm_ (a' := ?_) ?_ ?_
    rotate_left
    · show Act.put _ (some 69) _ = _
      simp only [Act.put, List.setIfInBounds_toArray, List.set_cons_zero, List.set_cons_succ, i64_w, i32_w]
      rfl
    have HB8 := HB
    clear HB AQ8
    have HB := BZ8
    clear BZ8
    have HSZ8 := HSZ
    clear HSZ GQ6
    have V8' : Aside0 (ChV Z8 p8 E8 i8 j8 F8 k8 l8 x.inv) := V8
    clear V8
    have BZ' := HB
    refine one_ (i := 4) (N := some 70) #[true, true, true, true, true, false, false, true, true, true, true, true, true, true, false, false, false, false] rfl rfl (by kernel_rfl) (by decide) (fun K hK => ?_)
    refine goes_ Try.func38 (by kernel_rfl) rfl #[.agg #[.int .i64 p8, .slice E8 i8 j8, .slice F8 k8 l8]] (by rfl) rfl rfl (by (try simp only [List.map_toArray, List.map_cons, List.map_nil]); first | done | rfl) ?_
    (with_reducible refine (Inverse_calls V8'.out (by have := HSZ8.out; omega) (by have := HSZ8.out; omega)).mono ?_)
    rintro e Z9 ⟨q8', E9, i9, j9, F9, k9, l9, rfl, h_, hb⟩
    refine ⟨_, rfl, ?_⟩
    have BZ8 := Aside0.mk (below_step HB.out hb)
    have V8 : Aside0 (ChV Z9 q8' E9 i9 j9 F9 k9 l9 x) := ⟨h_⟩
    clear h_ hb
    have HSZ := Aside0.mk (show i9 ≤ 5000 ∧ k9 ≤ 5000 by have h1 := V8.out.g.hn; have h2 := V8.out.k.hn; omega)
    have AQ8 := Aside0.mk (AQ.out.below BZ8.out)
    have GQ6 := Aside0.mk (show q6 < D4.heap.size by exact HQ6.out)
    refine hK.out _ _ (CH.out _ BZ8.out) (fun hHeld => ?_)
    clear hK K
    refine norm_ (a' := ?_) ?_ ?_
    rotate_left
    · show Act.put _ (some 70) _ = _
      simp only [Act.put, List.setIfInBounds_toArray, List.set_cons_zero, List.set_cons_succ, i64_w, i32_w]
      rfl
    refine one_ (i := 5) (N := some 71) #[true, true, true, true, true, true, false, true, true, true, true, true, true, true, false, false, false, false] rfl rfl (by kernel_rfl) (by decide) (fun K hK => ?_)
    refine event_step (w1 := Z9.alloc (.cells #[.int .i64 q8', .slice E9 i9 j9, .slice F9 k9 l9] 32)) (v := .slice (some ⟨Z9.heap.size, 0, none⟩) 1 1) (by rfl) ?_ ?_
    · go_simp
      try rfl
    refine hK.out _ _ (CH.out _ (BZ8.out.alloc BZ8.out.size _)) (fun hHeld => ?_)
    clear hK K
    refine norm_ (a' := ?_) ?_ ?_
    rotate_left
    · show Act.put _ (some 71) _ = _
      simp only [Act.put, List.setIfInBounds_toArray, List.set_cons_zero, List.set_cons_succ, i64_w, i32_w]
      rfl
    refine one_ (i := 6) (N := some 72) #[true, true, true, true, true, true, true, true, true, true, true, true, true, true, false, false, false, false] rfl rfl (by kernel_rfl) (by decide) (fun K hK => ?_)
    refine rg_append_step (W := Z9) (by rfl) (.tmp 67) (.tmp 71) rfl rfl rfl (AQ8.out.u.row) (by omega) ⟨q8', E9, i9, j9, F9, k9, l9⟩ ?_
    intro A9 c9 W12 hR hA hBt
    have PP := Aside0.mk (AQ8.out.push1 ⟨q8', E9, i9, j9, F9, k9, l9⟩ V8.out HSZ.out hR hA hBt)
    have H12 := Aside0.mk (show C3 W12 q8 (.slice A5 n5 c5) (.slice A6 n1 c6) (.slice A7 n2 c7) ∧ (W12.cell? ⟨q6, 0, none⟩ = some (.int .i64 p3) ∧ W12.cell? ⟨q6, 1, none⟩ = some (.slice A3 n3 c3) ∧ W12.cell? ⟨q6, 2, none⟩ = some (.slice B3 m3 d3)) from ⟨PP.out.2.2.2.2.1, by
      obtain ⟨-, l0, l1, l2⟩ := CH.out Z9 BZ8.out
      have hne : ∀ ad, A6 = some ad → q6 ≠ ad.block := fun ad e => by have h1 := AQ8.out.u.hb ad e; have h2 := GQ6.out; omega
      exact ⟨hBt.cell l0 hne, hBt.cell l1 hne, hBt.cell l2 hne⟩⟩)
    clear hR hA hBt
    refine hK.out _ _ H12.out (fun hHeld => ?_)
    clear hK K
    refine norm_ (a' := ?_) ?_ ?_
    rotate_left
    · show Act.put _ (some 72) _ = _
      simp only [Act.put, List.setIfInBounds_toArray, List.set_cons_zero, List.set_cons_succ, i64_w, i32_w]
      rfl
    have cq := PP.out.2.2.2.2.1
    have p1 := blk_cell (j := 1) cq
    have p2 := (cell_off (W := W12) (b := q8) (o := 1) (v := .slice A9 (n1 + 1) c9) (by decide)).trans (blk_cell (j := 2) cq)
    have f1 := blk_frozen (j := 1) cq
    have f2 := blk_frozen (j := 2) (cq.set1 (.slice A9 (n1 + 1) c9))
    clear cq
    refine pure_ (i := 14) (N := some 80) (v := ?_) (a' := ?_) #[true, true, true, true, true, true, true, true, true, true, true, true, true, true, true, false, false, false] rfl rfl (by kernel_rfl) (fun _ _ _ h => h) (Or.inl ⟨by rfl, ?_⟩) ?_ ?_
    rotate_left
    · intro w'
      go_simp
      with_reducible rfl
    rotate_left
    · simp only [Act.put, List.setIfInBounds_toArray, List.set_cons_zero, List.set_cons_succ, i64_w, i32_w]
      rfl
    refine last_ (i := 15) (N := none) #[true, true, true, true, true, true, true, true, true, true, true, true, true, true, true, true, false, false] rfl rfl (by kernel_rfl) (by decide) (fun K hK => ?_)
    refine skip_ (w1 := ?_) (by rfl) rfl ?_ ?_
    rotate_left
    · go_simp
      rfl
    refine hK.out _ _ ?_
    clear hK K
    refine pure_ (i := 16) (N := some 81) (v := ?_) (a' := ?_) #[true, true, true, true, true, true, true, true, true, true, true, true, true, true, true, true, true, false] rfl rfl (by kernel_rfl) (fun _ _ _ h => h) (Or.inl ⟨by rfl, ?_⟩) ?_ ?_
    rotate_left
    · intro w'
      go_simp
      with_reducible rfl
    rotate_left
    · simp only [Act.put, List.setIfInBounds_toArray, List.set_cons_zero, List.set_cons_succ, i64_w, i32_w]
      rfl
    refine last_ (i := 17) (N := none) #[true, true, true, true, true, true, true, true, true, true, true, true, true, true, true, true, true, true] rfl rfl (by kernel_rfl) (by decide) (fun K hK => ?_)
    refine skip_ (w1 := ?_) (by rfl) rfl ?_ ?_
    rotate_left
    · go_simp
      rfl
    refine hK.out _ _ ?_
    clear hK K
    refine done_ (by kernel_rfl) ?_
    have EN := Aside0.mk (en_of (m1 := n1 + 1) (m2 := m2) BW4.out AQ.out.gq AQ.out.gr PP.out.1 PP.out.2.1 PP.out.2.2.1 PP.out.2.2.2.1 PP.out.2.2.2.2.1 PP.out.2.2.2.2.2 (Nat.le_refl _) (by have := HM1.out; omega) (by omega) (by omega) (by omega))
    have HM2 := HM1.out
    clear PP H12 AQ8 AQ CH HB V8 V9 HSZ BZ8 CF SO
    generalize ((W12.setCell ⟨q8, 1, none⟩ (.slice A9 (n1 + 1) c9)).setCell ⟨q8, 2, none⟩ (.slice A7 m2 c7)) = WE at EN ⊢
    go_upto_region 13 with (fail)
    obtain ⟨vu, vr, xu, xr, hst⟩ := EN.out.ok
    have p0 := blk_cell (j := 0) EN.out.cq
    have p1 := blk_cell (j := 1) EN.out.cq
    have p2 := blk_cell (j := 2) EN.out.cq
    have y0 := blk_cell (j := 0) EN.out.cr
    have y1 := blk_cell (j := 1) EN.out.cr
    have y2 := blk_cell (j := 2) EN.out.cr
    have f0 := blk_frozen (j := 0) EN.out.cr
    have f1 := blk_frozen (j := 1) EN.out.cr
    have f2 := blk_frozen (j := 2) EN.out.cr
    have HST := Aside0.mk hst
    clear hst
    go_wp2
    obtain ⟨c0, c1, c2⟩ := set3_get (a := Value.slice A5 n5 c5) (b := Value.slice A9 (n1 + 1) c9) (c := Value.slice A7 m2 c7) y0 y1 y2
    have hb5 := below_set3 (a := Value.slice A5 n5 c5) (b := Value.slice A9 (n1 + 1) c9) (c := Value.slice A7 m2 c7) hler EN.out.b
    have hok5 := HST.out.put (Put1.three _ r (Value.slice A5 n5 c5) (Value.slice A9 (n1 + 1) c9) (Value.slice A7 m2 c7)) EN.out.cr.noI EN.out.e1 EN.out.e2
    generalize ((World.setCell _ ⟨r, 0, none⟩ (Value.slice A5 n5 c5)).setCell ⟨r, 1, none⟩ (Value.slice A9 (n1 + 1) c9)).setCell ⟨r, 2, none⟩ (Value.slice A7 m2 c7) = W99 at c0 c1 c2 hb5 hok5 ⊢
    refine bodyPost_ret (v := .tuple #[.agg #[.slice A5 n5 c5, .slice A9 (n1 + 1) c9, .slice A7 m2 c7], .int .i64 0]) (by simp [results, Try.results12, go_sem, c0, c1, c2]) rfl ?_
    exact ⟨A5, n5, c5, _, _, _, _, _, _, rfl, hb5, fun _ => ⟨vu, vr, xu, xr, hok5, by omega, by omega, hn5⟩⟩
end
end Go.Proofs.Ytenjldfflkinkaa.Rop
