/- The texts FGSvEB, FGCodC, FGCodD, FGCodE, FGCodF, FGCodG, FGCodH, FGCodI, FGCodJ, FGCodK, in one: what the law does not need is left out. -/
import Derived.Test.YtenjldfflkinkaaDoorTrD
set_option linter.unusedVariables false
set_option linter.unusedSimpArgs false
namespace Go.Proofs.YtenjldfflkinkaaDoor.Rop
set_option linter.unusedVariables false
set_option linter.unusedSimpArgs false
open Go.RowKit Go.Proofs.YtenjldfflkinkaaDoor.F Go.Proofs.YtenjldfflkinkaaDoorW.PrintWords Go.Proofs.YtenjldfflkinkaaDoorW.PrintLast Go.Proofs.YtenjldfflkinkaaDoorW.PrintMore
set_option linter.unusedSectionVars false
variable [Coe Unit Nat]
/-- a row of one's own, without runes in its block -/
def Rg (W : World) (A : Option Addr) (t sz : Nat) (vs : List Value) (n cap : Nat) : Prop :=
  (A = none ∧ n = 0 ∧ cap = 0 ∧ vs = []) ∨ ∃ (g : Nat) (cur : Array Value), A = some ⟨g, 0, none⟩ ∧ W.heap[g]? = some (.cells cur t (0, 0)) ∧ cur.size = cap * sz ∧ vs.length = n * sz ∧ (∀ i : Nat, i < vs.length → cur[i]? = vs[i]?) ∧ (∀ (i : Nat) (v : Value), cur[i]? = some v → NoI v) ∧ n ≤ cap ∧ cap ≤ 9223372036854775807
/-- the world but for the row's block -/
def But (W W1 : World) (A : Option Addr) : Prop := W.heap.size ≤ W1.heap.size ∧ (∀ k, k < W.heap.size → some k ≠ A.map (·.block) → W1.heap[k]? = W.heap[k]?) ∧ ∀ b w0, (∀ ad, A = some ad → b ≤ ad.block) → b ≤ W.heap.size → Below b w0 W → Below b w0 W1
theorem Rg.noI {W : World} {A : Option Addr} {t sz n cap : Nat} {vs : List Value} (h : Rg W A t sz vs n cap) {ad : Addr} (hA : A = some ad) (a : Addr) (v : Value) (ha : a.block = ad.block) (hc : W.cell? a = some v) : NoI v := by
  rcases h with ⟨h1, _⟩ | ⟨g, cur, h1, h2, _, _, _, h6, _⟩
  · rw [h1] at hA; cases hA
  · rw [h1] at hA
    injection hA with hA
    subst hA
    exact blk_noI h2 h6 a v ha hc
theorem Sl.but {W W1 : World} {A A0 : Option Addr} {t sz k cap n c : Nat} {vs : List Value} {l : List Int} (hR : Rg W A0 t sz vs k cap) (hb : But W W1 A0) (h : Sl W A n c l) : Sl W1 A n c l := by
  cases hA : A0 with
  | none =>
    refine h.cells (fun a v hc => ?_) (fun g cs hc => (hb.2.1 g (Array.getElem?_eq_some_iff.1 hc).1 (by rw [hA]; simp)).trans hc)
    have := hb.2.1 a.block (World.block_lt_of_cell? W _ hc) (by rw [hA]; simp)
    simp only [World.cell?, this]
    exact hc
  | some ad => exact h.only (g := ad.block) (fun a v ha hc => hR.noI hA a v ha hc) (fun k hk hne => hb.2.1 k hk (by rw [hA]; simpa using hne))
theorem ChV.but {W W1 : World} {A0 : Option Addr} {t sz k cap : Nat} {vs : List Value} {p : Int} {A B : Option Addr} {n c m d : Nat} {x : Ch} (hR : Rg W A0 t sz vs k cap) (hb : But W W1 A0) (h : ChV W p A n c B m d x) : ChV W1 p A n c B m d x := ⟨h.hp, h.g.but hR hb, h.k.but hR hb⟩
theorem Rg.below {W W' : World} {A : Option Addr} {t sz n cap : Nat} {vs : List Value} (h : Rg W A t sz vs n cap) (hb : Below W.heap.size W W') : Rg W' A t sz vs n cap := by
  rcases h with h | ⟨g, cur, h1, h2, h3⟩
  · exact .inl h
  · exact .inr ⟨g, cur, h1, (hb.block _ (Array.getElem?_eq_some_iff.1 h2).1).trans h2, h3⟩
theorem zero_noI {z : Value} (hz : ∀ v ∈ z.cells.toList, NoI v) (hs : 0 < z.cells.size) (n : Nat) : ∀ (i : Nat) (v : Value), (Builtin.zeroCells z.cells n)[i]? = some v → NoI v := by
  intro i v h
  simp only [Builtin.zeroCells, Array.getElem?_map, Option.map_eq_some_iff] at h
  obtain ⟨a, _, h2⟩ := h
  rw [← h2]
  have hlt : a % z.cells.size < z.cells.size := Nat.mod_lt _ hs
  rw [getElem!_pos z.cells _ hlt]
  exact hz _ (by simp)
theorem below_setCells {g n : Nat} {w : World} (hg : n ≤ g) : ∀ (vs : List Value) (o : Nat) (W : World), Below n w W → Below n w (W.setCells g o vs)
  | [], _, _, h => h
  | v :: r, o, W, h => by
    rw [World.setCells]
    exact below_setCells hg r (o + 1) _ (h.setCell (p := ⟨g, o, none⟩) hg v)
theorem rg_run {W : World} {t ty e n cap sz bytes : Nat} {z : Value} {A : Option Addr} {vs cs : List Value} (ht : Tryd.prog.underlying t = some (.slice e)) (hinfo : (Tryd.prog.info? e).map (fun i => (i.zero, i.size, i.bytes)) = some (some z, sz, bytes)) (hz : z.cells.size = sz) (hzn : ∀ v ∈ z.cells.toList, NoI v) (hs0 : 0 < sz) (hb : bytes ≤ 1000)
    (hR : Rg W A e sz vs n cap) (hn : n ≤ 1000) (hcs : cs.length = sz) (hno : ∀ v ∈ cs, NoI v) (h1 : ∀ v ∈ cs, v.oneCell' = true) :
    ∃ A' cap' w1, (Builtin.append_ #[t, t] ty #[.slice A n cap, .slice (some ⟨W.heap.size, 0, none⟩) 1 1]).run Tryd.prog (W.alloc (.cells cs.toArray e)) = .ok (.slice A' (n + 1) cap') w1 ∧ Rg w1 A' e sz (vs ++ cs) (n + 1) cap' ∧ (∃ ad, A' = some ad ∧ (A = some ad ∨ W.heap.size ≤ ad.block)) ∧ But W w1 A := by
  obtain ⟨i0, hi, hzz⟩ := Option.map_eq_some_iff.1 hinfo
  simp only [Prod.mk.injEq] at hzz
  obtain ⟨hz0, hz1, hz2⟩ := hzz
  have hnews : ∀ (j : Nat) (u : Value), cs[j]? = some u → (W.alloc (.cells cs.toArray e)).cell? ((⟨W.heap.size, 0, none⟩ : Addr).add j) = some u := by
    intro j u hj
    have hn : (W.alloc (.cells cs.toArray e)).cell? ⟨W.heap.size, j, none⟩ = some u := by rw [new_cell]; simpa using hj
    by_cases h0 : j = 0
    · subst h0
      exact hn
    · simpa [Addr.add, h0] using hn
  have hfit : ∀ old, old < n + 1 → Builtin.nextslicecap (n + 1) old * i0.bytes ≤ 281474976710656 := fun old ho => growslice_fits ho (by rw [hz2]; have := Nat.mul_le_mul (show n + 1 ≤ 1001 by omega) hb; omega)
  have hbn : ∀ (cu : Array Value), Below W.heap.size W ((W.alloc (.cells cs.toArray e)).drew.alloc (.cells cu e)) := fun cu => below_alloc (below_drew1 ((Below.refl _ _).alloc (Nat.le_refl _) _)) _
  have hgrown : ∀ (cu : Array Value) (cap' : Nat), cu.size = cap' * sz → (vs ++ cs).length = (n + 1) * sz → (∀ i : Nat, i < (vs ++ cs).length → cu[i]? = (vs ++ cs)[i]?) → (∀ (i : Nat) (v : Value), cu[i]? = some v → NoI v) → n + 1 ≤ cap' → cap' ≤ 9223372036854775807 →
      Rg ((W.alloc (.cells cs.toArray e)).drew.alloc (.cells cu e)) (some ⟨(W.alloc (.cells cs.toArray e)).heap.size, 0, none⟩) e sz (vs ++ cs) (n + 1) cap' ∧ (∃ ad, (some ⟨(W.alloc (.cells cs.toArray e)).heap.size, 0, none⟩ : Option Addr) = some ad ∧ (A = some ad ∨ W.heap.size ≤ ad.block)) ∧ But W ((W.alloc (.cells cs.toArray e)).drew.alloc (.cells cu e)) A := by
    intro cu cap' k1 k2 k3 k4 k5 k6
    refine ⟨.inr ⟨_, cu, rfl, ?_, k1, k2, k3, k4, k5, k6⟩, ⟨_, rfl, .inr (by simp)⟩, (hbn cu).size, fun k hk _ => (hbn cu).block k hk, fun b w0 _ hb2 hB => (below_drew1 (hB.alloc hb2 _)).alloc (by simp; omega) _⟩
    have := World.alloc_heap_new (W.alloc (.cells cs.toArray e)).drew (.cells cu e)
    simpa using this
  rcases hR with ⟨rfl, rfl, rfl, rfl⟩ | ⟨g, cur, rfl, hh, hcsz, hvl, hcv, hod, hlc, hcm⟩
  · have hrun := run_append_nil (P := Tryd.prog) (W.alloc (.cells cs.toArray e)) t ty e i0 z ht hi hz0 ⟨W.heap.size, 0, none⟩ 1 1 cs (by rw [hz1]; omega) hnews (by omega) (by omega) (by rw [hz2]; omega)
    have hge := grownCap_ge (W.alloc (.cells cs.toArray e)) 1 0 e
    have hcm' : grownCap (W.alloc (.cells cs.toArray e)) 1 0 e ≤ maxLen := grownCap_le_maxLen _ 1 0 e (by simp only [maxLen]; omega)
    simp only [maxLen] at hcm'
    generalize grownCap (W.alloc (.cells cs.toArray e)) 1 0 e = cap' at hrun hge hcm'
    refine ⟨_, cap', _, hrun, ?_⟩
    have hzs : (Builtin.zeroCells z.cells (cap' - 1)).size = (cap' - 1) * sz := by simp [Builtin.zeroCells, hz]
    refine hgrown _ cap' ?_ (by simp; omega) (fun i hi => ?_) (fun i v hv => ?_) (by omega) (by omega)
    · simp only [Array.size_append, hzs, List.size_toArray, hcs]
      rw [Nat.sub_mul, Nat.one_mul]
      have := Nat.mul_le_mul_right sz hge
      omega
    · simp only [List.nil_append] at hi ⊢
      rw [Array.getElem?_append_left (by simpa using hi)]
      simp
    · by_cases hil : i < cs.length
      · rw [Array.getElem?_append_left (by simpa using hil)] at hv
        simp at hv
        exact hno v (List.mem_of_getElem? hv)
      · rw [Array.getElem?_append_right (by simp; omega)] at hv
        exact zero_noI hzn (by omega) _ _ _ hv
  · have hgl : g < W.heap.size := (Array.getElem?_eq_some_iff.1 hh).1
    have hh1 : (W.alloc (.cells cs.toArray e)).heap[g]? = some (.cells cur e (0, 0)) := (Below.heap_alloc _ _ _ hgl).trans hh
    by_cases hroom : n + 1 ≤ cap
    · have hcap : n * sz + sz ≤ cap * sz := by rw [← Nat.succ_mul]; exact Nat.mul_le_mul_right _ hroom
      have hrun := run_append_room_cells (P := Tryd.prog) (W.alloc (.cells cs.toArray e)) t ty e i0 ht hi g 0 n cap ⟨W.heap.size, 0, none⟩ 1 1 cs (by rw [hz1]; omega) hnews h1 hroom
        (fun j hj => by rw [blk_cell hh1, hz1]; simp; omega) (fun j hj => blk_frozen hh1)
      refine ⟨_, cap, _, hrun, ?_⟩
      rw [hz1]
      obtain ⟨cur', q1, q2, q3⟩ := setCells_row (g := g) (e := e) cs (0 + n * sz) (W.alloc (.cells cs.toArray e)) cur hh1 (by omega)
      obtain ⟨s1, s2, s3, s4⟩ := setCells_same g cs (0 + n * sz) (W.alloc (.cells cs.toArray e))
      have htk : cur.toList.take (0 + n * sz) = vs := by
        rw [Nat.zero_add]
        apply List.ext_getElem?
        intro i
        rw [List.getElem?_take]
        by_cases hi : i < n * sz
        · rw [if_pos hi, ← hcv i (by omega)]
          simp
        · rw [if_neg hi, List.getElem?_eq_none (by omega)]
      rw [htk] at q3
      have hvl2 : (vs ++ cs).length = (n + 1) * sz := by rw [List.length_append, hvl, hcs, Nat.succ_mul]
      refine ⟨.inr ⟨g, cur', rfl, q1, by rw [q2]; exact hcsz, hvl2, fun i hi => ?_, fun i v hv => ?_, hroom, hcm⟩, ⟨_, rfl, .inl rfl⟩, by rw [s4]; simp, fun k hk hne => ?_, fun b w0 hb1 hb2 hB => below_setCells (hb1 _ rfl) _ _ _ (hB.alloc hb2 _)⟩
      · rw [← Array.getElem?_toList, q3, List.getElem?_append_left hi]
      · rw [← Array.getElem?_toList, q3] at hv
        rcases List.mem_append.1 (List.mem_of_getElem? hv) with h2 | h2
        · rcases List.mem_append.1 h2 with h3 | h3
          · obtain ⟨j, hj, rfl⟩ := List.mem_iff_getElem.1 h3
            exact hod j _ (by rw [hcv j hj, List.getElem?_eq_getElem hj])
          · exact hno v h3
        · have h3 := List.mem_of_mem_drop h2
          obtain ⟨j, hj, rfl⟩ := List.mem_iff_getElem.1 h3
          exact hod j _ (by rw [← Array.getElem?_toList, List.getElem?_eq_getElem hj])
      · exact (setCells_far _ _ _ (by simpa using hne)).trans (Below.heap_alloc _ _ _ hk)
    · have hrun := run_append_grow (P := Tryd.prog) (W.alloc (.cells cs.toArray e)) t ty e i0 z ht hi hz0 ⟨g, 0, none⟩ n cap vs (by rw [hz1]; omega) (fun j u hj => by
          have hl := (List.getElem?_eq_some_iff.1 hj).1
          have h2 := hcv j hl
          rw [hj] at h2
          by_cases h0 : j = 0
          · subst h0
            simpa [Addr.add, World.cell?, hh1] using h2
          · simpa [Addr.add, h0, World.cell?, hh1] using h2) ⟨W.heap.size, 0, none⟩ 1 1 cs (by rw [hz1]; omega) hnews (by omega) (by omega) (hfit cap (by omega))
      have hge := grownCap_ge (W.alloc (.cells cs.toArray e)) (n + 1) cap e
      have hcm' : grownCap (W.alloc (.cells cs.toArray e)) (n + 1) cap e ≤ maxLen := grownCap_le_maxLen _ (n + 1) cap e (by simp only [maxLen]; omega)
      simp only [maxLen] at hcm'
      generalize grownCap (W.alloc (.cells cs.toArray e)) (n + 1) cap e = cap' at hrun hge hcm'
      refine ⟨_, cap', _, hrun, ?_⟩
      have hzs : (Builtin.zeroCells z.cells (cap' - (n + 1))).size = (cap' - (n + 1)) * sz := by simp [Builtin.zeroCells, hz]
      have e0 : vs.toArray ++ cs.toArray = (vs ++ cs).toArray := by simp
      rw [e0]
      have hvl2 : (vs ++ cs).length = (n + 1) * sz := by rw [List.length_append, hvl, hcs, Nat.succ_mul]
      refine hgrown _ cap' ?_ hvl2 (fun i hi => ?_) (fun i v hv => ?_) hge (by omega)
      · rw [Array.size_append, hzs, List.size_toArray, hvl2, Nat.sub_mul]
        have := Nat.mul_le_mul_right sz hge
        omega
      · rw [Array.getElem?_append_left (by simpa using hi), List.getElem?_toArray]
      · by_cases hil : i < (vs ++ cs).length
        · rw [Array.getElem?_append_left (by simpa using hil)] at hv
          rw [List.getElem?_toArray] at hv
          by_cases hil2 : i < vs.length
          · rw [List.getElem?_append_left hil2] at hv
            exact hod i v (by rw [hcv i hil2]; exact hv)
          · rw [List.getElem?_append_right (by omega)] at hv
            exact hno v (List.mem_of_getElem? hv)
        · rw [Array.getElem?_append_right (by simpa using hil)] at hv
          exact zero_noI hzn (by omega) _ _ _ hv
end Go.Proofs.YtenjldfflkinkaaDoor.Rop

namespace Go.Proofs.YtenjldfflkinkaaDoor.Rop
set_option linter.unusedVariables false
set_option linter.unusedSimpArgs false
open Go.RowKit Go.Proofs.YtenjldfflkinkaaDoor.F Go.Proofs.YtenjldfflkinkaaDoorW.PrintWords Go.Proofs.YtenjldfflkinkaaDoorW.PrintLast Go.Proofs.YtenjldfflkinkaaDoorW.PrintMore
set_option linter.unusedSectionVars false
variable [Coe Unit Nat]
theorem infoC : (Tryd.prog.info? 68).map (fun i => (i.zero, i.size, i.bytes)) = some (some (.agg #[.int .i64 0, .slice none 0 0, .slice none 0 0]), 3, 56) := by kernel_rfl
theorem zeroC_noI : ∀ v ∈ (Value.agg #[.int .i64 0, .slice none 0 0, .slice none 0 0]).cells.toList, NoI v := by
  intro v hv
  simp [Value.cells] at hv
  rcases hv with rfl | rfl
  · exact noI_64 0
  · exact noI_sl none 0 0
theorem chs_noI {p : Int} {A B : Option Addr} {n c m d : Nat} : ∀ v ∈ ([.int .i64 p, .slice A n c, .slice B m d] : List Value), NoI v := by
  intro v hv
  simp at hv
  rcases hv with rfl | rfl | rfl
  · exact noI_64 _
  · exact noI_sl _ _ _
  · exact noI_sl _ _ _
theorem chs_one {p : Int} {A B : Option Addr} {n c m d : Nat} : ∀ v ∈ ([.int .i64 p, .slice A n c, .slice B m d] : List Value), v.oneCell' = true := by
  intro v hv
  simp at hv
  rcases hv with rfl | rfl | rfl <;> rfl
/-- the cells of a change -/
def CV.cells (v : CV) : List Value := [.int .i64 v.p, .slice v.A v.n v.c, .slice v.B v.m v.d]
theorem rg_append {ops : Array Oper} {rest : List Oper} {o : Oper} {a : Act} {Q : Exit → Act → World → Prop} {W : World} {n cap : Nat} {A : Option Addr} {vs : List Value} (hg : o.guard = none) (s x : Operand)
    (hop : o.op = .call { callee := .builtin .append, args := #[s, x], argTypes := #[32, 32] }) (hs : a.eval s = .slice A n cap) (hx : a.eval x = .slice (some ⟨W.heap.size, 0, none⟩) 1 1) (hR : Rg W A 68 3 vs n cap) (hn : n ≤ 1000) (cv : CV)
    (h : ∀ A' cap' w1, Rg w1 A' 68 3 (vs ++ cv.cells) (n + 1) cap' → (∃ ad, A' = some ad ∧ (A = some ad ∨ W.heap.size ≤ ad.block)) → But W w1 A → wpList Tryd.prog ops Q rest (a.put o.dst (.slice A' (n + 1) cap')) w1) :
    wpList Tryd.prog ops Q (o :: rest) a (W.alloc (.cells #[.int .i64 cv.p, .slice cv.A cv.n cv.c, .slice cv.B cv.m cv.d] 68)) := by
  obtain ⟨A', cap', w1, hrun, h1, h2, h3⟩ := rg_run (ty := o.type) Tryd.underlying32 infoC rfl zeroC_noI (by decide) (by decide) hR hn (cs := cv.cells) rfl chs_noI chs_one
  refine wpList_plain hg fun K hK' => ?_
  unfold Oper.wp
  simp only [CV.cells] at hrun
  simp [execOp, hop, resolve, invoke, builtin, hs, hx, hrun, Result.andThen]
  exact hK' _ _ (h A' cap' w1 h1 h2 h3)
theorem rg_append_step {ops : Array Oper} {o : Oper} {a : Act} {Kc : Act → World → Prop} {Q : Exit → Act → World → Prop} {W : World} {n cap : Nat} {A : Option Addr} {vs : List Value} (hw : Region.wanted o (yielded ops a.tmps) = true) (s x : Operand)
    (hop : o.op = .call { callee := .builtin .append, args := #[s, x], argTypes := #[32, 32] }) (hs : a.eval s = .slice A n cap) (hx : a.eval x = .slice (some ⟨W.heap.size, 0, none⟩) 1 1) (hR : Rg W A 68 3 vs n cap) (hn : n ≤ 1000) (cv : CV)
    (h : ∀ A' cap' w1, Rg w1 A' 68 3 (vs ++ cv.cells) (n + 1) cap' → (∃ ad, A' = some ad ∧ (A = some ad ∨ W.heap.size ≤ ad.block)) → But W w1 A → Kc (a.put o.dst (.slice A' (n + 1) cap')) w1) :
    if Region.wanted o (yielded ops a.tmps) = true then Oper.wp Tryd.prog o a (W.alloc (.cells #[.int .i64 cv.p, .slice cv.A cv.n cv.c, .slice cv.B cv.m cv.d] 68)) Kc Q else Kc (a.put o.dst undef) (W.alloc (.cells #[.int .i64 cv.p, .slice cv.A cv.n cv.c, .slice cv.B cv.m cv.d] 68)) := by
  obtain ⟨A', cap', w1, hrun, h1, h2, h3⟩ := rg_run (ty := o.type) Tryd.underlying32 infoC rfl zeroC_noI (by decide) (by decide) hR hn (cs := cv.cells) rfl chs_noI chs_one
  rw [if_pos hw]
  unfold Oper.wp
  simp only [CV.cells] at hrun
  simp [execOp, hop, resolve, invoke, builtin, hs, hx, hrun, Result.andThen]
  exact h A' cap' w1 h1 h2 h3
/-- the cells of so many changes -/
def flat (vs : Nat → CV) : Nat → List Value
  | 0 => []
  | n + 1 => flat vs n ++ (vs n).cells
theorem flat_len (vs : Nat → CV) : ∀ n, (flat vs n).length = n * 3
  | 0 => rfl
  | n + 1 => by rw [flat, List.length_append, flat_len vs n]; simp [CV.cells]; omega
theorem flat_get (vs : Nat → CV) : ∀ (n i : Nat), i < n → (flat vs n)[i * 3]? = some (.int .i64 (vs i).p) ∧ (flat vs n)[i * 3 + 1]? = some (.slice (vs i).A (vs i).n (vs i).c) ∧ (flat vs n)[i * 3 + 2]? = some (.slice (vs i).B (vs i).m (vs i).d)
  | n + 1, i, h => by
    have hl := flat_len vs n
    by_cases hi : i < n
    · obtain ⟨h1, h2, h3⟩ := flat_get vs n i hi
      rw [flat, List.getElem?_append_left (by omega), List.getElem?_append_left (by omega), List.getElem?_append_left (by omega)]
      exact ⟨h1, h2, h3⟩
    · obtain rfl : i = n := by omega
      rw [flat, List.getElem?_append_right (by omega), List.getElem?_append_right (by omega), List.getElem?_append_right (by omega), hl, Nat.sub_self, show i * 3 + 1 - i * 3 = 1 by omega, show i * 3 + 2 - i * 3 = 2 by omega]
      exact ⟨rfl, rfl, rfl⟩
/-- one more value -/
def upd {α : Type} (f : Nat → α) (n : Nat) (v : α) : Nat → α := fun i => if i = n then v else f i
theorem upd_same {α : Type} (f : Nat → α) (n : Nat) (v : α) : upd f n v n = v := if_pos rfl
theorem upd_ne {α : Type} {f : Nat → α} {n i : Nat} {v : α} (h : i ≠ n) : upd f n v i = f i := if_neg h
theorem flat_upd (vs : Nat → CV) (v : CV) : ∀ (m n : Nat), m ≤ n → flat (upd vs n v) m = flat vs m
  | 0, _, _ => rfl
  | m + 1, n, h => by rw [flat, flat, flat_upd vs v m n (by omega), upd_ne (by omega)]
/-- changes in a row of one's own -/
structure Ro (W : World) (base : Nat) (A : Option Addr) (n c : Nat) (vs : Nat → CV) (xs : Nat → Ch) : Prop where
  row : Rg W A 68 3 (flat vs n) n c
  ch : ∀ i, i < n → ChV W (vs i).p (vs i).A (vs i).n (vs i).c (vs i).B (vs i).m (vs i).d (xs i)
  hb : ∀ ad, A = some ad → base ≤ ad.block
  sz : ∀ i, i < n → (vs i).n ≤ 5000 ∧ (vs i).m ≤ 5000
theorem Ro.below {W W' : World} {base n c : Nat} {A : Option Addr} {vs : Nat → CV} {xs : Nat → Ch} (h : Ro W base A n c vs xs) (hb : Below W.heap.size W W') : Ro W' base A n c vs xs := ⟨h.row.below hb, fun i hi => (h.ch i hi).below hb, h.hb, h.sz⟩
theorem Ro.empty (W : World) (base : Nat) (vs : Nat → CV) (xs : Nat → Ch) : Ro W base none 0 0 vs xs := ⟨.inl ⟨rfl, rfl, rfl, rfl⟩, fun i hi => by omega, fun ad h => (by cases h), fun i hi => by omega⟩
/-- read only -/
theorem Ro.rc {W : World} {base n c : Nat} {A : Option Addr} {vs : Nat → CV} {xs : Nat → Ch} (h : Ro W base A n c vs xs) : Rc W A n c vs xs := by
  rcases h.row with ⟨rfl, rfl, rfl, _⟩ | ⟨g, cur, rfl, h1, h2, h3, h4, h5, h6, h7⟩
  · exact ⟨fun i hi => by omega, Nat.le_refl _, by omega, fun _ => rfl, fun h => by omega⟩
  · refine ⟨fun i hi => ⟨_, rfl, ?_, ?_, ?_, h.ch i hi⟩, h6, h7, (fun e => by cases e), (fun _ ad e _ => ⟨cur, (by injection e with e; subst e; exact h1)⟩)⟩
    all_goals
      obtain ⟨f1, f2, f3⟩ := flat_get vs n i hi
      have hl := flat_len vs n
      have k1 := (h4 (i * 3) (by omega)).trans f1
      have k2 := (h4 (i * 3 + 1) (by omega)).trans f2
      have k3 := (h4 (i * 3 + 2) (by omega)).trans f3
    · by_cases h0 : i = 0
      · subst h0
        simpa [Addr.add, World.cell?, h1] using k1
      · have h0' : ¬ i * 3 = 0 := by omega
        simpa [Addr.add, h0', World.cell?, h1] using k1
    · by_cases h0 : i = 0
      · subst h0
        simpa [Addr.add, World.cell?, h1] using k2
      · have h0' : ¬ i * 3 = 0 := by omega
        simpa [Addr.add, h0', World.cell?, h1] using k2
    · by_cases h0 : i = 0
      · subst h0
        simpa [Addr.add, World.cell?, h1] using k3
      · have h0' : ¬ i * 3 = 0 := by omega
        simpa [Addr.add, h0', World.cell?, h1] using k3
/-- one more change -/
theorem Ro.more {W w1 : World} {base n c c' : Nat} {A A' : Option Addr} {vs : Nat → CV} {xs : Nat → Ch} (h : Ro W base A n c vs xs) (cv : CV) {x : Ch} (hx : ChV W cv.p cv.A cv.n cv.c cv.B cv.m cv.d x) (hsz : cv.n ≤ 5000 ∧ cv.m ≤ 5000) (hbase : base ≤ W.heap.size)
    (hR : Rg w1 A' 68 3 (flat vs n ++ cv.cells) (n + 1) c') (hA : ∃ ad, A' = some ad ∧ (A = some ad ∨ W.heap.size ≤ ad.block)) (hb : But W w1 A) : Ro w1 base A' (n + 1) c' (upd vs n cv) (upd xs n x) := by
  refine ⟨?_, fun i hi => ?_, fun ad e => ?_, fun i hi => ?_⟩
  · rw [flat, flat_upd vs cv n n (Nat.le_refl _), upd_same]
    exact hR
  · by_cases he : i = n
    · subst he
      rw [upd_same, upd_same]
      exact hx.but h.row hb
    · rw [upd_ne he, upd_ne he]
      exact (h.ch i (by omega)).but h.row hb
  · obtain ⟨ad', e', h1⟩ := hA
    rw [e'] at e
    injection e with e
    subst e
    rcases h1 with h1 | h1
    · exact h.hb _ h1
    · omega
  · by_cases he : i = n
    · subst he
      rw [upd_same]
      exact hsz
    · rw [upd_ne he]
      exact h.sz i (by omega)
theorem Ro.congr {W : World} {base n c : Nat} {A : Option Addr} {vs : Nat → CV} {xs xs' : Nat → Ch} (h : Ro W base A n c vs xs) (he : ∀ i, i < n → xs i = xs' i) : Ro W base A n c vs xs' := ⟨h.row, fun i hi => by rw [← he i hi]; exact h.ch i hi, h.hb, h.sz⟩
def GivesRo (n : Nat) (xs : Nat → Ch) (w : World) (e : Ending) (w' : World) : Prop := ∃ A c vs, e = .returned (.slice A n c) ∧ Ro w' w.heap.size A n c vs xs ∧ Below w.heap.size w w'
theorem But.below {W w1 : World} {A : Option Addr} {b : Nat} {w0 : World} (h : But W w1 A) (hA : ∀ ad, A = some ad → b ≤ ad.block) (hb : Below b w0 W) (hs : b ≤ W.heap.size) : Below b w0 w1 := h.2.2 b w0 hA hs hb
set_option maxRecDepth 100000 in
set_option maxHeartbeats 4000000 in
theorem copied_calls {w : World} {A : Option Addr} {n c : Nat} {vs : Nat → CV} {xs : Nat → Ch} (h : Rc w A n c vs xs) (hn : n ≤ 1000) (hv : ∀ i, i < n → (vs i).n ≤ 5000 ∧ (vs i).m ≤ 5000) : Calls Tryd.prog 19 #[.slice A n c] w (GivesRo n xs w) := by
  have H := Aside0.mk h
  have HV := Aside0.mk hv
  clear h hv
  go_enter Tryd.func19, Tryd.ntmps19
  go_wp2
  go_loopw [3, 8] (fun v3 v8 wr => ∃ (A' : Option Addr) (c' i : Nat) (vs' : Nat → CV), v3 = .slice A' i c' ∧ v8 = .int .i64 (i : Int) ∧ i ≤ n ∧ Aside0 (Ro wr w.heap.size A' i c' vs' xs) ∧ Aside0 (Below w.heap.size w wr)) (fun _ v8 _ => n - (intOf v8).toNat)
  case atStart => exact ⟨none, 0, 0, vs, rfl, rfl, Nat.zero_le _, ⟨Ro.empty _ _ _ _⟩, ⟨Below.refl _ _⟩⟩
  case round =>
    obtain ⟨A', c', i, vs', rfl, rfl, hi, HO, HB⟩ := hrel
    by_cases hlt : i < n
    · have hlt' : (i : Int) < (n : Int) := by omega
      obtain ⟨ad, rfl, hat⟩ := (H.out.below HB.out).at_ i hlt
      have hsz := HV.out i hlt
      have AT := Aside0.mk hat
      obtain ⟨x, hx⟩ : ∃ x, xs i = x := ⟨_, rfl⟩
      rw [hx] at AT hat
      have HX := Aside0.mk hx
      obtain ⟨k0, k1, k2, -⟩ := hat
      have hgk := AT.out.h.g.hn
      have hkk := AT.out.h.k.hn
      generalize vs i = cv at AT hsz k0 k1 k2 hgk hkk
      obtain ⟨p, A4, n4, c4, B4, m4, d4⟩ := cv
      dsimp only at hsz k0 k1 k2 hgk hkk
      have hA4 : ChV wr p A4 n4 c4 B4 m4 d4 x := AT.out.h
      have HA4 := Aside0.mk hA4
      have HSZ := Aside0.mk hsz
      have HGK := Aside0.mk (And.intro hgk hkk)
      clear hx hgk hkk hA4 AT
      go_wp2_with (first
        | (go_at_call 20; (with_reducible refine (Inverse_calls (HA4.out.below ((Below.refl _ _).alloc (Nat.le_refl _) _)) (by have := HSZ.out; omega) (by have := HSZ.out; omega)).mono ?_); rintro e W1 ⟨p2, A5, n5, c5, B5, m5, d5, rfl, hV, hb⟩; have V1 := Aside0.mk hV; have BT1 := Aside0.mk (below_step (w := wr) ((Below.refl _ _).alloc (Nat.le_refl _) _) hb); clear hV hb)
        | (go_at_call 20; (with_reducible refine (Inverse_calls V1.out (by have h1 := V1.out.g.hn; have h2 := HGK.out; have h3 := HSZ.out; simp only [Ch.inv] at h1; omega) (by have h1 := V1.out.k.hn; have h2 := HGK.out; have h3 := HSZ.out; simp only [Ch.inv] at h1; omega)).mono ?_); rintro e W2 ⟨p3, A6, n6, c6, B6, m6, d6, rfl, hV, hb⟩; have V2 : Aside0 (ChV W2 p3 A6 n6 c6 B6 m6 d6 x) := ⟨hV⟩; have BT2 := Aside0.mk (below_step BT1.out hb); have O2 := Aside0.mk (HO.out.below BT2.out); have BW2 := Aside0.mk (below_step HB.out BT2.out); clear hV hb)
        | ((with_reducible refine gate_dst (N := 17) rfl ?_); at_builtin; refine rg_append (W := W2) rfl (.tmp 12) (.tmp 16) rfl rfl rfl O2.out.row (by omega) ⟨p3, A6, n6, c6, B6, m6, d6⟩ ?_; intro A7 c7 w7 hR hA hBt; have O7 := Aside0.mk (O2.out.more ⟨p3, A6, n6, c6, B6, m6, d6⟩ V2.out (by have h1 := V2.out.g.hn; have h2 := V2.out.k.hn; have h3 := HGK.out; have h4 := HSZ.out; dsimp only; omega) BW2.out.size hR hA hBt); have BW7 := Aside0.mk (hBt.below (fun ad e => O2.out.hb ad e) BW2.out BW2.out.size); clear hR hA hBt))
      go_roundw
      case measure => simp [intOf]; omega
      case rel => exact ⟨A7, c7, i + 1, _, rfl, by go_num, by omega, ⟨O7.out.congr (fun j hj => by
          by_cases e : j = i
          · subst e; rw [upd_same]; exact HX.out.symm
          · rw [upd_ne e])⟩, BW7⟩
    · obtain rfl : i = n := by omega
      go_wp2
      go_ret
      exact ⟨A', c', vs', rfl, HO.out, HB.out⟩
end Go.Proofs.YtenjldfflkinkaaDoor.Rop

namespace Go.Proofs.YtenjldfflkinkaaDoor.Rop
set_option linter.unusedVariables false
set_option linter.unusedSimpArgs false
open Go.RowKit Go.Proofs.YtenjldfflkinkaaDoor.F Go.Proofs.YtenjldfflkinkaaDoorW.PrintWords Go.Proofs.YtenjldfflkinkaaDoorW.PrintLast Go.Proofs.YtenjldfflkinkaaDoorW.PrintMore
set_option linter.unusedSectionVars false
variable [Coe Unit Nat]
theorem step_ok {back : Bool} {t : List Int} {x : Ch} (h : (stepT back t x).isSome = true) : fitsB t (x.way back) = true ∧ (doneT t (x.way back)).length ≤ 4096 := by
  unfold stepT at h
  split at h
  · rename_i hc
    exact ⟨hc.1, hc.2.2.2⟩
  · cases h
theorem goes_head {back : Bool} {t : List Int} {n : Nat} {xs : Nat → Ch} (hn : 0 < n) (h : (goesT back t ((dn n (Nat.le_refl n)).map fun j => xs j.1)).isSome = true) : (stepT back t (xs (n - 1))).isSome = true := by
  obtain ⟨k, rfl⟩ : ∃ k, n = k + 1 := ⟨n - 1, by omega⟩
  simp only [dn, List.map_cons, goesT] at h
  have : k + 1 - 1 = k := by omega
  rw [this]
  cases hs : stepT back t (xs k) with
  | none => rw [hs] at h; cases h
  | some _ => rfl
/-- what an operation does fits -/
theorem eff_ok {v : SV} {s : SP} {W : World} {k a b : Int} {z : List Int} (hst : StOk W v s) (hz : z.length ≤ 5000) (h : (effE v s k a b z).2 = 0) :
    fitsB s.text (effE v s k a b z).1 = true ∧ (doneT s.text (effE v s k a b z).1).length ≤ 4096 ∧ (effE v s k a b z).1.gone.length ≤ 5000 ∧ (effE v s k a b z).1.came.length ≤ 5000 ∧ v.n ≤ 4096 ∧ v.n1 ≤ 16 ∧ v.n1 + v.n2 ≤ 16 ∧ (k = 3 → 0 < v.n1) ∧ (k = 4 → 0 < v.n2) := by
  have hn := hst.t.hn
  unfold effE at h ⊢
  by_cases hr : rightE v s ≠ 0
  · rw [if_pos hr] at h
    exact absurd h hr
  rw [if_neg hr] at h ⊢
  have hr : rightE v s = 0 := by omega
  have hb : v.n ≤ 4096 ∧ v.n1 ≤ 16 ∧ v.n1 + v.n2 ≤ 16 ∧ (goesT true s.text ((dn v.n1 (Nat.le_refl _)).map fun j => s.x1 j.1)).isSome = true ∧ (goesT false s.text ((dn v.n2 (Nat.le_refl _)).map fun j => s.x2 j.1)).isSome = true := by
    unfold rightE at hr
    by_cases h1 : 4096 < v.n ∨ 16 < v.n1 ∨ 16 < v.n1 + v.n2
    · rw [if_pos h1] at hr
      omega
    · rw [if_neg h1] at hr
      split at hr
      · omega
      · split at hr
        · omega
        · rename_i h3
          refine ⟨by omega, by omega, by omega, ?_, ?_⟩
          · cases hh : (goesT true s.text ((dn v.n1 (Nat.le_refl _)).map fun j => s.x1 j.1)).isSome
            · exact absurd (.inl hh) h3
            · rfl
          · cases hh : (goesT false s.text ((dn v.n2 (Nat.le_refl _)).map fun j => s.x2 j.1)).isSome
            · exact absurd (.inr hh) h3
            · rfl
  obtain ⟨b1, b2, b3, g1, g2⟩ := hb
  by_cases k1 : k = 1
  · rw [if_pos k1] at h ⊢
    unfold insE at h ⊢
    by_cases e1 : z.length = 0
    · rw [if_pos e1] at h; exact absurd h (by decide)
    rw [if_neg e1] at h ⊢
    by_cases e2 : z.all scl = false
    · rw [if_pos e2] at h; exact absurd h (by decide)
    rw [if_neg e2] at h ⊢
    by_cases e3 : a < 0 ∨ (s.text.length : Int) < a
    · rw [if_pos e3] at h; exact absurd h (by decide)
    rw [if_neg e3] at h ⊢
    by_cases e4 : 4096 < z.length + s.text.length
    · rw [if_pos e4] at h; exact absurd h (by decide)
    rw [if_neg e4]
    refine ⟨?_, ?_, by simp, hz, b1, b2, b3, fun e => by omega, fun e => by omega⟩
    · unfold fitsB
      exact decide_eq_true ⟨by dsimp only; omega, by simp; omega, by simp⟩
    · unfold doneT
      simp
      omega
  rw [if_neg k1] at h ⊢
  by_cases k2 : k = 2
  · rw [if_pos k2] at h ⊢
    unfold remE at h ⊢
    by_cases e1 : a < 0 ∨ (s.text.length : Int) < b ∨ b < a
    · rw [if_pos e1] at h; exact absurd h (by decide)
    rw [if_neg e1] at h ⊢
    by_cases e2 : a = b
    · rw [if_pos e2] at h; exact absurd h (by decide)
    rw [if_neg e2]
    have hl : ((s.text.drop a.toNat).take (b.toNat - a.toNat)).length = b.toNat - a.toNat := by simp; omega
    refine ⟨?_, ?_, by dsimp only; omega, by simp, b1, b2, b3, fun e => by omega, fun e => by omega⟩
    · unfold fitsB
      exact decide_eq_true ⟨by dsimp only; omega, by dsimp only; omega, by dsimp only; rw [hl]⟩
    · unfold doneT
      simp
      omega
  rw [if_neg k2] at h ⊢
  by_cases k3 : k = 3
  · rw [if_pos k3] at h ⊢
    by_cases e1 : 0 < v.n1
    · rw [if_pos e1]
      have h1 := step_ok (goes_head e1 g1)
      have h2 := hst.s1 (v.n1 - 1) (by omega)
      obtain ⟨ad, _, hat⟩ := hst.u.at_ (v.n1 - 1) (by omega)
      have h3 := hat.h.g.hn
      have h4 := hat.h.k.hn
      exact ⟨h1.1, h1.2, by show (s.x1 (v.n1 - 1)).came.length ≤ 5000; omega, by show (s.x1 (v.n1 - 1)).gone.length ≤ 5000; omega, b1, b2, b3, fun _ => e1, fun e => by omega⟩
    · rw [if_neg e1] at h; exact absurd h (by decide)
  rw [if_neg k3] at h ⊢
  by_cases k4 : k = 4
  · rw [if_pos k4] at h ⊢
    by_cases e1 : 0 < v.n2
    · rw [if_pos e1]
      have h1 := step_ok (goes_head e1 g2)
      have h2 := hst.s2 (v.n2 - 1) (by omega)
      obtain ⟨ad, _, hat⟩ := hst.r.at_ (v.n2 - 1) (by omega)
      have h3 := hat.h.g.hn
      have h4 := hat.h.k.hn
      exact ⟨h1.1, h1.2, by dsimp only; omega, by dsimp only; omega, b1, b2, b3, fun e => by omega, fun _ => e1⟩
    · rw [if_neg e1] at h; exact absurd h (by decide)
  rw [if_neg k4] at h
  exact absurd h (by decide)
/-! ### rows kept and cut -/
/-- the world but for one block -/
def Put1 (W W1 : World) (q : Nat) : Prop := W.heap.size ≤ W1.heap.size ∧ ∀ k, k < W.heap.size → k ≠ q → W1.heap[k]? = W.heap[k]?
theorem Rg.lt {W : World} {A : Option Addr} {t sz n cap : Nat} {vs : List Value} (h : Rg W A t sz vs n cap) {ad : Addr} (hA : A = some ad) : ad.block < W.heap.size := by
  rcases h with ⟨h1, _⟩ | ⟨g, cur, h1, h2, _⟩
  · rw [h1] at hA; cases hA
  · rw [h1] at hA
    injection hA with hA
    subst hA
    exact (Array.getElem?_eq_some_iff.1 h2).1
theorem Rg.keep {W W1 : World} {A : Option Addr} {t sz n cap : Nat} {vs : List Value} (h : Rg W A t sz vs n cap) (hk : ∀ ad, A = some ad → W1.heap[ad.block]? = W.heap[ad.block]?) : Rg W1 A t sz vs n cap := by
  rcases h with h | ⟨g, cur, h1, h2, h3⟩
  · exact .inl h
  · exact .inr ⟨g, cur, h1, (hk _ h1).trans h2, h3⟩
theorem Ro.put {W W1 : World} {base n c q : Nat} {A : Option Addr} {vs : Nat → CV} {xs : Nat → Ch} (h : Ro W base A n c vs xs) (hp : Put1 W W1 q) (hq : ∀ (a : Addr) (v : Value), a.block = q → W.cell? a = some v → NoI v) (hne : ∀ ad, A = some ad → ad.block ≠ q) : Ro W1 base A n c vs xs :=
  ⟨h.row.keep (fun ad e => hp.2 _ (h.row.lt e) (hne ad e)), fun i hi => (h.ch i hi).only hq hp.2, h.hb, h.sz⟩
theorem Ro.but {W W1 : World} {base n c base' n' c' : Nat} {A A' : Option Addr} {vs vs' : Nat → CV} {xs xs' : Nat → Ch} (h : Ro W base A n c vs xs) (h' : Ro W base' A' n' c' vs' xs') (hb : But W W1 A') (hne : ∀ ad ad', A = some ad → A' = some ad' → ad.block ≠ ad'.block) : Ro W1 base A n c vs xs :=
  ⟨h.row.keep (fun ad e => hb.2.1 _ (h.row.lt e) (fun e' => by
    obtain ⟨ad', h1, h2⟩ := Option.map_eq_some_iff.1 e'.symm
    exact hne ad ad' e h1 h2.symm)), fun i hi => (h.ch i hi).but h'.row hb, h.hb, h.sz⟩
theorem Rc.take {W : World} {A : Option Addr} {n c m : Nat} {vs : Nat → CV} {xs : Nat → Ch} (h : Rc W A n c vs xs) (hm : m ≤ n) : Rc W A m c vs xs := ⟨fun i hi => h.at_ i (by omega), by have := h.hc; omega, h.hm, h.h0, h.ty.less (by omega)⟩
theorem add_add3 (ad : Addr) (i : Nat) : (ad.add 3).add (i * 3) = ad.add ((i + 1) * 3) := by
  unfold Addr.add
  rw [if_neg (by omega : ¬ (3 = 0)), if_neg (by omega : ¬ (i + 1) * 3 = 0)]
  by_cases h : i * 3 = 0
  · rw [if_pos h]
    have : i = 0 := by omega
    subst this
    rfl
  · rw [if_neg h]
    dsimp only
    congr 1
    omega
theorem Rc.drop1 {W : World} {A : Option Addr} {n c : Nat} {vs : Nat → CV} {xs : Nat → Ch} (h : Rc W A (n + 1) c vs xs) : Rc W (if c = 1 then A else A.map (·.add (1 * 3))) n (c - 1) (fun i => vs (i + 1)) (fun i => xs (i + 1)) := by
  have hc := h.hc
  refine ⟨fun i hi => ?_, by omega, by have := h.hm; omega, fun e => ?_, by split; exact h.ty.less (by omega); exact h.ty.cut (by omega)⟩
  · obtain ⟨ad, hA, hat⟩ := h.at_ (i + 1) (by omega)
    rw [if_neg (by omega), hA]
    refine ⟨ad.add 3, rfl, ?_⟩
    exact ⟨by rw [add_add3]; exact hat.c0, by rw [add_add3]; exact hat.c1, by rw [add_add3]; exact hat.c2, hat.h⟩
  · by_cases h1 : c = 1
    · omega
    · rw [if_neg h1] at e
      cases hA : A with
      | none => have := h.h0 hA; omega
      | some ad => rw [hA] at e; cases e
theorem run_ctake {A : Option Addr} {n c x : Nat} (h : x ≤ n) (hc : n ≤ c) (W : World) : (Instr.slice 32 (.slice A n c) none (some (.int .i64 (x : Int))) none).run Tryd.prog W = .ok (.slice A x c) W := by
  obtain ⟨i0, hi, hz0, hz1, hz2⟩ := info_parts infoC
  have := cut_to 32 68 .i64 Tryd.underlying32 hi A n c (x : Int) (by omega) (by omega) hc W
  rw [this, Int.toNat_natCast]
theorem run_cdrop1 {A : Option Addr} {n c : Nat} (h : 1 ≤ n) (W : World) : (Instr.slice 32 (.slice A n c) (some (.int .i64 1)) none none).run Tryd.prog W = .ok (.slice (if c = 1 then A else A.map (·.add (1 * 3))) (n - 1) (c - 1)) W := by
  obtain ⟨i0, hi, hz0, hz1, hz2⟩ := info_parts infoC
  have := cut_from 32 68 .i64 Tryd.underlying32 hi 3 hz1 A n c 1 (by omega) (by omega) W
  rw [this]
  rfl
end Go.Proofs.YtenjldfflkinkaaDoor.Rop

namespace Go.Proofs.YtenjldfflkinkaaDoor.Rop
set_option linter.unusedVariables false
set_option linter.unusedSimpArgs false
open Go.RowKit Go.Proofs.YtenjldfflkinkaaDoor.F Go.Proofs.YtenjldfflkinkaaDoorW.PrintWords Go.Proofs.YtenjldfflkinkaaDoorW.PrintLast Go.Proofs.YtenjldfflkinkaaDoorW.PrintMore
set_option linter.unusedSectionVars false
variable [Coe Unit Nat]
theorem add_blk (a : Addr) (k : Nat) : (a.add k).block = a.block := by
  unfold Addr.add
  split <;> rfl
theorem cell_same {W W1 : World} {a : Addr} (h : W1.heap[a.block]? = W.heap[a.block]?) : W1.cell? a = W.cell? a := by simp only [World.cell?, h]
theorem Put1.cell {W W1 : World} {q : Nat} (hp : Put1 W W1 q) {a : Addr} {v : Value} (h : W.cell? a = some v) (hne : a.block ≠ q) : W1.cell? a = some v := (cell_same (hp.2 _ (World.block_lt_of_cell? W _ h) hne)).trans h
theorem ChAt.put {W W1 : World} {ad : Addr} {i q : Nat} {v : CV} {x : Ch} (h : ChAt W ad i v x) (hp : Put1 W W1 q) (hq : ∀ (a : Addr) (v : Value), a.block = q → W.cell? a = some v → NoI v) (hne : ad.block ≠ q) : ChAt W1 ad i v x :=
  ⟨hp.cell h.c0 (by rw [add_blk]; exact hne), hp.cell h.c1 (by dsimp only; rw [add_blk]; exact hne), hp.cell h.c2 (by dsimp only; rw [add_blk]; exact hne), h.h.only hq hp.2⟩
theorem Rc.put {W W1 : World} {n c q : Nat} {A : Option Addr} {vs : Nat → CV} {xs : Nat → Ch} (h : Rc W A n c vs xs) (hp : Put1 W W1 q) (hq : ∀ (a : Addr) (v : Value), a.block = q → W.cell? a = some v → NoI v) (hne : ∀ ad, A = some ad → ad.block ≠ q) : Rc W1 A n c vs xs :=
  ⟨fun i hi => by
    obtain ⟨ad, hA, hat⟩ := h.at_ i hi
    exact ⟨ad, hA, hat.put hp hq (hne ad hA)⟩, h.hc, h.hm, h.h0, h.ty.heap fun ad _ hA hlt => hp.2 _ hlt (hne ad hA)⟩
theorem Put1.one (W : World) (q o : Nat) (u : Value) : Put1 W (W.setCell ⟨q, o, none⟩ u) q := ⟨by simp, fun k _ hk => Below.heap_setCell W ⟨q, o, none⟩ u k hk⟩
theorem Put1.three (W : World) (q : Nat) (a b c : Value) : Put1 W (((W.setCell ⟨q, 0, none⟩ a).setCell ⟨q, 1, none⟩ b).setCell ⟨q, 2, none⟩ c) q := ⟨by simp, fun k _ hk => set3_far hk⟩
theorem set_blk {W : World} {q t i : Nat} {cur : Array Value} {u : Value} (h : W.heap[q]? = some (.cells cur t (0, 0))) : (W.setCell ⟨q, i, none⟩ u).heap[q]? = some (.cells (cur.setIfInBounds i u) t (0, 0)) := by
  have hl := (Array.getElem?_eq_some_iff.1 h).1
  simp [World.setCell, Array.getElem?_modify, h]
/-- the three cells of a state -/
def C3 (W : World) (q : Nat) (a b c : Value) : Prop := W.heap[q]? = some (.cells #[a, b, c] 34 (0, 0))
theorem C3.set0 {W : World} {q : Nat} {a b c : Value} (h : C3 W q a b c) (u : Value) : C3 (W.setCell ⟨q, 0, none⟩ u) q u b c := set_blk h
theorem C3.set1 {W : World} {q : Nat} {a b c : Value} (h : C3 W q a b c) (u : Value) : C3 (W.setCell ⟨q, 1, none⟩ u) q a u c := set_blk h
theorem C3.set2 {W : World} {q : Nat} {a b c : Value} (h : C3 W q a b c) (u : Value) : C3 (W.setCell ⟨q, 2, none⟩ u) q a b u := set_blk h
theorem C3.below {W W' : World} {q : Nat} {a b c : Value} (h : C3 W q a b c) (hb : Below W.heap.size W W') : C3 W' q a b c := (hb.block _ (Array.getElem?_eq_some_iff.1 h).1).trans h
theorem C3.but {W W1 : World} {q n cap : Nat} {a b c : Value} {A : Option Addr} {vs : List Value} (h : C3 W q a b c) (hR : Rg W A 68 3 vs n cap) (hb : But W W1 A) : C3 W1 q a b c :=
  (hb.2.1 q (Array.getElem?_eq_some_iff.1 h).1 (fun e => by
    obtain ⟨ad, h1, h2⟩ := Option.map_eq_some_iff.1 e.symm
    rcases hR with ⟨h3, _⟩ | ⟨g, cu, h3, h4, _⟩
    · rw [h3] at h1; cases h1
    · rw [h3] at h1
      injection h1 with h1
      subst h1
      dsimp only at h2
      subst h2
      rw [C3, h4] at h
      injection h with h
      injection h with _ h5
      exact absurd h5 (by decide))).trans h
theorem C3.noI {W : World} {q : Nat} {A B C : Option Addr} {x y z x' y' z' : Nat} (h : C3 W q (.slice A x x') (.slice B y y') (.slice C z z')) : ∀ (a : Addr) (v : Value), a.block = q → W.cell? a = some v → NoI v := by
  intro a v ha hc
  refine blk_noI h (fun i v h => ?_) a v ha hc
  match i with
  | 0 => simp at h; subst h; exact noI_sl _ _ _
  | 1 => simp at h; subst h; exact noI_sl _ _ _
  | 2 => simp at h; subst h; exact noI_sl _ _ _
  | i + 3 => simp at h
theorem C3.rows {W : World} {q n cap : Nat} {a b c : Value} {A : Option Addr} {vs : List Value} (h : C3 W q a b c) (hR : Rg W A 68 3 vs n cap) : ∀ ad, A = some ad → ad.block ≠ q := by
  intro ad hA e
  rcases hR with ⟨h1, _⟩ | ⟨g, cu, h1, h2, _⟩
  · rw [h1] at hA; cases hA
  · rw [h1] at hA
    injection hA with hA
    subst hA
    dsimp only at e
    subst e
    rw [C3, h2] at h
    injection h with h
    injection h with _ h5
    exact absurd h5 (by decide)
theorem Ro.mono {W : World} {base b' n c : Nat} {A : Option Addr} {vs : Nat → CV} {xs : Nat → Ch} (h : Ro W base A n c vs xs) (hb : b' ≤ base) : Ro W b' A n c vs xs := ⟨h.row, h.ch, fun ad e => Nat.le_trans hb (h.hb ad e), h.sz⟩
/-- two rows of their own -/
def Apt (A B : Option Addr) : Prop := ∀ ad ad', A = some ad → B = some ad' → ad.block ≠ ad'.block
theorem Ro.apt {W W' : World} {b n c b' n' c' : Nat} {A A' : Option Addr} {vs vs' : Nat → CV} {xs xs' : Nat → Ch} (h : Ro W b A n c vs xs) (h' : Ro W' b' A' n' c' vs' xs') (hb : W.heap.size ≤ b') : Apt A A' := fun ad ad' h1 h2 => by
  have e1 := h.row.lt h1
  have e2 := h'.hb ad' h2
  omega
/-- the new state's parts behind the copies -/
structure At4 (D W : World) (text : List Int) (n1 n2 : Nat) (x1 x2 : Nat → Ch) (A : Option Addr) (n c : Nat) (A1 : Option Addr) (c1 : Nat) (v1 : Nat → CV) (A2 : Option Addr) (c2 : Nat) (v2 : Nat → CV) : Prop where
  b : Below D.heap.size D W
  t : Sl W A n c text
  u : Ro W D.heap.size A1 n1 c1 v1 x1
  r : Ro W D.heap.size A2 n2 c2 v2 x2
  ap : Apt A1 A2
/-- what the four orders leave: the values of the three calls and the new block -/
def J4 (D : World) (text : List Int) (n1 n2 : Nat) (x1 x2 : Nat → Ch) (s : Value × Value × Value × Nat) (W : World) : Prop := ∃ A n c A1 c1 v1 A2 c2 v2, s.1 = .slice A n c ∧ s.2.1 = .slice A1 n1 c1 ∧ s.2.2.1 = .slice A2 n2 c2 ∧ At4 D W text n1 n2 x1 x2 A n c A1 c1 v1 A2 c2 v2 ∧ D.heap.size ≤ s.2.2.2 ∧ C3 W s.2.2.2 (.slice none 0 0) (.slice none 0 0) (.slice none 0 0)
theorem StOk.put {W W1 : World} {q : Nat} {v : SV} {s : SP} (h : StOk W v s) (hp : Put1 W W1 q) (hq : ∀ (a : Addr) (v : Value), a.block = q → W.cell? a = some v → NoI v) (h1 : ∀ ad, v.A1 = some ad → ad.block ≠ q) (h2 : ∀ ad, v.A2 = some ad → ad.block ≠ q) : StOk W1 v s :=
  ⟨h.t.only hq hp.2, h.u.put hp hq h1, h.r.put hp hq h2, h.bn, h.b1, h.b2, h.s1, h.s2⟩
theorem C3.far {W : World} {q o i : Nat} {a b c u : Value} (h : C3 W q a b c) (hne : q ≠ o) : C3 (W.setCell ⟨o, i, none⟩ u) q a b c := (Below.heap_setCell W ⟨o, i, none⟩ u q hne).trans h
theorem Ro.far {W : World} {base n c q i : Nat} {A : Option Addr} {vs : Nat → CV} {xs : Nat → Ch} {A0 B0 D0 : Option Addr} {x y z x' y' z' : Nat} (h : Ro W base A n c vs xs) (hC : C3 W q (.slice A0 x x') (.slice B0 y y') (.slice D0 z z')) (u : Value) : Ro (W.setCell ⟨q, i, none⟩ u) base A n c vs xs := h.put (Put1.one W q i u) hC.noI (hC.rows h.row)
theorem Sl.far {W : World} {n c q i : Nat} {A : Option Addr} {l : List Int} {A0 B0 D0 : Option Addr} {x y z x' y' z' : Nat} (h : Sl W A n c l) (hC : C3 W q (.slice A0 x x') (.slice B0 y y') (.slice D0 z z')) (u : Value) : Sl (W.setCell ⟨q, i, none⟩ u) A n c l := h.only hC.noI (Put1.one W q i u).2
/-- all that is known of the world while Apply changes its new state: D the world ahead of the copies, q the state, r the result -/
structure Ap (D W : World) (q r : Nat) (t : List Int) (A : Option Addr) (n c : Nat) (A1 : Option Addr) (n1 c1 : Nat) (v1 : Nat → CV) (x1 : Nat → Ch) (A2 : Option Addr) (n2 c2 : Nat) (v2 : Nat → CV) (x2 : Nat → Ch) : Prop where
  b : Below D.heap.size D W
  t : Sl W A n c t
  u : Ro W D.heap.size A1 n1 c1 v1 x1
  rr : Ro W D.heap.size A2 n2 c2 v2 x2
  ap : Apt A1 A2
  cq : C3 W q (.slice A n c) (.slice A1 n1 c1) (.slice A2 n2 c2)
  cr : C3 W r (.slice none 0 0) (.slice none 0 0) (.slice none 0 0)
  gq : D.heap.size ≤ q
  gr : r < D.heap.size
theorem Ap.below {D W W' : World} {q r : Nat} {t : List Int} {A : Option Addr} {n c : Nat} {A1 : Option Addr} {n1 c1 : Nat} {v1 : Nat → CV} {x1 : Nat → Ch} {A2 : Option Addr} {n2 c2 : Nat} {v2 : Nat → CV} {x2 : Nat → Ch} (h : Ap D W q r t A n c A1 n1 c1 v1 x1 A2 n2 c2 v2 x2) (hb : Below W.heap.size W W') : Ap D W' q r t A n c A1 n1 c1 v1 x1 A2 n2 c2 v2 x2 :=
  ⟨below_step h.b hb, h.t.below hb, h.u.below hb, h.rr.below hb, h.ap, h.cq.below hb, h.cr.below hb, h.gq, h.gr⟩
/-- the redo row grown by one, and both slices written: undo cut to its first m -/
theorem Ap.push2 {D W W1 : World} {q r : Nat} {t : List Int} {A : Option Addr} {n c : Nat} {A1 : Option Addr} {n1 c1 : Nat} {v1 : Nat → CV} {x1 : Nat → Ch} {A2 : Option Addr} {n2 c2 : Nat} {v2 : Nat → CV} {x2 : Nat → Ch} (h : Ap D W q r t A n c A1 n1 c1 v1 x1 A2 n2 c2 v2 x2) (cv : CV) {x : Ch} (hx : ChV W cv.p cv.A cv.n cv.c cv.B cv.m cv.d x) (hsz : cv.n ≤ 5000 ∧ cv.m ≤ 5000)
    {A' : Option Addr} {c' : Nat} (hR : Rg W1 A' 68 3 (flat v2 n2 ++ cv.cells) (n2 + 1) c') (hA : ∃ ad, A' = some ad ∧ (A2 = some ad ∨ W.heap.size ≤ ad.block)) (hb : But W W1 A2) :
    Below D.heap.size D W1 ∧ Sl W1 A n c t ∧ Ro W1 D.heap.size A1 n1 c1 v1 x1 ∧ Ro W1 D.heap.size A' (n2 + 1) c' (upd v2 n2 cv) (upd x2 n2 x) ∧ C3 W1 q (.slice A n c) (.slice A1 n1 c1) (.slice A2 n2 c2) ∧ C3 W1 r (.slice none 0 0) (.slice none 0 0) (.slice none 0 0) :=
  ⟨hb.below h.rr.hb h.b h.b.size, h.t.but h.rr.row hb, h.u.but h.rr hb h.ap, h.rr.more cv hx hsz h.b.size hR hA hb, h.cq.but h.rr.row hb, h.cr.but h.rr.row hb⟩
theorem Ap.push1 {D W W1 : World} {q r : Nat} {t : List Int} {A : Option Addr} {n c : Nat} {A1 : Option Addr} {n1 c1 : Nat} {v1 : Nat → CV} {x1 : Nat → Ch} {A2 : Option Addr} {n2 c2 : Nat} {v2 : Nat → CV} {x2 : Nat → Ch} (h : Ap D W q r t A n c A1 n1 c1 v1 x1 A2 n2 c2 v2 x2) (cv : CV) {x : Ch} (hx : ChV W cv.p cv.A cv.n cv.c cv.B cv.m cv.d x) (hsz : cv.n ≤ 5000 ∧ cv.m ≤ 5000)
    {A' : Option Addr} {c' : Nat} (hR : Rg W1 A' 68 3 (flat v1 n1 ++ cv.cells) (n1 + 1) c') (hA : ∃ ad, A' = some ad ∧ (A1 = some ad ∨ W.heap.size ≤ ad.block)) (hb : But W W1 A1) :
    Below D.heap.size D W1 ∧ Sl W1 A n c t ∧ Ro W1 D.heap.size A' (n1 + 1) c' (upd v1 n1 cv) (upd x1 n1 x) ∧ Ro W1 D.heap.size A2 n2 c2 v2 x2 ∧ C3 W1 q (.slice A n c) (.slice A1 n1 c1) (.slice A2 n2 c2) ∧ C3 W1 r (.slice none 0 0) (.slice none 0 0) (.slice none 0 0) :=
  ⟨hb.below h.u.hb h.b h.b.size, h.t.but h.u.row hb, h.u.more cv hx hsz h.b.size hR hA hb, h.rr.but h.u hb (fun ad ad' e1 e2 e3 => h.ap ad' ad e2 e1 e3.symm), h.cq.but h.u.row hb, h.cr.but h.u.row hb⟩
/-- the end: both slices written -/
structure En (w W : World) (q r : Nat) (t : List Int) (A : Option Addr) (n c : Nat) (A1 : Option Addr) (n1 c1 : Nat) (A2 : Option Addr) (n2 c2 : Nat) (x1 x2 : Nat → Ch) : Prop where
  b : Below w.heap.size w W
  cq : C3 W q (.slice A n c) (.slice A1 n1 c1) (.slice A2 n2 c2)
  cr : C3 W r (.slice none 0 0) (.slice none 0 0) (.slice none 0 0)
  ok : ∃ v1 v2, StOk W ⟨A, n, c, A1, n1, c1, A2, n2, c2, v1, v2⟩ ⟨t, x1, x2⟩
  e1 : ∀ ad, A1 = some ad → ad.block ≠ r
  e2 : ∀ ad, A2 = some ad → ad.block ≠ r
/-- two cells written behind a push -/
theorem en_of {w D W : World} {q r : Nat} {t : List Int} {A : Option Addr} {n c : Nat} {A1 : Option Addr} {n1 c1 : Nat} {v1 : Nat → CV} {x1 : Nat → Ch} {A2 : Option Addr} {n2 c2 : Nat} {v2 : Nat → CV} {x2 : Nat → Ch} {B1 B2 : Option Addr} {y1 z1 y2 z2 : Nat} {m1 m2 : Nat} (hw : Below w.heap.size w D) (gq : D.heap.size ≤ q) (gr : r < D.heap.size)
    (hb : Below D.heap.size D W) (ht : Sl W A n c t) (hu : Ro W D.heap.size A1 n1 c1 v1 x1) (hr : Ro W D.heap.size A2 n2 c2 v2 x2) (cq : C3 W q (.slice A n c) (.slice B1 y1 z1) (.slice B2 y2 z2)) (cr : C3 W r (.slice none 0 0) (.slice none 0 0) (.slice none 0 0))
    (h1 : m1 ≤ n1) (h2 : m2 ≤ n2) (hn : n ≤ 5000) (hn1 : n1 ≤ 1000) (hn2 : n2 ≤ 1000) : En w ((W.setCell ⟨q, 1, none⟩ (.slice A1 m1 c1)).setCell ⟨q, 2, none⟩ (.slice A2 m2 c2)) q r t A n c A1 m1 c1 A2 m2 c2 x1 x2 := by
  have k1 := cq.set1 (.slice A1 m1 c1)
  have hne : r ≠ q := by omega
  refine ⟨below_step hw ((hb.setCell (p := ⟨q, 1, none⟩) gq _).setCell (p := ⟨q, 2, none⟩) gq _), k1.set2 _, (cr.far hne).far hne, ⟨v1, v2, ⟨(ht.far cq _).far k1 _, ((hu.far cq _).far k1 _).rc.take h1, ((hr.far cq _).far k1 _).rc.take h2, hn, by dsimp only; omega, by dsimp only; omega, fun i hi => hu.sz i (by dsimp only at hi; omega), fun i hi => hr.sz i (by dsimp only at hi; omega)⟩⟩, fun ad e => ?_, fun ad e => ?_⟩
  · have := hu.hb ad e; omega
  · have := hr.hb ad e; omega
theorem But.cell {W W1 : World} {A : Option Addr} {a : Addr} {v : Value} (hb : But W W1 A) (h : W.cell? a = some v) (hne : ∀ ad, A = some ad → a.block ≠ ad.block) : W1.cell? a = some v :=
  (cell_same (hb.2.1 _ (World.block_lt_of_cell? W _ h) (fun e => by
    obtain ⟨ad, h1, h2⟩ := Option.map_eq_some_iff.1 e.symm
    exact hne ad h1 h2.symm))).trans h
theorem En.drop {w W : World} {q r : Nat} {t : List Int} {A : Option Addr} {n c : Nat} {A1 : Option Addr} {n1 c1 : Nat} {A2 : Option Addr} {n2 c2 : Nat} {x1 x2 : Nat → Ch} (h : En w W q r t A n c A1 (n1 + 1) c1 A2 n2 c2 x1 x2) (gq : w.heap.size ≤ q) (hqr : r ≠ q) (e3 : ∀ ad, A1 = some ad → ad.block ≠ q) (e4 : ∀ ad, A2 = some ad → ad.block ≠ q) :
    En w (W.setCell ⟨q, 1, none⟩ (.slice (if c1 = 1 then A1 else A1.map (·.add (1 * 3))) n1 (c1 - 1))) q r t A n c (if c1 = 1 then A1 else A1.map (·.add (1 * 3))) n1 (c1 - 1) A2 n2 c2 (fun i => x1 (i + 1)) x2 := by
  obtain ⟨v1, v2, ok⟩ := h.ok
  refine ⟨h.b.setCell (p := ⟨q, 1, none⟩) gq _, h.cq.set1 _, h.cr.far hqr, ?_, fun ad e => ?_, h.e2⟩
  · have k := ok.put (Put1.one W q 1 (.slice (if c1 = 1 then A1 else A1.map (·.add (1 * 3))) n1 (c1 - 1))) h.cq.noI e3 e4
    exact ⟨fun i => v1 (i + 1), v2, ⟨k.t, k.u.drop1, k.r, k.bn, by have := k.b1; dsimp only at this ⊢; omega, k.b2, fun i hi => k.s1 (i + 1) (by dsimp only at hi ⊢; omega), k.s2⟩⟩
  · by_cases h1 : c1 = 1
    · rw [if_pos h1] at e
      exact h.e1 ad e
    · rw [if_neg h1] at e
      obtain ⟨ad', h2, rfl⟩ := Option.map_eq_some_iff.1 e
      rw [add_blk]
      exact h.e1 ad' h2
end Go.Proofs.YtenjldfflkinkaaDoor.Rop

namespace Go.Proofs.YtenjldfflkinkaaDoor.Rop
set_option linter.unusedVariables false
set_option linter.unusedSimpArgs false
open Go.RowKit Go.Proofs.YtenjldfflkinkaaDoor.F Go.Proofs.YtenjldfflkinkaaDoorW.PrintWords Go.Proofs.YtenjldfflkinkaaDoorW.PrintLast Go.Proofs.YtenjldfflkinkaaDoorW.PrintMore
set_option linter.unusedSectionVars false
variable [Coe Unit Nat]
/-- the rows of changes behind an operation -/
def Nxt (v : SV) (s : SP) (k : Int) (x : Ch) (n1 : Nat) (x1 : Nat → Ch) (n2 : Nat) (x2 : Nat → Ch) : Prop :=
  ((k = 1 ∨ k = 2) ∧ n2 = 0 ∧ ((v.n1 + 1 ≤ 16 ∧ n1 = v.n1 + 1 ∧ x1 = upd s.x1 v.n1 x) ∨ (n1 = v.n1 ∧ 16 < v.n1 + 1 ∧ x1 = fun i => upd s.x1 v.n1 x (i + 1)))) ∨
  (k = 3 ∧ v.n1 = n1 + 1 ∧ x1 = s.x1 ∧ n2 = v.n2 + 1 ∧ x2 = upd s.x2 v.n2 x.inv) ∨
  (k = 4 ∧ v.n2 = n2 + 1 ∧ x2 = s.x2 ∧ n1 = v.n1 + 1 ∧ x1 = upd s.x1 v.n1 x)
/-- what Apply tells: the error of Effect; where there is none, a state with the text behind the change -/
def GivesSt (v : SV) (s : SP) (k : Int) (x : Ch) (q : Int) (w : World) (e : Ending) (w' : World) : Prop := ∃ A n c A1 n1 c1 A2 n2 c2, e = .returned (.tuple #[.agg #[.slice A n c, .slice A1 n1 c1, .slice A2 n2 c2], .int .i64 q]) ∧ Below w.heap.size w w' ∧
  (q = 0 → ∃ v1 v2 x1 x2, StOk w' ⟨A, n, c, A1, n1, c1, A2, n2, c2, v1, v2⟩ ⟨doneT s.text x, x1, x2⟩ ∧ n1 ≤ 17 ∧ n2 ≤ 17 ∧ n ≤ 4096 ∧ Nxt v s k x n1 x1 n2 x2)
section
variable {w : World} {v : SV} {s : SP} {Az : Option Addr} {nz cz : Nat} {z : List Int} {k a b : Int}

set_option maxRecDepth 100000 in
set_option maxHeartbeats 8000000 in
theorem Apply_calls (h : StOk w v s) (hz : Sl w Az nz cz z) (hnz : nz ≤ 5000) : Calls Tryd.prog 6 #[v.val, .agg #[.int .i64 k, .int .i64 a, .int .i64 b, .slice Az nz cz]] w (GivesSt v s k (effE v s k a b z).1 (effE v s k a b z).2 w) := by
  have hok := eff_ok (k := k) (a := a) (b := b) (z := z) h (by rw [hz.hn]; exact hnz)
  have CE := Aside0.mk (fun W (hW : Below w.heap.size w W) => Effect_calls (k := k) (a := a) (b := b) (h.below hW) (hz.below hW) hnz)
  obtain ⟨x, q, hxq⟩ : ∃ x q, effE v s k a b z = (x, q) := ⟨_, _, rfl⟩
  have hk2 : q = 0 → k = 1 ∨ k = 2 ∨ k = 3 ∨ k = 4 := by
    intro hq
    have h1 : (effE v s k a b z).2 = 0 := by rw [hxq]; exact hq
    unfold effE at h1
    by_cases hr : rightE v s ≠ 0
    · rw [if_pos hr] at h1
      exact absurd h1 hr
    rw [if_neg hr] at h1
    by_cases e1 : k = 1
    · exact .inl e1
    rw [if_neg e1] at h1
    by_cases e2 : k = 2
    · exact .inr (.inl e2)
    rw [if_neg e2] at h1
    by_cases e3 : k = 3
    · exact .inr (.inr (.inl e3))
    rw [if_neg e3] at h1
    by_cases e4 : k = 4
    · exact .inr (.inr (.inr e4))
    rw [if_neg e4] at h1
    exact absurd h1 (by decide)
  rw [hxq] at hok CE ⊢
  obtain ⟨A, n, c, A1, n1, c1, A2, n2, c2, v1, v2⟩ := v
  dsimp only [SV.val] at CE hok ⊢
  have HS := Aside0.mk h
  have bn := h.bn
  have b1 := h.b1
  have b2 := h.b2
  dsimp only at bn b1 b2
  have OK := Aside0.mk hok
  have K2 := Aside0.mk hk2
  clear h hz hok hk2 hxq
  go_enter Tryd.func6, Tryd.ntmps6
  go_upto_region 1 with (fail)
  obtain ⟨D1, hD1⟩ : ∃ D1, w.alloc (Obj.cells #[Value.slice A n c, Value.slice A1 n1 c1, Value.slice A2 n2 c2] 34) = D1 := ⟨_, rfl⟩
  have m0 : D1.cell? ⟨w.heap.size, 0, none⟩ = some (.slice A n c) := by rw [← hD1, new_cell]; rfl
  have m1 : D1.cell? ⟨w.heap.size, 1, none⟩ = some (.slice A1 n1 c1) := by rw [← hD1, new_cell]; rfl
  have m2 : D1.cell? ⟨w.heap.size, 2, none⟩ = some (.slice A2 n2 c2) := by rw [← hD1, new_cell]; rfl
  have hz1 : D1.heap.size = w.heap.size + 1 := by rw [← hD1]; simp
  have hb1 : Below w.heap.size w D1 := by rw [← hD1]; exact (Below.refl _ _).alloc (Nat.le_refl _) _
  rw [hD1]
  obtain ⟨D2, hD2⟩ : ∃ D2, D1.alloc (Obj.cells #[Value.int IntKind.i64 k, Value.int IntKind.i64 a, Value.int IntKind.i64 b, Value.slice Az nz cz] 37) = D2 := ⟨_, rfl⟩
  have o0 : D2.cell? ⟨D1.heap.size, 0, none⟩ = some (.int .i64 k) := by rw [← hD2, new_cell]; rfl
  have o1 : D2.cell? ⟨D1.heap.size, 1, none⟩ = some (.int .i64 a) := by rw [← hD2, new_cell]; rfl
  have o2 : D2.cell? ⟨D1.heap.size, 2, none⟩ = some (.int .i64 b) := by rw [← hD2, new_cell]; rfl
  have o3 : D2.cell? ⟨D1.heap.size, 3, none⟩ = some (.slice Az nz cz) := by rw [← hD2, new_cell]; rfl
  have hz2 : D2.heap.size = w.heap.size + 2 := by rw [← hD2, World.size_alloc, hz1]
  have hb2 : Below D1.heap.size D1 D2 := by rw [← hD2]; exact (Below.refl _ _).alloc (Nat.le_refl _) _
  rw [hD2]
  obtain ⟨D3, hD3⟩ : ∃ D3, D2.alloc (Obj.cells #[Value.slice none 0 0, Value.slice none 0 0, Value.slice none 0 0] 34) = D3 := ⟨_, rfl⟩
  have hb3 : Below D2.heap.size D2 D3 := by rw [← hD3]; exact (Below.refl _ _).alloc (Nat.le_refl _) _
  have zr : D3.heap[w.heap.size + 1 + 1]? = some (.cells #[Value.slice none 0 0, Value.slice none 0 0, Value.slice none 0 0] 34 (0, 0)) := by rw [← hD3, show w.heap.size + 1 + 1 = D2.heap.size from by omega]; exact World.alloc_heap_new D2 _
  have hz3 : D3.heap.size = w.heap.size + 3 := by rw [← hD3, World.size_alloc, hz2]
  rw [hD3]
  rw [hz1] at o0 o1 o2 o3
  have tr1 : ∀ a : Addr, a.block = w.heap.size → D3.cell? a = D1.cell? a := fun a ha => (hb3.cell (p := a) (by rw [ha]; omega)).trans (hb2.cell (p := a) (by rw [ha]; omega))
  have tr2 : ∀ a : Addr, a.block = w.heap.size + 1 → D3.cell? a = D2.cell? a := fun a ha => hb3.cell (p := a) (by rw [ha]; omega)
  replace m0 := (tr1 ⟨w.heap.size, 0, none⟩ rfl).trans m0
  replace m1 := (tr1 ⟨w.heap.size, 1, none⟩ rfl).trans m1
  replace m2 := (tr1 ⟨w.heap.size, 2, none⟩ rfl).trans m2
  replace o0 := (tr2 ⟨w.heap.size + 1, 0, none⟩ rfl).trans o0
  replace o1 := (tr2 ⟨w.heap.size + 1, 1, none⟩ rfl).trans o1
  replace o2 := (tr2 ⟨w.heap.size + 1, 2, none⟩ rfl).trans o2
  replace o3 := (tr2 ⟨w.heap.size + 1, 3, none⟩ rfl).trans o3
  have HBD := Aside0.mk (below_step (below_step hb1 hb2) hb3)
  have hgl : w.heap.size < D3.heap.size := by omega
  have hhl : w.heap.size + 1 < D3.heap.size := by omega
  have hrl : w.heap.size + 1 + 1 < D3.heap.size := by omega
  clear hD1 hD2 hD3 hz1 hz2 hz3 hb1 hb2 hb3 tr1 tr2
  obtain ⟨r, hr⟩ : ∃ r, w.heap.size + 1 + 1 = r := ⟨_, rfl⟩
  have hler : w.heap.size ≤ r := by omega
  rw [hr] at zr hrl ⊢
  obtain ⟨h, hh⟩ : ∃ h, w.heap.size + 1 = h := ⟨_, rfl⟩
  rw [hh] at o0 o1 o2 o3 hhl ⊢
  obtain ⟨g, hg⟩ : ∃ g, w.heap.size = g := ⟨_, rfl⟩
  have HGG := Aside0.mk (show g < r ∧ h < r by omega)
  rw [hg] at m0 m1 m2 hgl ⊢
  clear hg hh hr
  have HCL := Aside0.mk (fun W1 (hb : Below D3.heap.size D3 W1) => (show (W1.cell? ⟨g, 0, none⟩ = some (.slice A n c) ∧ W1.cell? ⟨g, 1, none⟩ = some (.slice A1 n1 c1) ∧ W1.cell? ⟨g, 2, none⟩ = some (.slice A2 n2 c2)) ∧ W1.cell? ⟨h, 0, none⟩ = some (.int .i64 k) ∧ W1.heap[r]? = some (.cells #[Value.slice none 0 0, Value.slice none 0 0, Value.slice none 0 0] 34 (0, 0)) from
    ⟨⟨(hb.cell (p := ⟨g, 0, none⟩) hgl).trans m0, (hb.cell (p := ⟨g, 1, none⟩) hgl).trans m1, (hb.cell (p := ⟨g, 2, none⟩) hgl).trans m2⟩, (hb.cell (p := ⟨h, 0, none⟩) hhl).trans o0, (hb.block _ hrl).trans zr⟩))
  have HED := Aside0.mk (CE.out D3 HBD.out)
  by_cases hq : q ≠ 0
  · have d0 : (q != 0) = true := by simpa using hq
    go_upto_region 2 with (first
      | (go_at_call 17; (with_reducible refine HED.out.mono ?_); rintro e W1 ⟨p3, A3, n3, c3, B3, m3, d3, rfl, hV, hb⟩; have V1 := Aside0.mk hV; have BT1 := Aside0.mk hb; clear hV hb))
    obtain ⟨D4, hD4⟩ : ∃ D4, W1.alloc (Obj.cells #[Value.int IntKind.i64 p3, Value.slice A3 n3 c3, Value.slice B3 m3 d3] 68) = D4 := ⟨_, rfl⟩
    have hb4 : Below W1.heap.size W1 D4 := by rw [← hD4]; exact (Below.refl _ _).alloc (Nat.le_refl _) _
    rw [hD4]
    obtain ⟨-, -, zr4⟩ := HCL.out _ (below_step BT1.out hb4)
    have y0 := blk_cell (j := 0) zr4
    have y1 := blk_cell (j := 1) zr4
    have y2 := blk_cell (j := 2) zr4
    have f0 := blk_frozen (j := 0) zr4
    have f1 := blk_frozen (j := 1) zr4
    have f2 := blk_frozen (j := 2) zr4
    have BW4 := Aside0.mk (below_step HBD.out (below_step BT1.out hb4))
    clear hD4 hb4 zr4
    go_wp2
    obtain ⟨c0, c1, c2⟩ := set3_get (a := Value.slice none 0 0) (b := Value.slice none 0 0) (c := Value.slice none 0 0) y0 y1 y2
    have hb5 := below_set3 (a := Value.slice none 0 0) (b := Value.slice none 0 0) (c := Value.slice none 0 0) hler BW4.out
    generalize ((D4.setCell ⟨r, 0, none⟩ (Value.slice none 0 0)).setCell ⟨r, 1, none⟩ (Value.slice none 0 0)).setCell ⟨r, 2, none⟩ (Value.slice none 0 0) = W5 at c0 c1 c2 hb5 ⊢
    refine bodyPost_ret (v := .tuple #[.agg #[.slice none 0 0, .slice none 0 0, .slice none 0 0], .int .i64 q]) (by simp [results, Tryd.results6, go_sem, c0, c1, c2]) rfl ?_
    exact ⟨none, 0, 0, none, 0, 0, none, 0, 0, rfl, hb5, fun e => absurd e hq⟩
  obtain rfl : q = 0 := by omega
  obtain ⟨f1, f2, f3, f4, f5, f6, f7, f8, f9⟩ := OK.out rfl
  have hkk := K2.out rfl
  have F1 := Aside0.mk f1
  have F2 := Aside0.mk f2
  have F89 := Aside0.mk (And.intro f8 f9)
  have HKK := Aside0.mk hkk
  clear hq f1 f2 f8 f9 OK K2 hkk
  go_upto_region 4 with (first
    | (go_at_call 17; (with_reducible refine HED.out.mono ?_); rintro e W1 ⟨p3, A3, n3, c3, B3, m3, d3, rfl, hV, hb⟩; have V1 := Aside0.mk hV; have BT1 := Aside0.mk hb; clear hV hb))

  obtain ⟨D4, hD4⟩ : ∃ D4, W1.alloc (Obj.cells #[Value.int IntKind.i64 p3, Value.slice A3 n3 c3, Value.slice B3 m3 d3] 68) = D4 := ⟨_, rfl⟩
  have k0 : D4.cell? ⟨W1.heap.size, 0, none⟩ = some (.int .i64 p3) := by rw [← hD4, new_cell]; rfl
  have k1 : D4.cell? ⟨W1.heap.size, 1, none⟩ = some (.slice A3 n3 c3) := by rw [← hD4, new_cell]; rfl
  have k2 : D4.cell? ⟨W1.heap.size, 2, none⟩ = some (.slice B3 m3 d3) := by rw [← hD4, new_cell]; rfl
  have hb4 : Below W1.heap.size W1 D4 := by rw [← hD4]; exact (Below.refl _ _).alloc (Nat.le_refl _) _
  have hql : W1.heap.size < D4.heap.size := by rw [← hD4]; simp
  rw [hD4]
  have BD4 := Aside0.mk (below_step BT1.out hb4)
  have BW4 := Aside0.mk (below_step HBD.out BD4.out)
  have V4 := Aside0.mk (V1.out.below hb4)
  have HS4 := Aside0.mk (HS.out.below BW4.out)
  obtain ⟨⟨y0, y1, y2⟩, yo, yr⟩ := HCL.out _ BD4.out
  clear hD4 hb4
  generalize W1.heap.size = q6 at k0 k1 k2 hql ⊢
  clear V1 BT1 HED CE
  have HQ6 := Aside0.mk hql
  have GR := Aside0.mk (show r < D4.heap.size from (Array.getElem?_eq_some_iff.1 yr).1)
  have hgl4 : g < D4.heap.size := World.block_lt_of_cell? D4 _ y0
  have hhl4 : h < D4.heap.size := World.block_lt_of_cell? D4 _ yo
  have CF := Aside0.mk (fun W1 (hb : Below D4.heap.size D4 W1) => (show (W1.cell? ⟨g, 0, none⟩ = some (.slice A n c) ∧ W1.cell? ⟨g, 1, none⟩ = some (.slice A1 n1 c1) ∧ W1.cell? ⟨g, 2, none⟩ = some (.slice A2 n2 c2)) ∧ W1.cell? ⟨h, 0, none⟩ = some (.int .i64 k) ∧ W1.heap[r]? = some (.cells #[Value.slice none 0 0, Value.slice none 0 0, Value.slice none 0 0] 34 (0, 0)) ∧ (W1.cell? ⟨q6, 0, none⟩ = some (.int .i64 p3) ∧ W1.cell? ⟨q6, 1, none⟩ = some (.slice A3 n3 c3) ∧ W1.cell? ⟨q6, 2, none⟩ = some (.slice B3 m3 d3)) from
    ⟨⟨(hb.cell (p := ⟨g, 0, none⟩) hgl4).trans y0, (hb.cell (p := ⟨g, 1, none⟩) hgl4).trans y1, (hb.cell (p := ⟨g, 2, none⟩) hgl4).trans y2⟩, (hb.cell (p := ⟨h, 0, none⟩) hhl4).trans yo, (hb.block _ (Array.getElem?_eq_some_iff.1 yr).1).trans yr, (hb.cell (p := ⟨q6, 0, none⟩) hql).trans k0, (hb.cell (p := ⟨q6, 1, none⟩) hql).trans k1, (hb.cell (p := ⟨q6, 2, none⟩) hql).trans k2⟩))
  clear y0 y1 y2 yo yr k0 k1 k2 hgl4 hhl4 hql HCL m0 m1 m2 o0 o1 o2 o3 zr hgl hhl hrl
  have HB := Aside0.mk (below_drew1 (Below.refl D4.heap.size D4))
  refine start_ (n := 13) (S := fun w' => Below D4.heap.size D4 w') (ds := []) #[false, false, false, false, false, false, false, false, false, false, false, false, false] (by kernel_rfl) rfl rfl HB.out (fun hHeld => ?_)
  generalize D4.drew = D at HB hHeld ⊢
  refine pure_ (i := 0) (N := some 19) (v := ?_) (a' := ?_) #[true, false, false, false, false, false, false, false, false, false, false, false, false] rfl rfl (by kernel_rfl) (fun _ _ _ h => h) (Or.inl ⟨by rfl, ?_⟩) ?_ ?_
  rotate_left
  · intro w'
    go_simp
    with_reducible rfl
  rotate_left
  · simp only [Act.put, List.setIfInBounds_toArray, List.set_cons_zero, List.set_cons_succ, i64_w, i32_w]
    rfl
  refine pure_ (i := 4) (N := some 23) (v := ?_) (a' := ?_) #[true, false, false, false, true, false, false, false, false, false, false, false, false] rfl rfl (by kernel_rfl) (fun _ _ _ h => h) (Or.inl ⟨by rfl, ?_⟩) ?_ ?_
  rotate_left
  · intro w'
    go_simp
    with_reducible rfl
  rotate_left
  · simp only [Act.put, List.setIfInBounds_toArray, List.set_cons_zero, List.set_cons_succ, i64_w, i32_w]
    rfl
  refine pure_ (i := 7) (N := some 26) (v := ?_) (a' := ?_) #[true, false, false, false, true, false, false, true, false, false, false, false, false] rfl rfl (by kernel_rfl) (fun _ _ _ h => h) (Or.inl ⟨by rfl, ?_⟩) ?_ ?_
  rotate_left
  · intro w'
    go_simp
    with_reducible rfl
  rotate_left
  · simp only [Act.put, List.setIfInBounds_toArray, List.set_cons_zero, List.set_cons_succ, i64_w, i32_w]
    rfl
  refine take_ (i := 1) (N := some 20) (v := ?_) (a' := ?_) #[true, true, false, false, true, false, false, true, false, false, false, false, false] rfl rfl (by kernel_rfl) (fun _ _ _ h => h) (Or.inl ⟨by rfl, ?_⟩) hHeld ?_ ?_
  rotate_left
  · rintro w' hs
    obtain ⟨⟨s0, s1, s2⟩, so, sr, l0, l1, l2⟩ := CF.out w' hs
    go_simp
    with_reducible rfl
  rotate_left
  · simp only [Act.put, List.setIfInBounds_toArray, List.set_cons_zero, List.set_cons_succ, i64_w, i32_w]
    rfl
  refine take_ (i := 2) (N := some 21) (v := ?_) (a' := ?_) #[true, true, true, false, true, false, false, true, false, false, false, false, false] rfl rfl (by kernel_rfl) (fun _ _ _ h => h) (Or.inl ⟨by rfl, ?_⟩) hHeld ?_ ?_
  rotate_left
  · rintro w' hs
    obtain ⟨⟨s0, s1, s2⟩, so, sr, l0, l1, l2⟩ := CF.out w' hs
    go_simp
    with_reducible rfl
  rotate_left
  · simp only [Act.put, List.setIfInBounds_toArray, List.set_cons_zero, List.set_cons_succ, i64_w, i32_w]
    rfl
  refine take_ (i := 5) (N := some 24) (v := ?_) (a' := ?_) #[true, true, true, false, true, true, false, true, false, false, false, false, false] rfl rfl (by kernel_rfl) (fun _ _ _ h => h) (Or.inl ⟨by rfl, ?_⟩) hHeld ?_ ?_
  rotate_left
  · rintro w' hs
    obtain ⟨⟨s0, s1, s2⟩, so, sr, l0, l1, l2⟩ := CF.out w' hs
    go_simp
    with_reducible rfl
  rotate_left
  · simp only [Act.put, List.setIfInBounds_toArray, List.set_cons_zero, List.set_cons_succ, i64_w, i32_w]
    rfl
  refine take_ (i := 8) (N := some 27) (v := ?_) (a' := ?_) #[true, true, true, false, true, true, false, true, true, false, false, false, false] rfl rfl (by kernel_rfl) (fun _ _ _ h => h) (Or.inl ⟨by rfl, ?_⟩) hHeld ?_ ?_
  rotate_left
  · rintro w' hs
    obtain ⟨⟨s0, s1, s2⟩, so, sr, l0, l1, l2⟩ := CF.out w' hs
    go_simp
    with_reducible rfl
  rotate_left
  · simp only [Act.put, List.setIfInBounds_toArray, List.set_cons_zero, List.set_cons_succ, i64_w, i32_w]
    rfl
  refine join_ (σ := Value × Value × Value × Nat) 1 #[true, true, true, true, true, true, true, true, true, true, true, true, false] (fun s_ => [(22, s_.1), (25, s_.2.1), (28, s_.2.2.1), (29, .agg #[s_.1, s_.2.1, s_.2.2.1]), (8, .pointer (some ⟨s_.2.2.2, 0, none⟩))]) (J4 D4 (doneT s.text x) n1 n2 s.x1 s.x2) ?_ ?_
  rotate_left
  · intro hCont
    refine two_ (i := 3) (j := 11) (Ni := some 22) (Nj := some 8) #[true, true, true, true, true, true, false, true, true, false, false, false, false] #[true, true, true, false, true, true, false, true, true, false, false, true, false] rfl rfl rfl rfl (by kernel_rfl) (by decide) (by decide) (fun K hK => ?_) (fun K hK => ?_)
    · skip
      refine goes_ Tryd.func18 (by kernel_rfl) rfl #[.slice A n c, .agg #[.int .i64 p3, .slice A3 n3 c3, .slice B3 m3 d3]] (by rfl) rfl rfl (by (try simp only [List.map_toArray, List.map_cons, List.map_nil]); first | done | rfl) ?_
      (with_reducible refine (done_calls (HS4.out.t.below HB.out) (V4.out.below HB.out) F1.out (show n ≤ 1000000 by omega) (by have := V4.out.k.hn; omega)).mono ?_)
      rintro e Z1 ⟨A5, n5, c5, rfl, h_, hb⟩
      refine ⟨_, rfl, ?_⟩
      have T := Aside0.mk h_
      clear h_
      replace HB := Aside0.mk (below_step HB.out hb)
      clear hb
      refine hK.out _ _ HB.out (fun hHeld => ?_)
      clear hK K
      refine norm_ (a' := ?_) ?_ ?_
      rotate_left
      · show Act.put _ (some 22) _ = _
        simp only [Act.put, List.setIfInBounds_toArray, List.set_cons_zero, List.set_cons_succ, i64_w, i32_w]
        rfl
      refine two_ (i := 6) (j := 11) (Ni := some 25) (Nj := some 8) #[true, true, true, true, true, true, true, true, true, false, false, false, false] #[true, true, true, true, true, true, false, true, true, false, false, true, false] rfl rfl rfl rfl (by kernel_rfl) (by decide) (by decide) (fun K hK => ?_) (fun K hK => ?_)
      · skip
        refine goes_ Tryd.func19 (by kernel_rfl) rfl #[.slice A1 n1 c1] (by rfl) rfl rfl (by (try simp only [List.map_toArray, List.map_cons, List.map_nil]); first | done | rfl) ?_
        (with_reducible refine (copied_calls (HS4.out.u.below HB.out) b1 HS4.out.s1).mono ?_)
        rintro e Z2 ⟨A6, c6, v6, rfl, h_, hb⟩
        refine ⟨_, rfl, ?_⟩
        replace T := Aside0.mk (T.out.below hb)
        have U := Aside0.mk (h_.mono HB.out.size)
        clear h_
        replace HB := Aside0.mk (below_step HB.out hb)
        clear hb
        refine hK.out _ _ HB.out (fun hHeld => ?_)
        clear hK K
        refine norm_ (a' := ?_) ?_ ?_
        rotate_left
        · show Act.put _ (some 25) _ = _
          simp only [Act.put, List.setIfInBounds_toArray, List.set_cons_zero, List.set_cons_succ, i64_w, i32_w]
          rfl
        refine two_ (i := 9) (j := 11) (Ni := some 28) (Nj := some 8) #[true, true, true, true, true, true, true, true, true, true, false, false, false] #[true, true, true, true, true, true, true, true, true, false, false, true, false] rfl rfl rfl rfl (by kernel_rfl) (by decide) (by decide) (fun K hK => ?_) (fun K hK => ?_)
        · skip
          refine goes_ Tryd.func19 (by kernel_rfl) rfl #[.slice A2 n2 c2] (by rfl) rfl rfl (by (try simp only [List.map_toArray, List.map_cons, List.map_nil]); first | done | rfl) ?_
          (with_reducible refine (copied_calls (HS4.out.r.below HB.out) b2 HS4.out.s2).mono ?_)
          rintro e Z3 ⟨A7, c7, v7, rfl, h_, hb⟩
          refine ⟨_, rfl, ?_⟩
          have AP := Aside0.mk (U.out.apt h_ (Nat.le_refl _))
          replace T := Aside0.mk (T.out.below hb)
          replace U := Aside0.mk (U.out.below hb)
          have V := Aside0.mk (h_.mono HB.out.size)
          clear h_
          replace HB := Aside0.mk (below_step HB.out hb)
          clear hb
          refine hK.out _ _ HB.out (fun hHeld => ?_)
          clear hK K
          refine norm_ (a' := ?_) ?_ ?_
          rotate_left
          · show Act.put _ (some 28) _ = _
            simp only [Act.put, List.setIfInBounds_toArray, List.set_cons_zero, List.set_cons_succ, i64_w, i32_w]
            rfl
          refine pure_ (i := 10) (N := some 29) (v := ?_) (a' := ?_) #[true, true, true, true, true, true, true, true, true, true, true, false, false] rfl rfl (by kernel_rfl) (fun _ _ _ h => h) (Or.inl ⟨by rfl, ?_⟩) ?_ ?_
          rotate_left
          · intro w'
            go_simp
            with_reducible rfl
          rotate_left
          · simp only [Act.put, List.setIfInBounds_toArray, List.set_cons_zero, List.set_cons_succ, i64_w, i32_w]
            rfl
          refine one_ (i := 11) (N := some 8) #[true, true, true, true, true, true, true, true, true, true, true, true, false] rfl rfl (by kernel_rfl) (by decide) (fun K hK => ?_)
          refine event_step (w1 := ?_) (v := ?_) (by rfl) ?_ ?_
          rotate_left 2
          · go_simp
            constructor
            · rfl
            · rfl
          generalize hZ : World.alloc Z3 (Obj.cells #[Value.slice none 0 0, Value.slice none 0 0, Value.slice none 0 0] 34) = Z4
          have hb : Below Z3.heap.size Z3 Z4 := by rw [← hZ]; exact (Below.refl _ _).alloc (Nat.le_refl _) _
          have hc : C3 Z4 Z3.heap.size (.slice none 0 0) (.slice none 0 0) (.slice none 0 0) := by rw [← hZ]; exact World.alloc_heap_new _ _
          have G8 := Aside0.mk (HB.out.size)
          clear hZ
          replace T := Aside0.mk (T.out.below hb)
          replace U := Aside0.mk (U.out.below hb)
          replace V := Aside0.mk (V.out.below hb)
          have C8 := Aside0.mk hc
          clear hc
          replace HB := Aside0.mk (below_step HB.out hb)
          clear hb
          refine hK.out _ _ HB.out (fun hHeld => ?_)
          clear hK K
          refine norm_ (a' := ?_) ?_ ?_
          rotate_left
          · show Act.put _ (some 8) _ = _
            simp only [Act.put, List.setIfInBounds_toArray, List.set_cons_zero, List.set_cons_succ, i64_w, i32_w]
            rfl
          exact norm_ (by first | rfl | simp only [Go.Proofs.YtenjldfflkinkaaDoorW.PrintLast.putAll, Act.put, List.setIfInBounds_toArray, List.set_cons_zero, List.set_cons_succ]) (hCont (.slice A5 n5 c5, .slice A6 n1 c6, .slice A7 n2 c7, Z3.heap.size) _ ⟨A5, n5, c5, A6, c6, v6, A7, c7, v7, rfl, rfl, rfl, ⟨HB.out, T.out, U.out, V.out, AP.out⟩, G8.out, C8.out⟩)
        · skip
          refine event_step (w1 := ?_) (v := ?_) (by rfl) ?_ ?_
          rotate_left 2
          · go_simp
            constructor
            · rfl
            · rfl
          generalize hZ : World.alloc Z2 (Obj.cells #[Value.slice none 0 0, Value.slice none 0 0, Value.slice none 0 0] 34) = Z5
          have hb : Below Z2.heap.size Z2 Z5 := by rw [← hZ]; exact (Below.refl _ _).alloc (Nat.le_refl _) _
          have hc : C3 Z5 Z2.heap.size (.slice none 0 0) (.slice none 0 0) (.slice none 0 0) := by rw [← hZ]; exact World.alloc_heap_new _ _
          have G8 := Aside0.mk (HB.out.size)
          clear hZ
          replace T := Aside0.mk (T.out.below hb)
          replace U := Aside0.mk (U.out.below hb)
          have C8 := Aside0.mk hc
          clear hc
          replace HB := Aside0.mk (below_step HB.out hb)
          clear hb
          refine hK.out _ _ HB.out (fun hHeld => ?_)
          clear hK K
          refine norm_ (a' := ?_) ?_ ?_
          rotate_left
          · show Act.put _ (some 8) _ = _
            simp only [Act.put, List.setIfInBounds_toArray, List.set_cons_zero, List.set_cons_succ, i64_w, i32_w]
            rfl
          refine one_ (i := 9) (N := some 28) #[true, true, true, true, true, true, true, true, true, true, false, true, false] rfl rfl (by kernel_rfl) (by decide) (fun K hK => ?_)
          refine goes_ Tryd.func19 (by kernel_rfl) rfl #[.slice A2 n2 c2] (by rfl) rfl rfl (by (try simp only [List.map_toArray, List.map_cons, List.map_nil]); first | done | rfl) ?_
          (with_reducible refine (copied_calls (HS4.out.r.below HB.out) b2 HS4.out.s2).mono ?_)
          rintro e Z6 ⟨A7, c7, v7, rfl, h_, hb⟩
          refine ⟨_, rfl, ?_⟩
          have AP := Aside0.mk (U.out.apt h_ (Nat.le_refl _))
          replace C8 := Aside0.mk (C8.out.below hb)
          replace T := Aside0.mk (T.out.below hb)
          replace U := Aside0.mk (U.out.below hb)
          have V := Aside0.mk (h_.mono HB.out.size)
          clear h_
          replace HB := Aside0.mk (below_step HB.out hb)
          clear hb
          refine hK.out _ _ HB.out (fun hHeld => ?_)
          clear hK K
          refine norm_ (a' := ?_) ?_ ?_
          rotate_left
          · show Act.put _ (some 28) _ = _
            simp only [Act.put, List.setIfInBounds_toArray, List.set_cons_zero, List.set_cons_succ, i64_w, i32_w]
            rfl
          refine pure_ (i := 10) (N := some 29) (v := ?_) (a' := ?_) #[true, true, true, true, true, true, true, true, true, true, true, true, false] rfl rfl (by kernel_rfl) (fun _ _ _ h => h) (Or.inl ⟨by rfl, ?_⟩) ?_ ?_
          rotate_left
          · intro w'
            go_simp
            with_reducible rfl
          rotate_left
          · simp only [Act.put, List.setIfInBounds_toArray, List.set_cons_zero, List.set_cons_succ, i64_w, i32_w]
            rfl
          exact norm_ (by first | rfl | simp only [Go.Proofs.YtenjldfflkinkaaDoorW.PrintLast.putAll, Act.put, List.setIfInBounds_toArray, List.set_cons_zero, List.set_cons_succ]) (hCont (.slice A5 n5 c5, .slice A6 n1 c6, .slice A7 n2 c7, Z2.heap.size) _ ⟨A5, n5, c5, A6, c6, v6, A7, c7, v7, rfl, rfl, rfl, ⟨HB.out, T.out, U.out, V.out, AP.out⟩, G8.out, C8.out⟩)
      · skip
        refine event_step (w1 := ?_) (v := ?_) (by rfl) ?_ ?_
        rotate_left 2
        · go_simp
          constructor
          · rfl
          · rfl
        generalize hZ : World.alloc Z1 (Obj.cells #[Value.slice none 0 0, Value.slice none 0 0, Value.slice none 0 0] 34) = Z7
        have hb : Below Z1.heap.size Z1 Z7 := by rw [← hZ]; exact (Below.refl _ _).alloc (Nat.le_refl _) _
        have hc : C3 Z7 Z1.heap.size (.slice none 0 0) (.slice none 0 0) (.slice none 0 0) := by rw [← hZ]; exact World.alloc_heap_new _ _
        have G8 := Aside0.mk (HB.out.size)
        clear hZ
        replace T := Aside0.mk (T.out.below hb)
        have C8 := Aside0.mk hc
        clear hc
        replace HB := Aside0.mk (below_step HB.out hb)
        clear hb
        refine hK.out _ _ HB.out (fun hHeld => ?_)
        clear hK K
        refine norm_ (a' := ?_) ?_ ?_
        rotate_left
        · show Act.put _ (some 8) _ = _
          simp only [Act.put, List.setIfInBounds_toArray, List.set_cons_zero, List.set_cons_succ, i64_w, i32_w]
          rfl
        refine one_ (i := 6) (N := some 25) #[true, true, true, true, true, true, true, true, true, false, false, true, false] rfl rfl (by kernel_rfl) (by decide) (fun K hK => ?_)
        refine goes_ Tryd.func19 (by kernel_rfl) rfl #[.slice A1 n1 c1] (by rfl) rfl rfl (by (try simp only [List.map_toArray, List.map_cons, List.map_nil]); first | done | rfl) ?_
        (with_reducible refine (copied_calls (HS4.out.u.below HB.out) b1 HS4.out.s1).mono ?_)
        rintro e Z8 ⟨A6, c6, v6, rfl, h_, hb⟩
        refine ⟨_, rfl, ?_⟩
        replace C8 := Aside0.mk (C8.out.below hb)
        replace T := Aside0.mk (T.out.below hb)
        have U := Aside0.mk (h_.mono HB.out.size)
        clear h_
        replace HB := Aside0.mk (below_step HB.out hb)
        clear hb
        refine hK.out _ _ HB.out (fun hHeld => ?_)
        clear hK K
        refine norm_ (a' := ?_) ?_ ?_
        rotate_left
        · show Act.put _ (some 25) _ = _
          simp only [Act.put, List.setIfInBounds_toArray, List.set_cons_zero, List.set_cons_succ, i64_w, i32_w]
          rfl
        refine one_ (i := 9) (N := some 28) #[true, true, true, true, true, true, true, true, true, true, false, true, false] rfl rfl (by kernel_rfl) (by decide) (fun K hK => ?_)
        refine goes_ Tryd.func19 (by kernel_rfl) rfl #[.slice A2 n2 c2] (by rfl) rfl rfl (by (try simp only [List.map_toArray, List.map_cons, List.map_nil]); first | done | rfl) ?_
        (with_reducible refine (copied_calls (HS4.out.r.below HB.out) b2 HS4.out.s2).mono ?_)
        rintro e Z9 ⟨A7, c7, v7, rfl, h_, hb⟩
        refine ⟨_, rfl, ?_⟩
        have AP := Aside0.mk (U.out.apt h_ (Nat.le_refl _))
        replace C8 := Aside0.mk (C8.out.below hb)
        replace T := Aside0.mk (T.out.below hb)
        replace U := Aside0.mk (U.out.below hb)
        have V := Aside0.mk (h_.mono HB.out.size)
        clear h_
        replace HB := Aside0.mk (below_step HB.out hb)
        clear hb
        refine hK.out _ _ HB.out (fun hHeld => ?_)
        clear hK K
        refine norm_ (a' := ?_) ?_ ?_
        rotate_left
        · show Act.put _ (some 28) _ = _
          simp only [Act.put, List.setIfInBounds_toArray, List.set_cons_zero, List.set_cons_succ, i64_w, i32_w]
          rfl
        refine pure_ (i := 10) (N := some 29) (v := ?_) (a' := ?_) #[true, true, true, true, true, true, true, true, true, true, true, true, false] rfl rfl (by kernel_rfl) (fun _ _ _ h => h) (Or.inl ⟨by rfl, ?_⟩) ?_ ?_
        rotate_left
        · intro w'
          go_simp
          with_reducible rfl
        rotate_left
        · simp only [Act.put, List.setIfInBounds_toArray, List.set_cons_zero, List.set_cons_succ, i64_w, i32_w]
          rfl
        exact norm_ (by first | rfl | simp only [Go.Proofs.YtenjldfflkinkaaDoorW.PrintLast.putAll, Act.put, List.setIfInBounds_toArray, List.set_cons_zero, List.set_cons_succ]) (hCont (.slice A5 n5 c5, .slice A6 n1 c6, .slice A7 n2 c7, Z1.heap.size) _ ⟨A5, n5, c5, A6, c6, v6, A7, c7, v7, rfl, rfl, rfl, ⟨HB.out, T.out, U.out, V.out, AP.out⟩, G8.out, C8.out⟩)
    · skip
      refine event_step (w1 := ?_) (v := ?_) (by rfl) ?_ ?_
      rotate_left 2
      · go_simp
        constructor
        · rfl
        · rfl
      generalize hZ : World.alloc D (Obj.cells #[Value.slice none 0 0, Value.slice none 0 0, Value.slice none 0 0] 34) = Z10
      have hb : Below D.heap.size D Z10 := by rw [← hZ]; exact (Below.refl _ _).alloc (Nat.le_refl _) _
      have hc : C3 Z10 D.heap.size (.slice none 0 0) (.slice none 0 0) (.slice none 0 0) := by rw [← hZ]; exact World.alloc_heap_new _ _
      have G8 := Aside0.mk (HB.out.size)
      clear hZ
      have C8 := Aside0.mk hc
      clear hc
      replace HB := Aside0.mk (below_step HB.out hb)
      clear hb
      refine hK.out _ _ HB.out (fun hHeld => ?_)
      clear hK K
      refine norm_ (a' := ?_) ?_ ?_
      rotate_left
      · show Act.put _ (some 8) _ = _
        simp only [Act.put, List.setIfInBounds_toArray, List.set_cons_zero, List.set_cons_succ, i64_w, i32_w]
        rfl
      refine one_ (i := 3) (N := some 22) #[true, true, true, true, true, true, false, true, true, false, false, true, false] rfl rfl (by kernel_rfl) (by decide) (fun K hK => ?_)
      refine goes_ Tryd.func18 (by kernel_rfl) rfl #[.slice A n c, .agg #[.int .i64 p3, .slice A3 n3 c3, .slice B3 m3 d3]] (by rfl) rfl rfl (by (try simp only [List.map_toArray, List.map_cons, List.map_nil]); first | done | rfl) ?_
      (with_reducible refine (done_calls (HS4.out.t.below HB.out) (V4.out.below HB.out) F1.out (show n ≤ 1000000 by omega) (by have := V4.out.k.hn; omega)).mono ?_)
      rintro e Z11 ⟨A5, n5, c5, rfl, h_, hb⟩
      refine ⟨_, rfl, ?_⟩
      replace C8 := Aside0.mk (C8.out.below hb)
      have T := Aside0.mk h_
      clear h_
      replace HB := Aside0.mk (below_step HB.out hb)
      clear hb
      refine hK.out _ _ HB.out (fun hHeld => ?_)
      clear hK K
      refine norm_ (a' := ?_) ?_ ?_
      rotate_left
      · show Act.put _ (some 22) _ = _
        simp only [Act.put, List.setIfInBounds_toArray, List.set_cons_zero, List.set_cons_succ, i64_w, i32_w]
        rfl
      refine one_ (i := 6) (N := some 25) #[true, true, true, true, true, true, true, true, true, false, false, true, false] rfl rfl (by kernel_rfl) (by decide) (fun K hK => ?_)
      refine goes_ Tryd.func19 (by kernel_rfl) rfl #[.slice A1 n1 c1] (by rfl) rfl rfl (by (try simp only [List.map_toArray, List.map_cons, List.map_nil]); first | done | rfl) ?_
      (with_reducible refine (copied_calls (HS4.out.u.below HB.out) b1 HS4.out.s1).mono ?_)
      rintro e Z12 ⟨A6, c6, v6, rfl, h_, hb⟩
      refine ⟨_, rfl, ?_⟩
      replace C8 := Aside0.mk (C8.out.below hb)
      replace T := Aside0.mk (T.out.below hb)
      have U := Aside0.mk (h_.mono HB.out.size)
      clear h_
      replace HB := Aside0.mk (below_step HB.out hb)
      clear hb
      refine hK.out _ _ HB.out (fun hHeld => ?_)
      clear hK K
      refine norm_ (a' := ?_) ?_ ?_
      rotate_left
      · show Act.put _ (some 25) _ = _
        simp only [Act.put, List.setIfInBounds_toArray, List.set_cons_zero, List.set_cons_succ, i64_w, i32_w]
        rfl
      refine one_ (i := 9) (N := some 28) #[true, true, true, true, true, true, true, true, true, true, false, true, false] rfl rfl (by kernel_rfl) (by decide) (fun K hK => ?_)
      refine goes_ Tryd.func19 (by kernel_rfl) rfl #[.slice A2 n2 c2] (by rfl) rfl rfl (by (try simp only [List.map_toArray, List.map_cons, List.map_nil]); first | done | rfl) ?_
      (with_reducible refine (copied_calls (HS4.out.r.below HB.out) b2 HS4.out.s2).mono ?_)
      rintro e Z13 ⟨A7, c7, v7, rfl, h_, hb⟩
      refine ⟨_, rfl, ?_⟩
      have AP := Aside0.mk (U.out.apt h_ (Nat.le_refl _))
      replace C8 := Aside0.mk (C8.out.below hb)
      replace T := Aside0.mk (T.out.below hb)
      replace U := Aside0.mk (U.out.below hb)
      have V := Aside0.mk (h_.mono HB.out.size)
      clear h_
      replace HB := Aside0.mk (below_step HB.out hb)
      clear hb
      refine hK.out _ _ HB.out (fun hHeld => ?_)
      clear hK K
      refine norm_ (a' := ?_) ?_ ?_
      rotate_left
      · show Act.put _ (some 28) _ = _
        simp only [Act.put, List.setIfInBounds_toArray, List.set_cons_zero, List.set_cons_succ, i64_w, i32_w]
        rfl
      refine pure_ (i := 10) (N := some 29) (v := ?_) (a' := ?_) #[true, true, true, true, true, true, true, true, true, true, true, true, false] rfl rfl (by kernel_rfl) (fun _ _ _ h => h) (Or.inl ⟨by rfl, ?_⟩) ?_ ?_
      rotate_left
      · intro w'
        go_simp
        with_reducible rfl
      rotate_left
      · simp only [Act.put, List.setIfInBounds_toArray, List.set_cons_zero, List.set_cons_succ, i64_w, i32_w]
        rfl
      exact norm_ (by first | rfl | simp only [Go.Proofs.YtenjldfflkinkaaDoorW.PrintLast.putAll, Act.put, List.setIfInBounds_toArray, List.set_cons_zero, List.set_cons_succ]) (hCont (.slice A5 n5 c5, .slice A6 n1 c6, .slice A7 n2 c7, D.heap.size) _ ⟨A5, n5, c5, A6, c6, v6, A7, c7, v7, rfl, rfl, rfl, ⟨HB.out, T.out, U.out, V.out, AP.out⟩, G8.out, C8.out⟩)
  rintro ⟨e5, e6, e7, q8⟩ W5 ⟨A5, n5, c5, A6, c6, v6, A7, c7, v7, h5, h6, h7, hAT, hg8, hc8⟩
  dsimp only at h5 h6 h7 hg8 hc8
  subst h5 h6 h7
  have C8 := Aside0.mk hc8
  have AT := Aside0.mk hAT
  have G8 := Aside0.mk hg8
  clear hc8 hAT hg8 HB
  refine norm_ (a' := ?_) ?_ ?_
  rotate_left
  · simp only [Go.Proofs.YtenjldfflkinkaaDoorW.PrintLast.putAll, Act.put, List.setIfInBounds_toArray, List.set_cons_zero, List.set_cons_succ]
    rfl
  refine one_ (i := 12) (N := none) #[true, true, true, true, true, true, true, true, true, true, true, true, true] rfl rfl (by kernel_rfl) (by decide) (fun K hK => ?_)
  have p0 := blk_cell (j := 0) C8.out
  have p1 := blk_cell (j := 1) C8.out
  have p2 := blk_cell (j := 2) C8.out
  have f0 := blk_frozen (j := 0) C8.out
  have f1 := blk_frozen (j := 1) C8.out
  have f2 := blk_frozen (j := 2) C8.out
  refine skip_ (w1 := ?_) (by rfl) rfl ?_ ?_
  rotate_left
  · go_simp
    rfl
  have C9 := Aside0.mk (((C8.out.set0 (.slice A5 n5 c5)).set1 (.slice A6 n1 c6)).set2 (.slice A7 n2 c7))
  have PT := Aside0.mk (Put1.three W5 q8 (.slice A5 n5 c5) (.slice A6 n1 c6) (.slice A7 n2 c7))
  have AT9 := Aside0.mk (show At4 D4 (((W5.setCell ⟨q8, 0, none⟩ (.slice A5 n5 c5)).setCell ⟨q8, 1, none⟩ (.slice A6 n1 c6)).setCell ⟨q8, 2, none⟩ (.slice A7 n2 c7)) (doneT s.text x) n1 n2 s.x1 s.x2 A5 n5 c5 A6 c6 v6 A7 c7 v7 from ⟨below_set3 G8.out AT.out.b, AT.out.t.only C8.out.noI PT.out.2, AT.out.u.put PT.out C8.out.noI (C8.out.rows AT.out.u.row), AT.out.r.put PT.out C8.out.noI (C8.out.rows AT.out.r.row), AT.out.ap⟩)
  clear PT C8 AT p0 p1 p2 f0 f1 f2
  generalize ((W5.setCell ⟨q8, 0, none⟩ (.slice A5 n5 c5)).setCell ⟨q8, 1, none⟩ (.slice A6 n1 c6)).setCell ⟨q8, 2, none⟩ (.slice A7 n2 c7) = W9 at C9 AT9 ⊢
  refine hK.out _ _ AT9.out.b (fun hHeld => ?_)
  clear hK K
  refine done_ (by kernel_rfl) ?_
  have AQ := Aside0.mk (show Ap D4 W9 q8 r (doneT s.text x) A5 n5 c5 A6 n1 c6 v6 s.x1 A7 n2 c7 v7 s.x2 from ⟨AT9.out.b, AT9.out.t, AT9.out.u, AT9.out.r, AT9.out.ap, C9.out, (CF.out W9 AT9.out.b).2.2.1, G8.out, GR.out⟩)
  have SO := Aside0.mk (CF.out W9 AT9.out.b).2.1
  have CH := Aside0.mk (fun W1 (hb : Below W9.heap.size W9 W1) => (show C3 W1 q8 (.slice A5 n5 c5) (.slice A6 n1 c6) (.slice A7 n2 c7) ∧ (W1.cell? ⟨q6, 0, none⟩ = some (.int .i64 p3) ∧ W1.cell? ⟨q6, 1, none⟩ = some (.slice A3 n3 c3) ∧ W1.cell? ⟨q6, 2, none⟩ = some (.slice B3 m3 d3)) from ⟨AQ.out.cq.below hb, (CF.out W1 (below_step AQ.out.b hb)).2.2.2⟩))
  have V9 := Aside0.mk (V4.out.below AQ.out.b)
  have hn5 : n5 ≤ 4096 := by have h1 := AQ.out.t.hn; have h2 := F2.out; omega
  have HC6 := Aside0.mk AQ.out.u.rc.hc
  have HC7 := Aside0.mk AQ.out.rr.rc.hc
  have HGC := Aside0.mk (show n3 ≤ 5000 ∧ m3 ≤ 5000 by have h1 := V9.out.g.hn; have h2 := V9.out.k.hn; omega)
  clear C9 AT9 G8 GR HS4 V4 BD4 hHeld HS HBD
  rcases HKK.out with rfl | rfl | rfl | rfl
  · skip
    have so := SO.out
    obtain ⟨hcq, l0, l1, l2⟩ := CH.out W9 (Below.refl _ _)
    have s0 := blk_cell (j := 0) hcq
    have s1 := blk_cell (j := 1) hcq
    have s2 := blk_cell (j := 2) hcq
    clear hcq
    go_upto_region 7 with (first
      | ((with_reducible refine gate_dst (N := 36) rfl ?_); at_builtin; refine rg_append (W := W9) rfl (.tmp 33) (.tmp 35) rfl rfl rfl AQ.out.u.row (by omega) ⟨p3, A3, n3, c3, B3, m3, d3⟩ ?_; intro A9 c9 W12 hR hA hBt; have PP := Aside0.mk (AQ.out.push1 ⟨p3, A3, n3, c3, B3, m3, d3⟩ V9.out HGC.out hR hA hBt); have hcq2 := PP.out.2.2.2.2.1; have p0 := blk_cell (j := 0) hcq2; have p1 := blk_cell (j := 1) hcq2; have p2 := (cell_off (W := W12) (b := q8) (o := 1) (v := .slice A9 (n1 + 1) c9) (by decide)).trans (blk_cell (j := 2) hcq2); have f0 := blk_frozen (j := 0) hcq2; have f1 := blk_frozen (j := 1) hcq2; have f2 := blk_frozen (j := 2) (hcq2.set1 (.slice A9 (n1 + 1) c9)); clear hR hA hBt hcq2))
    have EN := Aside0.mk (en_of (m1 := n1 + 1) (m2 := 0) BW4.out AQ.out.gq AQ.out.gr PP.out.1 PP.out.2.1 PP.out.2.2.1 (Ro.empty W12 D4.heap.size v7 s.x2 : Ro W12 D4.heap.size none 0 0 v7 s.x2) PP.out.2.2.2.2.1 PP.out.2.2.2.2.2 (Nat.le_refl _) (Nat.le_refl _) (by omega) (by omega) (by omega))
    have NQ := Aside0.mk (C3.rows PP.out.2.2.2.2.1 PP.out.2.2.1.row)
    have HSL := Aside0.mk (fun W => (show (Instr.slice 32 (.slice A9 (n1 + 1) c9) (some (.int .i64 1)) none none).run Tryd.prog W = .ok (.slice (if c9 = 1 then A9 else A9.map (·.add (1 * 3))) n1 (c9 - 1)) W from by have h1 := run_cdrop1 (A := A9) (n := n1 + 1) (c := c9) (by omega) W; rw [Nat.add_sub_cancel] at h1; exact h1))
    have DRP := Aside0.mk (EN.out.drop (by have h1 := AQ.out.gq; have h2 := BW4.out.size; omega) (by have h1 := AQ.out.gq; have h2 := AQ.out.gr; omega) NQ.out (fun ad e => by cases e))
    clear so l0 l1 l2 s0 s1 s2 p0 p1 p2 f0 f1 f2 PP AQ CH V9 CF SO NQ
    generalize ((W12.setCell ⟨q8, 1, none⟩ (.slice A9 (n1 + 1) c9)).setCell ⟨q8, 2, none⟩ (.slice none 0 0)) = WE at EN DRP ⊢
    generalize (if c9 = 1 then A9 else A9.map (·.add (1 * 3))) = A10 at HSL DRP
    generalize c9 - 1 = c10 at HSL DRP
    obtain ⟨N1, hN1⟩ : ∃ N1, n1 + 1 = N1 := ⟨_, rfl⟩
    rw [hN1] at EN HSL ⊢
    have s1 := blk_cell (j := 1) EN.out.cq
    have HN1 := Aside0.mk hN1
    by_cases h16 : 16 < N1
    · have h16' : (16 : Int) < (N1 : Int) := by omega
      have hsl := HSL.out WE
      have hfz := blk_frozen (j := 1) EN.out.cq
      have HN2 := Aside0.mk (show n1 ≤ 17 by omega)
      have HN16 := Aside0.mk (show 16 < n1 + 1 by omega)
      clear hN1 EN
      go_upto_region 13 with (fail)
      clear s1 hsl hfz h16 h16' HSL
      generalize WE.setCell ⟨q8, 1, none⟩ (.slice A10 n1 c10) = WE2 at DRP ⊢
      have EN := DRP
      clear DRP
      go_upto_region 13 with (fail)
      obtain ⟨vu, vr, hst⟩ := EN.out.ok
      have p0 := blk_cell (j := 0) EN.out.cq
      have p1 := blk_cell (j := 1) EN.out.cq
      have p2 := blk_cell (j := 2) EN.out.cq
      have y0 := blk_cell (j := 0) EN.out.cr
      have y1 := blk_cell (j := 1) EN.out.cr
      have y2 := blk_cell (j := 2) EN.out.cr
      have f0 := blk_frozen (j := 0) EN.out.cr
      have f1 := blk_frozen (j := 1) EN.out.cr
      have f2 := blk_frozen (j := 2) EN.out.cr
      have HST := Aside0.mk hst
      clear hst
      go_wp2
      obtain ⟨c0, c1, c2⟩ := set3_get (a := Value.slice A5 n5 c5) (b := Value.slice A10 n1 c10) (c := Value.slice none 0 0) y0 y1 y2
      have hb5 := below_set3 (a := Value.slice A5 n5 c5) (b := Value.slice A10 n1 c10) (c := Value.slice none 0 0) hler EN.out.b
      have hok5 := HST.out.put (Put1.three _ r (Value.slice A5 n5 c5) (Value.slice A10 n1 c10) (Value.slice none 0 0)) EN.out.cr.noI EN.out.e1 EN.out.e2
      generalize ((World.setCell _ ⟨r, 0, none⟩ (Value.slice A5 n5 c5)).setCell ⟨r, 1, none⟩ (Value.slice A10 n1 c10)).setCell ⟨r, 2, none⟩ (Value.slice none 0 0) = W99 at c0 c1 c2 hb5 hok5 ⊢
      refine bodyPost_ret (v := .tuple #[.agg #[.slice A5 n5 c5, .slice A10 n1 c10, .slice none 0 0], .int .i64 0]) (by simp [results, Tryd.results6, go_sem, c0, c1, c2]) rfl ?_
      exact ⟨A5, n5, c5, _, _, _, _, _, _, rfl, hb5, fun _ => ⟨vu, vr, _, _, hok5, by omega, by omega, hn5, by first | exact .inl ⟨.inl rfl, rfl, .inr ⟨rfl, HN16.out, rfl⟩⟩ | exact .inl ⟨.inr rfl, rfl, .inr ⟨rfl, HN16.out, rfl⟩⟩ | exact .inl ⟨.inl rfl, rfl, .inl ⟨by show n1 + 1 ≤ 16; have := HN1.out; omega, HN1.out.symm, rfl⟩⟩ | exact .inl ⟨.inr rfl, rfl, .inl ⟨by show n1 + 1 ≤ 16; have := HN1.out; omega, HN1.out.symm, rfl⟩⟩ | exact .inr (.inl ⟨rfl, rfl, rfl, rfl, rfl⟩) | exact .inr (.inl ⟨rfl, HM1.out, rfl, rfl, rfl⟩) | exact .inr (.inr ⟨rfl, rfl, rfl, rfl, rfl⟩) | exact .inr (.inr ⟨rfl, HM1.out, rfl, rfl, rfl⟩)⟩⟩
    · have h16' : ¬ (16 : Int) < (N1 : Int) := by omega
      clear hN1 DRP HSL
      go_upto_region 13 with (fail)
      clear s1
      go_upto_region 13 with (fail)
      obtain ⟨vu, vr, hst⟩ := EN.out.ok
      have p0 := blk_cell (j := 0) EN.out.cq
      have p1 := blk_cell (j := 1) EN.out.cq
      have p2 := blk_cell (j := 2) EN.out.cq
      have y0 := blk_cell (j := 0) EN.out.cr
      have y1 := blk_cell (j := 1) EN.out.cr
      have y2 := blk_cell (j := 2) EN.out.cr
      have f0 := blk_frozen (j := 0) EN.out.cr
      have f1 := blk_frozen (j := 1) EN.out.cr
      have f2 := blk_frozen (j := 2) EN.out.cr
      have HST := Aside0.mk hst
      clear hst
      go_wp2
      obtain ⟨c0, c1, c2⟩ := set3_get (a := Value.slice A5 n5 c5) (b := Value.slice A9 N1 c9) (c := Value.slice none 0 0) y0 y1 y2
      have hb5 := below_set3 (a := Value.slice A5 n5 c5) (b := Value.slice A9 N1 c9) (c := Value.slice none 0 0) hler EN.out.b
      have hok5 := HST.out.put (Put1.three _ r (Value.slice A5 n5 c5) (Value.slice A9 N1 c9) (Value.slice none 0 0)) EN.out.cr.noI EN.out.e1 EN.out.e2
      generalize ((World.setCell _ ⟨r, 0, none⟩ (Value.slice A5 n5 c5)).setCell ⟨r, 1, none⟩ (Value.slice A9 N1 c9)).setCell ⟨r, 2, none⟩ (Value.slice none 0 0) = W99 at c0 c1 c2 hb5 hok5 ⊢
      refine bodyPost_ret (v := .tuple #[.agg #[.slice A5 n5 c5, .slice A9 N1 c9, .slice none 0 0], .int .i64 0]) (by simp [results, Tryd.results6, go_sem, c0, c1, c2]) rfl ?_
      exact ⟨A5, n5, c5, _, _, _, _, _, _, rfl, hb5, fun _ => ⟨vu, vr, _, _, hok5, by omega, by omega, hn5, by first | exact .inl ⟨.inl rfl, rfl, .inr ⟨rfl, HN16.out, rfl⟩⟩ | exact .inl ⟨.inr rfl, rfl, .inr ⟨rfl, HN16.out, rfl⟩⟩ | exact .inl ⟨.inl rfl, rfl, .inl ⟨by show n1 + 1 ≤ 16; have := HN1.out; omega, HN1.out.symm, rfl⟩⟩ | exact .inl ⟨.inr rfl, rfl, .inl ⟨by show n1 + 1 ≤ 16; have := HN1.out; omega, HN1.out.symm, rfl⟩⟩ | exact .inr (.inl ⟨rfl, rfl, rfl, rfl, rfl⟩) | exact .inr (.inl ⟨rfl, HM1.out, rfl, rfl, rfl⟩) | exact .inr (.inr ⟨rfl, rfl, rfl, rfl, rfl⟩) | exact .inr (.inr ⟨rfl, HM1.out, rfl, rfl, rfl⟩)⟩⟩
  · skip
    have so := SO.out
    obtain ⟨hcq, l0, l1, l2⟩ := CH.out W9 (Below.refl _ _)
    have s0 := blk_cell (j := 0) hcq
    have s1 := blk_cell (j := 1) hcq
    have s2 := blk_cell (j := 2) hcq
    clear hcq
    go_upto_region 7 with (first
      | ((with_reducible refine gate_dst (N := 36) rfl ?_); at_builtin; refine rg_append (W := W9) rfl (.tmp 33) (.tmp 35) rfl rfl rfl AQ.out.u.row (by omega) ⟨p3, A3, n3, c3, B3, m3, d3⟩ ?_; intro A9 c9 W12 hR hA hBt; have PP := Aside0.mk (AQ.out.push1 ⟨p3, A3, n3, c3, B3, m3, d3⟩ V9.out HGC.out hR hA hBt); have hcq2 := PP.out.2.2.2.2.1; have p0 := blk_cell (j := 0) hcq2; have p1 := blk_cell (j := 1) hcq2; have p2 := (cell_off (W := W12) (b := q8) (o := 1) (v := .slice A9 (n1 + 1) c9) (by decide)).trans (blk_cell (j := 2) hcq2); have f0 := blk_frozen (j := 0) hcq2; have f1 := blk_frozen (j := 1) hcq2; have f2 := blk_frozen (j := 2) (hcq2.set1 (.slice A9 (n1 + 1) c9)); clear hR hA hBt hcq2))
    have EN := Aside0.mk (en_of (m1 := n1 + 1) (m2 := 0) BW4.out AQ.out.gq AQ.out.gr PP.out.1 PP.out.2.1 PP.out.2.2.1 (Ro.empty W12 D4.heap.size v7 s.x2 : Ro W12 D4.heap.size none 0 0 v7 s.x2) PP.out.2.2.2.2.1 PP.out.2.2.2.2.2 (Nat.le_refl _) (Nat.le_refl _) (by omega) (by omega) (by omega))
    have NQ := Aside0.mk (C3.rows PP.out.2.2.2.2.1 PP.out.2.2.1.row)
    have HSL := Aside0.mk (fun W => (show (Instr.slice 32 (.slice A9 (n1 + 1) c9) (some (.int .i64 1)) none none).run Tryd.prog W = .ok (.slice (if c9 = 1 then A9 else A9.map (·.add (1 * 3))) n1 (c9 - 1)) W from by have h1 := run_cdrop1 (A := A9) (n := n1 + 1) (c := c9) (by omega) W; rw [Nat.add_sub_cancel] at h1; exact h1))
    have DRP := Aside0.mk (EN.out.drop (by have h1 := AQ.out.gq; have h2 := BW4.out.size; omega) (by have h1 := AQ.out.gq; have h2 := AQ.out.gr; omega) NQ.out (fun ad e => by cases e))
    clear so l0 l1 l2 s0 s1 s2 p0 p1 p2 f0 f1 f2 PP AQ CH V9 CF SO NQ
    generalize ((W12.setCell ⟨q8, 1, none⟩ (.slice A9 (n1 + 1) c9)).setCell ⟨q8, 2, none⟩ (.slice none 0 0)) = WE at EN DRP ⊢
    generalize (if c9 = 1 then A9 else A9.map (·.add (1 * 3))) = A10 at HSL DRP
    generalize c9 - 1 = c10 at HSL DRP
    obtain ⟨N1, hN1⟩ : ∃ N1, n1 + 1 = N1 := ⟨_, rfl⟩
    rw [hN1] at EN HSL ⊢
    have s1 := blk_cell (j := 1) EN.out.cq
    have HN1 := Aside0.mk hN1
    by_cases h16 : 16 < N1
    · have h16' : (16 : Int) < (N1 : Int) := by omega
      have hsl := HSL.out WE
      have hfz := blk_frozen (j := 1) EN.out.cq
      have HN2 := Aside0.mk (show n1 ≤ 17 by omega)
      have HN16 := Aside0.mk (show 16 < n1 + 1 by omega)
      clear hN1 EN
      go_upto_region 13 with (fail)
      clear s1 hsl hfz h16 h16' HSL
      generalize WE.setCell ⟨q8, 1, none⟩ (.slice A10 n1 c10) = WE2 at DRP ⊢
      have EN := DRP
      clear DRP
      go_upto_region 13 with (fail)
      obtain ⟨vu, vr, hst⟩ := EN.out.ok
      have p0 := blk_cell (j := 0) EN.out.cq
      have p1 := blk_cell (j := 1) EN.out.cq
      have p2 := blk_cell (j := 2) EN.out.cq
      have y0 := blk_cell (j := 0) EN.out.cr
      have y1 := blk_cell (j := 1) EN.out.cr
      have y2 := blk_cell (j := 2) EN.out.cr
      have f0 := blk_frozen (j := 0) EN.out.cr
      have f1 := blk_frozen (j := 1) EN.out.cr
      have f2 := blk_frozen (j := 2) EN.out.cr
      have HST := Aside0.mk hst
      clear hst
      go_wp2
      obtain ⟨c0, c1, c2⟩ := set3_get (a := Value.slice A5 n5 c5) (b := Value.slice A10 n1 c10) (c := Value.slice none 0 0) y0 y1 y2
      have hb5 := below_set3 (a := Value.slice A5 n5 c5) (b := Value.slice A10 n1 c10) (c := Value.slice none 0 0) hler EN.out.b
      have hok5 := HST.out.put (Put1.three _ r (Value.slice A5 n5 c5) (Value.slice A10 n1 c10) (Value.slice none 0 0)) EN.out.cr.noI EN.out.e1 EN.out.e2
      generalize ((World.setCell _ ⟨r, 0, none⟩ (Value.slice A5 n5 c5)).setCell ⟨r, 1, none⟩ (Value.slice A10 n1 c10)).setCell ⟨r, 2, none⟩ (Value.slice none 0 0) = W99 at c0 c1 c2 hb5 hok5 ⊢
      refine bodyPost_ret (v := .tuple #[.agg #[.slice A5 n5 c5, .slice A10 n1 c10, .slice none 0 0], .int .i64 0]) (by simp [results, Tryd.results6, go_sem, c0, c1, c2]) rfl ?_
      exact ⟨A5, n5, c5, _, _, _, _, _, _, rfl, hb5, fun _ => ⟨vu, vr, _, _, hok5, by omega, by omega, hn5, by first | exact .inl ⟨.inl rfl, rfl, .inr ⟨rfl, HN16.out, rfl⟩⟩ | exact .inl ⟨.inr rfl, rfl, .inr ⟨rfl, HN16.out, rfl⟩⟩ | exact .inl ⟨.inl rfl, rfl, .inl ⟨by show n1 + 1 ≤ 16; have := HN1.out; omega, HN1.out.symm, rfl⟩⟩ | exact .inl ⟨.inr rfl, rfl, .inl ⟨by show n1 + 1 ≤ 16; have := HN1.out; omega, HN1.out.symm, rfl⟩⟩ | exact .inr (.inl ⟨rfl, rfl, rfl, rfl, rfl⟩) | exact .inr (.inl ⟨rfl, HM1.out, rfl, rfl, rfl⟩) | exact .inr (.inr ⟨rfl, rfl, rfl, rfl, rfl⟩) | exact .inr (.inr ⟨rfl, HM1.out, rfl, rfl, rfl⟩)⟩⟩
    · have h16' : ¬ (16 : Int) < (N1 : Int) := by omega
      clear hN1 DRP HSL
      go_upto_region 13 with (fail)
      clear s1
      go_upto_region 13 with (fail)
      obtain ⟨vu, vr, hst⟩ := EN.out.ok
      have p0 := blk_cell (j := 0) EN.out.cq
      have p1 := blk_cell (j := 1) EN.out.cq
      have p2 := blk_cell (j := 2) EN.out.cq
      have y0 := blk_cell (j := 0) EN.out.cr
      have y1 := blk_cell (j := 1) EN.out.cr
      have y2 := blk_cell (j := 2) EN.out.cr
      have f0 := blk_frozen (j := 0) EN.out.cr
      have f1 := blk_frozen (j := 1) EN.out.cr
      have f2 := blk_frozen (j := 2) EN.out.cr
      have HST := Aside0.mk hst
      clear hst
      go_wp2
      obtain ⟨c0, c1, c2⟩ := set3_get (a := Value.slice A5 n5 c5) (b := Value.slice A9 N1 c9) (c := Value.slice none 0 0) y0 y1 y2
      have hb5 := below_set3 (a := Value.slice A5 n5 c5) (b := Value.slice A9 N1 c9) (c := Value.slice none 0 0) hler EN.out.b
      have hok5 := HST.out.put (Put1.three _ r (Value.slice A5 n5 c5) (Value.slice A9 N1 c9) (Value.slice none 0 0)) EN.out.cr.noI EN.out.e1 EN.out.e2
      generalize ((World.setCell _ ⟨r, 0, none⟩ (Value.slice A5 n5 c5)).setCell ⟨r, 1, none⟩ (Value.slice A9 N1 c9)).setCell ⟨r, 2, none⟩ (Value.slice none 0 0) = W99 at c0 c1 c2 hb5 hok5 ⊢
      refine bodyPost_ret (v := .tuple #[.agg #[.slice A5 n5 c5, .slice A9 N1 c9, .slice none 0 0], .int .i64 0]) (by simp [results, Tryd.results6, go_sem, c0, c1, c2]) rfl ?_
      exact ⟨A5, n5, c5, _, _, _, _, _, _, rfl, hb5, fun _ => ⟨vu, vr, _, _, hok5, by omega, by omega, hn5, by first | exact .inl ⟨.inl rfl, rfl, .inr ⟨rfl, HN16.out, rfl⟩⟩ | exact .inl ⟨.inr rfl, rfl, .inr ⟨rfl, HN16.out, rfl⟩⟩ | exact .inl ⟨.inl rfl, rfl, .inl ⟨by show n1 + 1 ≤ 16; have := HN1.out; omega, HN1.out.symm, rfl⟩⟩ | exact .inl ⟨.inr rfl, rfl, .inl ⟨by show n1 + 1 ≤ 16; have := HN1.out; omega, HN1.out.symm, rfl⟩⟩ | exact .inr (.inl ⟨rfl, rfl, rfl, rfl, rfl⟩) | exact .inr (.inl ⟨rfl, HM1.out, rfl, rfl, rfl⟩) | exact .inr (.inr ⟨rfl, rfl, rfl, rfl, rfl⟩) | exact .inr (.inr ⟨rfl, HM1.out, rfl, rfl, rfl⟩)⟩⟩
  · skip
    have hpos : 0 < n1 := F89.out.1 rfl
    obtain ⟨m1, hm1⟩ : ∃ m, n1 = m + 1 := ⟨n1 - 1, by omega⟩
    have so := SO.out
    go_upto_region 10 with (fail)
    clear so
    have HM1 := Aside0.mk hm1
    have HSUB := Aside0.mk (show IntKind.i64.wrap ((n1 : Int) - 1) = (m1 : Int) by rw [i64_w]; unfold wrap64; omega)
    clear hm1 hpos
    have HB := Aside0.mk (below_drew1 (Below.refl W9.heap.size W9))
    refine start_ (n := 17) (S := fun w' => C3 w' q8 (.slice A5 n5 c5) (.slice A6 n1 c6) (.slice A7 n2 c7) ∧ (w'.cell? ⟨q6, 0, none⟩ = some (.int .i64 p3) ∧ w'.cell? ⟨q6, 1, none⟩ = some (.slice A3 n3 c3) ∧ w'.cell? ⟨q6, 2, none⟩ = some (.slice B3 m3 d3))) (ds := [14, 16]) #[false, false, false, false, false, false, false, false, false, false, false, false, false, false, false, false, false] (by kernel_rfl) rfl rfl (CH.out _ HB.out) (fun hHeld => ?_)
    generalize W9.drew = D at HB hHeld ⊢
    refine pure_ (i := 0) (N := some 49) (v := ?_) (a' := ?_) #[true, false, false, false, false, false, false, false, false, false, false, false, false, false, false, false, false] rfl rfl (by kernel_rfl) (fun _ _ _ h => h) (Or.inl ⟨by rfl, ?_⟩) ?_ ?_
    rotate_left
    · intro w'
      go_simp
      with_reducible rfl
    rotate_left
    · simp only [Act.put, List.setIfInBounds_toArray, List.set_cons_zero, List.set_cons_succ, i64_w, i32_w]
      rfl
    refine pure_ (i := 2) (N := some 51) (v := ?_) (a' := ?_) #[true, false, true, false, false, false, false, false, false, false, false, false, false, false, false, false, false] rfl rfl (by kernel_rfl) (fun _ _ _ h => h) (Or.inl ⟨by rfl, ?_⟩) ?_ ?_
    rotate_left
    · intro w'
      go_simp
      with_reducible rfl
    rotate_left
    · simp only [Act.put, List.setIfInBounds_toArray, List.set_cons_zero, List.set_cons_succ, i64_w, i32_w]
      rfl
    refine pure_ (i := 7) (N := some 56) (v := ?_) (a' := ?_) #[true, false, true, false, false, false, false, true, false, false, false, false, false, false, false, false, false] rfl rfl (by kernel_rfl) (fun _ _ _ h => h) (Or.inl ⟨by rfl, ?_⟩) ?_ ?_
    rotate_left
    · intro w'
      go_simp
      with_reducible rfl
    rotate_left
    · simp only [Act.put, List.setIfInBounds_toArray, List.set_cons_zero, List.set_cons_succ, i64_w, i32_w]
      rfl
    refine take_ (i := 1) (N := some 50) (v := ?_) (a' := ?_) #[true, true, true, false, false, false, false, true, false, false, false, false, false, false, false, false, false] rfl rfl (by kernel_rfl) (fun _ _ _ h => h) (Or.inl ⟨by rfl, ?_⟩) hHeld ?_ ?_
    rotate_left
    · rintro w' ⟨hcq, l0, l1, l2⟩
      have s0 := blk_cell (j := 0) hcq
      have s1 := blk_cell (j := 1) hcq
      have s2 := blk_cell (j := 2) hcq
      go_simp
      with_reducible rfl
    rotate_left
    · simp only [Act.put, List.setIfInBounds_toArray, List.set_cons_zero, List.set_cons_succ, i64_w, i32_w]
      rfl
    refine take_ (i := 3) (N := some 52) (v := ?_) (a' := ?_) #[true, true, true, true, false, false, false, true, false, false, false, false, false, false, false, false, false] rfl rfl (by kernel_rfl) (fun _ _ _ h => h) (Or.inl ⟨by rfl, ?_⟩) hHeld ?_ ?_
    rotate_left
    · rintro w' ⟨hcq, l0, l1, l2⟩
      have s0 := blk_cell (j := 0) hcq
      have s1 := blk_cell (j := 1) hcq
      have s2 := blk_cell (j := 2) hcq
      go_simp
      with_reducible rfl
    rotate_left
    · simp only [Act.put, List.setIfInBounds_toArray, List.set_cons_zero, List.set_cons_succ, i64_w, i32_w]
      rfl
    refine take_ (i := 8) (N := some 57) (v := ?_) (a' := ?_) #[true, true, true, true, false, false, false, true, true, false, false, false, false, false, false, false, false] rfl rfl (by kernel_rfl) (fun _ _ _ h => h) (Or.inl ⟨by rfl, ?_⟩) hHeld ?_ ?_
    rotate_left
    · rintro w' ⟨hcq, l0, l1, l2⟩
      have s0 := blk_cell (j := 0) hcq
      have s1 := blk_cell (j := 1) hcq
      have s2 := blk_cell (j := 2) hcq
      go_simp
      with_reducible rfl
    rotate_left
    · simp only [Act.put, List.setIfInBounds_toArray, List.set_cons_zero, List.set_cons_succ, i64_w, i32_w]
      rfl
    refine take_ (i := 9) (N := some 58) (v := ?_) (a' := ?_) #[true, true, true, true, false, false, false, true, true, true, false, false, false, false, false, false, false] rfl rfl (by kernel_rfl) (fun _ _ _ h => h) (Or.inl ⟨by rfl, ?_⟩) hHeld ?_ ?_
    rotate_left
    · rintro w' ⟨hcq, l0, l1, l2⟩
      have s0 := blk_cell (j := 0) hcq
      have s1 := blk_cell (j := 1) hcq
      have s2 := blk_cell (j := 2) hcq
      go_simp
      with_reducible rfl
    rotate_left
    · simp only [Act.put, List.setIfInBounds_toArray, List.set_cons_zero, List.set_cons_succ, i64_w, i32_w]
      rfl
    refine pure_ (i := 4) (N := some 53) (v := ?_) (a' := ?_) #[true, true, true, true, true, false, false, true, true, true, false, false, false, false, false, false, false] rfl rfl (by kernel_rfl) (fun _ _ _ h => h) (Or.inl ⟨by rfl, ?_⟩) ?_ ?_
    rotate_left
    · intro w'
      go_simp
      with_reducible rfl
    rotate_left
    · simp only [Act.put, List.setIfInBounds_toArray, List.set_cons_zero, List.set_cons_succ, i64_w, i32_w]
      rfl
    refine pure_ (i := 5) (N := some 54) (v := ?_) (a' := ?_) #[true, true, true, true, true, true, false, true, true, true, false, false, false, false, false, false, false] rfl rfl (by kernel_rfl) (fun _ _ _ h => h) (Or.inl ⟨by rfl, ?_⟩) ?_ ?_
    rotate_left
    · intro w'
      go_simp
      rw [HSUB.out]
    rotate_left
    · simp only [Act.put, List.setIfInBounds_toArray, List.set_cons_zero, List.set_cons_succ, i64_w, i32_w]
      rfl
    refine pure_ (i := 6) (N := some 55) (v := .slice A6 m1 c6) (a' := ?_) #[true, true, true, true, true, true, true, true, true, true, false, false, false, false, false, false, false] rfl rfl (by kernel_rfl) (fun _ _ _ h => h) (Or.inl ⟨by rfl, ?_⟩) ?_ ?_
    · intro w'
      have hsl := run_ctake (A := A6) (show m1 ≤ n1 by have := HM1.out; omega) HC6.out w'
      go_simp
    rotate_left
    · simp only [Act.put, List.setIfInBounds_toArray, List.set_cons_zero, List.set_cons_succ, i64_w, i32_w]
      rfl
    refine pure_ (i := 13) (N := some 62) (v := ?_) (a' := ?_) #[true, true, true, true, true, true, true, true, true, true, false, false, false, true, false, false, false] rfl rfl (by kernel_rfl) (fun _ _ _ h => h) (Or.inl ⟨by rfl, ?_⟩) ?_ ?_
    rotate_left
    · intro w'
      go_simp
      with_reducible rfl
    rotate_left
    · simp only [Act.put, List.setIfInBounds_toArray, List.set_cons_zero, List.set_cons_succ, i64_w, i32_w]
      rfl
    refine one_ (i := 10) (N := some 59) #[true, true, true, true, true, true, true, true, true, true, true, false, false, true, false, false, false] rfl rfl (by kernel_rfl) (by decide) (fun K hK => ?_)
    refine goes_ Tryd.func20 (by kernel_rfl) rfl #[.agg #[.int .i64 p3, .slice A3 n3 c3, .slice B3 m3 d3]] (by rfl) rfl rfl (by (try simp only [List.map_toArray, List.map_cons, List.map_nil]); first | done | rfl) ?_
    (with_reducible refine (Inverse_calls (V9.out.below HB.out) (by have := HGC.out; omega) (by have := HGC.out; omega)).mono ?_)
    rintro e Z8 ⟨p8, E8, i8, j8, F8, k8, l8, rfl, h_, hb⟩
    refine ⟨_, rfl, ?_⟩
    have BZ8 := Aside0.mk (below_step HB.out hb)
    have V8 := Aside0.mk h_
    clear h_ hb
    have HSZ := Aside0.mk (show i8 ≤ 5000 ∧ k8 ≤ 5000 by have h1 := V8.out.g.hn; have h2 := V8.out.k.hn; simp only [Ch.inv] at h1 h2; omega)
    have AQ8 := Aside0.mk (AQ.out.below BZ8.out)
    have GQ6 := Aside0.mk (show q6 < D4.heap.size by exact HQ6.out)
    refine hK.out _ _ (CH.out _ BZ8.out) (fun hHeld => ?_)
    clear hK K
    refine norm_ (a' := ?_) ?_ ?_
    rotate_left
    · show Act.put _ (some 59) _ = _
      simp only [Act.put, List.setIfInBounds_toArray, List.set_cons_zero, List.set_cons_succ, i64_w, i32_w]
      rfl
    refine one_ (i := 11) (N := some 60) #[true, true, true, true, true, true, true, true, true, true, true, true, false, true, false, false, false] rfl rfl (by kernel_rfl) (by decide) (fun K hK => ?_)
    refine event_step (w1 := Z8.alloc (.cells #[.int .i64 p8, .slice E8 i8 j8, .slice F8 k8 l8] 68)) (v := .slice (some ⟨Z8.heap.size, 0, none⟩) 1 1) (by rfl) ?_ ?_
    · go_simp
      try rfl
    refine hK.out _ _ (CH.out _ (BZ8.out.alloc BZ8.out.size _)) (fun hHeld => ?_)
    clear hK K
    refine norm_ (a' := ?_) ?_ ?_
    rotate_left
    · show Act.put _ (some 60) _ = _
      simp only [Act.put, List.setIfInBounds_toArray, List.set_cons_zero, List.set_cons_succ, i64_w, i32_w]
      rfl
    refine one_ (i := 12) (N := some 61) #[true, true, true, true, true, true, true, true, true, true, true, true, true, true, false, false, false] rfl rfl (by kernel_rfl) (by decide) (fun K hK => ?_)
    refine rg_append_step (W := Z8) (by rfl) (.tmp 57) (.tmp 60) rfl rfl rfl (AQ8.out.rr.row) (by omega) ⟨p8, E8, i8, j8, F8, k8, l8⟩ ?_
    intro A9 c9 W12 hR hA hBt
    have PP := Aside0.mk (AQ8.out.push2 ⟨p8, E8, i8, j8, F8, k8, l8⟩ V8.out HSZ.out hR hA hBt)
    have H12 := Aside0.mk (show C3 W12 q8 (.slice A5 n5 c5) (.slice A6 n1 c6) (.slice A7 n2 c7) ∧ (W12.cell? ⟨q6, 0, none⟩ = some (.int .i64 p3) ∧ W12.cell? ⟨q6, 1, none⟩ = some (.slice A3 n3 c3) ∧ W12.cell? ⟨q6, 2, none⟩ = some (.slice B3 m3 d3)) from ⟨PP.out.2.2.2.2.1, by
      obtain ⟨-, l0, l1, l2⟩ := CH.out Z8 BZ8.out
      have hne : ∀ ad, A7 = some ad → q6 ≠ ad.block := fun ad e => by have h1 := AQ8.out.rr.hb ad e; have h2 := GQ6.out; omega
      exact ⟨hBt.cell l0 hne, hBt.cell l1 hne, hBt.cell l2 hne⟩⟩)
    clear hR hA hBt
    refine hK.out _ _ H12.out (fun hHeld => ?_)
    clear hK K
    refine norm_ (a' := ?_) ?_ ?_
    rotate_left
    · show Act.put _ (some 61) _ = _
      simp only [Act.put, List.setIfInBounds_toArray, List.set_cons_zero, List.set_cons_succ, i64_w, i32_w]
      rfl
    have cq := PP.out.2.2.2.2.1
    have p1 := blk_cell (j := 1) cq
    have p2 := (cell_off (W := W12) (b := q8) (o := 1) (v := .slice A6 m1 c6) (by decide)).trans (blk_cell (j := 2) cq)
    have f1 := blk_frozen (j := 1) cq
    have f2 := blk_frozen (j := 2) (cq.set1 (.slice A6 m1 c6))
    clear cq
    refine last_ (i := 14) (N := none) #[true, true, true, true, true, true, true, true, true, true, true, true, true, true, true, false, false] rfl rfl (by kernel_rfl) (by decide) (fun K hK => ?_)
    refine skip_ (w1 := ?_) (by rfl) rfl ?_ ?_
    rotate_left
    · go_simp
      rfl
    refine hK.out _ _ ?_
    clear hK K
    refine pure_ (i := 15) (N := some 63) (v := ?_) (a' := ?_) #[true, true, true, true, true, true, true, true, true, true, true, true, true, true, true, true, false] rfl rfl (by kernel_rfl) (fun _ _ _ h => h) (Or.inl ⟨by rfl, ?_⟩) ?_ ?_
    rotate_left
    · intro w'
      go_simp
      with_reducible rfl
    rotate_left
    · simp only [Act.put, List.setIfInBounds_toArray, List.set_cons_zero, List.set_cons_succ, i64_w, i32_w]
      rfl
    refine last_ (i := 16) (N := none) #[true, true, true, true, true, true, true, true, true, true, true, true, true, true, true, true, true] rfl rfl (by kernel_rfl) (by decide) (fun K hK => ?_)
    refine skip_ (w1 := ?_) (by rfl) rfl ?_ ?_
    rotate_left
    · go_simp
      rfl
    refine hK.out _ _ ?_
    clear hK K
    refine done_ (by kernel_rfl) ?_
    have EN := Aside0.mk (en_of (m1 := m1) (m2 := n2 + 1) BW4.out AQ.out.gq AQ.out.gr PP.out.1 PP.out.2.1 PP.out.2.2.1 PP.out.2.2.2.1 PP.out.2.2.2.2.1 PP.out.2.2.2.2.2 (by have := HM1.out; omega) (Nat.le_refl _) (by omega) (by omega) (by omega))
    have HM2 := HM1.out
    clear PP H12 AQ8 AQ CH HB V8 V9 HSZ BZ8 CF SO
    generalize ((W12.setCell ⟨q8, 1, none⟩ (.slice A6 m1 c6)).setCell ⟨q8, 2, none⟩ (.slice A9 (n2 + 1) c9)) = WE at EN ⊢
    go_upto_region 13 with (fail)
    obtain ⟨vu, vr, hst⟩ := EN.out.ok
    have p0 := blk_cell (j := 0) EN.out.cq
    have p1 := blk_cell (j := 1) EN.out.cq
    have p2 := blk_cell (j := 2) EN.out.cq
    have y0 := blk_cell (j := 0) EN.out.cr
    have y1 := blk_cell (j := 1) EN.out.cr
    have y2 := blk_cell (j := 2) EN.out.cr
    have f0 := blk_frozen (j := 0) EN.out.cr
    have f1 := blk_frozen (j := 1) EN.out.cr
    have f2 := blk_frozen (j := 2) EN.out.cr
    have HST := Aside0.mk hst
    clear hst
    go_wp2
    obtain ⟨c0, c1, c2⟩ := set3_get (a := Value.slice A5 n5 c5) (b := Value.slice A6 m1 c6) (c := Value.slice A9 (n2 + 1) c9) y0 y1 y2
    have hb5 := below_set3 (a := Value.slice A5 n5 c5) (b := Value.slice A6 m1 c6) (c := Value.slice A9 (n2 + 1) c9) hler EN.out.b
    have hok5 := HST.out.put (Put1.three _ r (Value.slice A5 n5 c5) (Value.slice A6 m1 c6) (Value.slice A9 (n2 + 1) c9)) EN.out.cr.noI EN.out.e1 EN.out.e2
    generalize ((World.setCell _ ⟨r, 0, none⟩ (Value.slice A5 n5 c5)).setCell ⟨r, 1, none⟩ (Value.slice A6 m1 c6)).setCell ⟨r, 2, none⟩ (Value.slice A9 (n2 + 1) c9) = W99 at c0 c1 c2 hb5 hok5 ⊢
    refine bodyPost_ret (v := .tuple #[.agg #[.slice A5 n5 c5, .slice A6 m1 c6, .slice A9 (n2 + 1) c9], .int .i64 0]) (by simp [results, Tryd.results6, go_sem, c0, c1, c2]) rfl ?_
    exact ⟨A5, n5, c5, _, _, _, _, _, _, rfl, hb5, fun _ => ⟨vu, vr, _, _, hok5, by omega, by omega, hn5, by first | exact .inl ⟨.inl rfl, rfl, .inr ⟨rfl, HN16.out, rfl⟩⟩ | exact .inl ⟨.inr rfl, rfl, .inr ⟨rfl, HN16.out, rfl⟩⟩ | exact .inl ⟨.inl rfl, rfl, .inl ⟨by show n1 + 1 ≤ 16; have := HN1.out; omega, HN1.out.symm, rfl⟩⟩ | exact .inl ⟨.inr rfl, rfl, .inl ⟨by show n1 + 1 ≤ 16; have := HN1.out; omega, HN1.out.symm, rfl⟩⟩ | exact .inr (.inl ⟨rfl, rfl, rfl, rfl, rfl⟩) | exact .inr (.inl ⟨rfl, HM1.out, rfl, rfl, rfl⟩) | exact .inr (.inr ⟨rfl, rfl, rfl, rfl, rfl⟩) | exact .inr (.inr ⟨rfl, HM1.out, rfl, rfl, rfl⟩)⟩⟩
  · skip
    have hpos : 0 < n2 := F89.out.2 rfl
    obtain ⟨m2, hm2⟩ : ∃ m, n2 = m + 1 := ⟨n2 - 1, by omega⟩
    have so := SO.out
    go_upto_region 12 with (fail)
    clear so
    have HM1 := Aside0.mk hm2
    have HSUB := Aside0.mk (show IntKind.i64.wrap ((n2 : Int) - 1) = (m2 : Int) by rw [i64_w]; unfold wrap64; omega)
    clear hm2 hpos
    have HB := Aside0.mk (below_drew1 (Below.refl W9.heap.size W9))
    refine start_ (n := 18) (S := fun w' => C3 w' q8 (.slice A5 n5 c5) (.slice A6 n1 c6) (.slice A7 n2 c7) ∧ (w'.cell? ⟨q6, 0, none⟩ = some (.int .i64 p3) ∧ w'.cell? ⟨q6, 1, none⟩ = some (.slice A3 n3 c3) ∧ w'.cell? ⟨q6, 2, none⟩ = some (.slice B3 m3 d3))) (ds := [15, 17]) #[false, false, false, false, false, false, false, false, false, false, false, false, false, false, false, false, false, false] (by kernel_rfl) rfl rfl (CH.out _ HB.out) (fun hHeld => ?_)
    generalize W9.drew = D at HB hHeld ⊢
    refine pure_ (i := 0) (N := some 66) (v := ?_) (a' := ?_) #[true, false, false, false, false, false, false, false, false, false, false, false, false, false, false, false, false, false] rfl rfl (by kernel_rfl) (fun _ _ _ h => h) (Or.inl ⟨by rfl, ?_⟩) ?_ ?_
    rotate_left
    · intro w'
      go_simp
      with_reducible rfl
    rotate_left
    · simp only [Act.put, List.setIfInBounds_toArray, List.set_cons_zero, List.set_cons_succ, i64_w, i32_w]
      rfl
    refine pure_ (i := 7) (N := some 73) (v := ?_) (a' := ?_) #[true, false, false, false, false, false, false, true, false, false, false, false, false, false, false, false, false, false] rfl rfl (by kernel_rfl) (fun _ _ _ h => h) (Or.inl ⟨by rfl, ?_⟩) ?_ ?_
    rotate_left
    · intro w'
      go_simp
      with_reducible rfl
    rotate_left
    · simp only [Act.put, List.setIfInBounds_toArray, List.set_cons_zero, List.set_cons_succ, i64_w, i32_w]
      rfl
    refine pure_ (i := 9) (N := some 75) (v := ?_) (a' := ?_) #[true, false, false, false, false, false, false, true, false, true, false, false, false, false, false, false, false, false] rfl rfl (by kernel_rfl) (fun _ _ _ h => h) (Or.inl ⟨by rfl, ?_⟩) ?_ ?_
    rotate_left
    · intro w'
      go_simp
      with_reducible rfl
    rotate_left
    · simp only [Act.put, List.setIfInBounds_toArray, List.set_cons_zero, List.set_cons_succ, i64_w, i32_w]
      rfl
    refine take_ (i := 1) (N := some 67) (v := ?_) (a' := ?_) #[true, true, false, false, false, false, false, true, false, true, false, false, false, false, false, false, false, false] rfl rfl (by kernel_rfl) (fun _ _ _ h => h) (Or.inl ⟨by rfl, ?_⟩) hHeld ?_ ?_
    rotate_left
    · rintro w' ⟨hcq, l0, l1, l2⟩
      have s0 := blk_cell (j := 0) hcq
      have s1 := blk_cell (j := 1) hcq
      have s2 := blk_cell (j := 2) hcq
      go_simp
      with_reducible rfl
    rotate_left
    · simp only [Act.put, List.setIfInBounds_toArray, List.set_cons_zero, List.set_cons_succ, i64_w, i32_w]
      rfl
    refine take_ (i := 2) (N := some 68) (v := ?_) (a' := ?_) #[true, true, true, false, false, false, false, true, false, true, false, false, false, false, false, false, false, false] rfl rfl (by kernel_rfl) (fun _ _ _ h => h) (Or.inl ⟨by rfl, ?_⟩) hHeld ?_ ?_
    rotate_left
    · rintro w' ⟨hcq, l0, l1, l2⟩
      have s0 := blk_cell (j := 0) hcq
      have s1 := blk_cell (j := 1) hcq
      have s2 := blk_cell (j := 2) hcq
      go_simp
      with_reducible rfl
    rotate_left
    · simp only [Act.put, List.setIfInBounds_toArray, List.set_cons_zero, List.set_cons_succ, i64_w, i32_w]
      rfl
    refine take_ (i := 8) (N := some 74) (v := ?_) (a' := ?_) #[true, true, true, false, false, false, false, true, true, true, false, false, false, false, false, false, false, false] rfl rfl (by kernel_rfl) (fun _ _ _ h => h) (Or.inl ⟨by rfl, ?_⟩) hHeld ?_ ?_
    rotate_left
    · rintro w' ⟨hcq, l0, l1, l2⟩
      have s0 := blk_cell (j := 0) hcq
      have s1 := blk_cell (j := 1) hcq
      have s2 := blk_cell (j := 2) hcq
      go_simp
      with_reducible rfl
    rotate_left
    · simp only [Act.put, List.setIfInBounds_toArray, List.set_cons_zero, List.set_cons_succ, i64_w, i32_w]
      rfl
    refine take_ (i := 10) (N := some 76) (v := ?_) (a' := ?_) #[true, true, true, false, false, false, false, true, true, true, true, false, false, false, false, false, false, false] rfl rfl (by kernel_rfl) (fun _ _ _ h => h) (Or.inl ⟨by rfl, ?_⟩) hHeld ?_ ?_
    rotate_left
    · rintro w' ⟨hcq, l0, l1, l2⟩
      have s0 := blk_cell (j := 0) hcq
      have s1 := blk_cell (j := 1) hcq
      have s2 := blk_cell (j := 2) hcq
      go_simp
      with_reducible rfl
    rotate_left
    · simp only [Act.put, List.setIfInBounds_toArray, List.set_cons_zero, List.set_cons_succ, i64_w, i32_w]
      rfl
    refine pure_ (i := 11) (N := some 77) (v := ?_) (a' := ?_) #[true, true, true, false, false, false, false, true, true, true, true, true, false, false, false, false, false, false] rfl rfl (by kernel_rfl) (fun _ _ _ h => h) (Or.inl ⟨by rfl, ?_⟩) ?_ ?_
    rotate_left
    · intro w'
      go_simp
      with_reducible rfl
    rotate_left
    · simp only [Act.put, List.setIfInBounds_toArray, List.set_cons_zero, List.set_cons_succ, i64_w, i32_w]
      rfl
    refine pure_ (i := 12) (N := some 78) (v := ?_) (a' := ?_) #[true, true, true, false, false, false, false, true, true, true, true, true, true, false, false, false, false, false] rfl rfl (by kernel_rfl) (fun _ _ _ h => h) (Or.inl ⟨by rfl, ?_⟩) ?_ ?_
    rotate_left
    · intro w'
      go_simp
      rw [HSUB.out]
    rotate_left
    · simp only [Act.put, List.setIfInBounds_toArray, List.set_cons_zero, List.set_cons_succ, i64_w, i32_w]
      rfl
    refine pure_ (i := 13) (N := some 79) (v := .slice A7 m2 c7) (a' := ?_) #[true, true, true, false, false, false, false, true, true, true, true, true, true, true, false, false, false, false] rfl rfl (by kernel_rfl) (fun _ _ _ h => h) (Or.inl ⟨by rfl, ?_⟩) ?_ ?_
    · intro w'
      have hsl := run_ctake (A := A7) (show m2 ≤ n2 by have := HM1.out; omega) HC7.out w'
      go_simp
    rotate_left
    · simp only [Act.put, List.setIfInBounds_toArray, List.set_cons_zero, List.set_cons_succ, i64_w, i32_w]
      rfl
    refine one_ (i := 3) (N := some 69) #[true, true, true, true, false, false, false, true, true, true, true, true, true, true, false, false, false, false] rfl rfl (by kernel_rfl) (by decide) (fun K hK => ?_)
    refine goes_ Tryd.func20 (by kernel_rfl) rfl #[.agg #[.int .i64 p3, .slice A3 n3 c3, .slice B3 m3 d3]] (by rfl) rfl rfl (by (try simp only [List.map_toArray, List.map_cons, List.map_nil]); first | done | rfl) ?_
    (with_reducible refine (Inverse_calls (V9.out.below HB.out) (by have := HGC.out; omega) (by have := HGC.out; omega)).mono ?_)
    rintro e Z8 ⟨p8, E8, i8, j8, F8, k8, l8, rfl, h_, hb⟩
    refine ⟨_, rfl, ?_⟩
    have BZ8 := Aside0.mk (below_step HB.out hb)
    have V8 := Aside0.mk h_
    clear h_ hb
    have HSZ := Aside0.mk (show i8 ≤ 5000 ∧ k8 ≤ 5000 by have h1 := V8.out.g.hn; have h2 := V8.out.k.hn; simp only [Ch.inv] at h1 h2; omega)
    have AQ8 := Aside0.mk (AQ.out.below BZ8.out)
    have GQ6 := Aside0.mk (show q6 < D4.heap.size by exact HQ6.out)
    refine hK.out _ _ (CH.out _ BZ8.out) (fun hHeld => ?_)
    clear hK K
    refine norm_ (a' := ?_) ?_ ?_
    rotate_left
    · show Act.put _ (some 69) _ = _
      simp only [Act.put, List.setIfInBounds_toArray, List.set_cons_zero, List.set_cons_succ, i64_w, i32_w]
      rfl
    have HB8 := HB
    clear HB AQ8
    have HB := BZ8
    clear BZ8
    have HSZ8 := HSZ
    clear HSZ GQ6
    have V8' : Aside0 (ChV Z8 p8 E8 i8 j8 F8 k8 l8 x.inv) := V8
    clear V8
    have BZ' := HB
    refine one_ (i := 4) (N := some 70) #[true, true, true, true, true, false, false, true, true, true, true, true, true, true, false, false, false, false] rfl rfl (by kernel_rfl) (by decide) (fun K hK => ?_)
    refine goes_ Tryd.func20 (by kernel_rfl) rfl #[.agg #[.int .i64 p8, .slice E8 i8 j8, .slice F8 k8 l8]] (by rfl) rfl rfl (by (try simp only [List.map_toArray, List.map_cons, List.map_nil]); first | done | rfl) ?_
    (with_reducible refine (Inverse_calls V8'.out (by have := HSZ8.out; omega) (by have := HSZ8.out; omega)).mono ?_)
    rintro e Z9 ⟨q8', E9, i9, j9, F9, k9, l9, rfl, h_, hb⟩
    refine ⟨_, rfl, ?_⟩
    have BZ8 := Aside0.mk (below_step HB.out hb)
    have V8 : Aside0 (ChV Z9 q8' E9 i9 j9 F9 k9 l9 x) := ⟨h_⟩
    clear h_ hb
    have HSZ := Aside0.mk (show i9 ≤ 5000 ∧ k9 ≤ 5000 by have h1 := V8.out.g.hn; have h2 := V8.out.k.hn; omega)
    have AQ8 := Aside0.mk (AQ.out.below BZ8.out)
    have GQ6 := Aside0.mk (show q6 < D4.heap.size by exact HQ6.out)
    refine hK.out _ _ (CH.out _ BZ8.out) (fun hHeld => ?_)
    clear hK K
    refine norm_ (a' := ?_) ?_ ?_
    rotate_left
    · show Act.put _ (some 70) _ = _
      simp only [Act.put, List.setIfInBounds_toArray, List.set_cons_zero, List.set_cons_succ, i64_w, i32_w]
      rfl
    refine one_ (i := 5) (N := some 71) #[true, true, true, true, true, true, false, true, true, true, true, true, true, true, false, false, false, false] rfl rfl (by kernel_rfl) (by decide) (fun K hK => ?_)
    refine event_step (w1 := Z9.alloc (.cells #[.int .i64 q8', .slice E9 i9 j9, .slice F9 k9 l9] 68)) (v := .slice (some ⟨Z9.heap.size, 0, none⟩) 1 1) (by rfl) ?_ ?_
    · go_simp
      try rfl
    refine hK.out _ _ (CH.out _ (BZ8.out.alloc BZ8.out.size _)) (fun hHeld => ?_)
    clear hK K
    refine norm_ (a' := ?_) ?_ ?_
    rotate_left
    · show Act.put _ (some 71) _ = _
      simp only [Act.put, List.setIfInBounds_toArray, List.set_cons_zero, List.set_cons_succ, i64_w, i32_w]
      rfl
    refine one_ (i := 6) (N := some 72) #[true, true, true, true, true, true, true, true, true, true, true, true, true, true, false, false, false, false] rfl rfl (by kernel_rfl) (by decide) (fun K hK => ?_)
    refine rg_append_step (W := Z9) (by rfl) (.tmp 67) (.tmp 71) rfl rfl rfl (AQ8.out.u.row) (by omega) ⟨q8', E9, i9, j9, F9, k9, l9⟩ ?_
    intro A9 c9 W12 hR hA hBt
    have PP := Aside0.mk (AQ8.out.push1 ⟨q8', E9, i9, j9, F9, k9, l9⟩ V8.out HSZ.out hR hA hBt)
    have H12 := Aside0.mk (show C3 W12 q8 (.slice A5 n5 c5) (.slice A6 n1 c6) (.slice A7 n2 c7) ∧ (W12.cell? ⟨q6, 0, none⟩ = some (.int .i64 p3) ∧ W12.cell? ⟨q6, 1, none⟩ = some (.slice A3 n3 c3) ∧ W12.cell? ⟨q6, 2, none⟩ = some (.slice B3 m3 d3)) from ⟨PP.out.2.2.2.2.1, by
      obtain ⟨-, l0, l1, l2⟩ := CH.out Z9 BZ8.out
      have hne : ∀ ad, A6 = some ad → q6 ≠ ad.block := fun ad e => by have h1 := AQ8.out.u.hb ad e; have h2 := GQ6.out; omega
      exact ⟨hBt.cell l0 hne, hBt.cell l1 hne, hBt.cell l2 hne⟩⟩)
    clear hR hA hBt
    refine hK.out _ _ H12.out (fun hHeld => ?_)
    clear hK K
    refine norm_ (a' := ?_) ?_ ?_
    rotate_left
    · show Act.put _ (some 72) _ = _
      simp only [Act.put, List.setIfInBounds_toArray, List.set_cons_zero, List.set_cons_succ, i64_w, i32_w]
      rfl
    have cq := PP.out.2.2.2.2.1
    have p1 := blk_cell (j := 1) cq
    have p2 := (cell_off (W := W12) (b := q8) (o := 1) (v := .slice A9 (n1 + 1) c9) (by decide)).trans (blk_cell (j := 2) cq)
    have f1 := blk_frozen (j := 1) cq
    have f2 := blk_frozen (j := 2) (cq.set1 (.slice A9 (n1 + 1) c9))
    clear cq
    refine pure_ (i := 14) (N := some 80) (v := ?_) (a' := ?_) #[true, true, true, true, true, true, true, true, true, true, true, true, true, true, true, false, false, false] rfl rfl (by kernel_rfl) (fun _ _ _ h => h) (Or.inl ⟨by rfl, ?_⟩) ?_ ?_
    rotate_left
    · intro w'
      go_simp
      with_reducible rfl
    rotate_left
    · simp only [Act.put, List.setIfInBounds_toArray, List.set_cons_zero, List.set_cons_succ, i64_w, i32_w]
      rfl
    refine last_ (i := 15) (N := none) #[true, true, true, true, true, true, true, true, true, true, true, true, true, true, true, true, false, false] rfl rfl (by kernel_rfl) (by decide) (fun K hK => ?_)
    refine skip_ (w1 := ?_) (by rfl) rfl ?_ ?_
    rotate_left
    · go_simp
      rfl
    refine hK.out _ _ ?_
    clear hK K
    refine pure_ (i := 16) (N := some 81) (v := ?_) (a' := ?_) #[true, true, true, true, true, true, true, true, true, true, true, true, true, true, true, true, true, false] rfl rfl (by kernel_rfl) (fun _ _ _ h => h) (Or.inl ⟨by rfl, ?_⟩) ?_ ?_
    rotate_left
    · intro w'
      go_simp
      with_reducible rfl
    rotate_left
    · simp only [Act.put, List.setIfInBounds_toArray, List.set_cons_zero, List.set_cons_succ, i64_w, i32_w]
      rfl
    refine last_ (i := 17) (N := none) #[true, true, true, true, true, true, true, true, true, true, true, true, true, true, true, true, true, true] rfl rfl (by kernel_rfl) (by decide) (fun K hK => ?_)
    refine skip_ (w1 := ?_) (by rfl) rfl ?_ ?_
    rotate_left
    · go_simp
      rfl
    refine hK.out _ _ ?_
    clear hK K
    refine done_ (by kernel_rfl) ?_
    have EN := Aside0.mk (en_of (m1 := n1 + 1) (m2 := m2) BW4.out AQ.out.gq AQ.out.gr PP.out.1 PP.out.2.1 PP.out.2.2.1 PP.out.2.2.2.1 PP.out.2.2.2.2.1 PP.out.2.2.2.2.2 (Nat.le_refl _) (by have := HM1.out; omega) (by omega) (by omega) (by omega))
    have HM2 := HM1.out
    clear PP H12 AQ8 AQ CH HB V8 V9 HSZ BZ8 CF SO
    generalize ((W12.setCell ⟨q8, 1, none⟩ (.slice A9 (n1 + 1) c9)).setCell ⟨q8, 2, none⟩ (.slice A7 m2 c7)) = WE at EN ⊢
    go_upto_region 13 with (fail)
    obtain ⟨vu, vr, hst⟩ := EN.out.ok
    have p0 := blk_cell (j := 0) EN.out.cq
    have p1 := blk_cell (j := 1) EN.out.cq
    have p2 := blk_cell (j := 2) EN.out.cq
    have y0 := blk_cell (j := 0) EN.out.cr
    have y1 := blk_cell (j := 1) EN.out.cr
    have y2 := blk_cell (j := 2) EN.out.cr
    have f0 := blk_frozen (j := 0) EN.out.cr
    have f1 := blk_frozen (j := 1) EN.out.cr
    have f2 := blk_frozen (j := 2) EN.out.cr
    have HST := Aside0.mk hst
    clear hst
    go_wp2
    obtain ⟨c0, c1, c2⟩ := set3_get (a := Value.slice A5 n5 c5) (b := Value.slice A9 (n1 + 1) c9) (c := Value.slice A7 m2 c7) y0 y1 y2
    have hb5 := below_set3 (a := Value.slice A5 n5 c5) (b := Value.slice A9 (n1 + 1) c9) (c := Value.slice A7 m2 c7) hler EN.out.b
    have hok5 := HST.out.put (Put1.three _ r (Value.slice A5 n5 c5) (Value.slice A9 (n1 + 1) c9) (Value.slice A7 m2 c7)) EN.out.cr.noI EN.out.e1 EN.out.e2
    generalize ((World.setCell _ ⟨r, 0, none⟩ (Value.slice A5 n5 c5)).setCell ⟨r, 1, none⟩ (Value.slice A9 (n1 + 1) c9)).setCell ⟨r, 2, none⟩ (Value.slice A7 m2 c7) = W99 at c0 c1 c2 hb5 hok5 ⊢
    refine bodyPost_ret (v := .tuple #[.agg #[.slice A5 n5 c5, .slice A9 (n1 + 1) c9, .slice A7 m2 c7], .int .i64 0]) (by simp [results, Tryd.results6, go_sem, c0, c1, c2]) rfl ?_
    exact ⟨A5, n5, c5, _, _, _, _, _, _, rfl, hb5, fun _ => ⟨vu, vr, _, _, hok5, by omega, by omega, hn5, by first | exact .inl ⟨.inl rfl, rfl, .inr ⟨rfl, HN16.out, rfl⟩⟩ | exact .inl ⟨.inr rfl, rfl, .inr ⟨rfl, HN16.out, rfl⟩⟩ | exact .inl ⟨.inl rfl, rfl, .inl ⟨by show n1 + 1 ≤ 16; have := HN1.out; omega, HN1.out.symm, rfl⟩⟩ | exact .inl ⟨.inr rfl, rfl, .inl ⟨by show n1 + 1 ≤ 16; have := HN1.out; omega, HN1.out.symm, rfl⟩⟩ | exact .inr (.inl ⟨rfl, rfl, rfl, rfl, rfl⟩) | exact .inr (.inl ⟨rfl, HM1.out, rfl, rfl, rfl⟩) | exact .inr (.inr ⟨rfl, rfl, rfl, rfl, rfl⟩) | exact .inr (.inr ⟨rfl, HM1.out, rfl, rfl, rfl⟩)⟩⟩
end
end Go.Proofs.YtenjldfflkinkaaDoor.Rop

namespace Go.Proofs.YtenjldfflkinkaaDoor.Sav
set_option linter.unusedVariables false
set_option linter.unusedSimpArgs false
open Go.RowKit Go.Proofs.YtenjldfflkinkaaDoor.F Go.Proofs.YtenjldfflkinkaaDoorW.PrintWords Go.Proofs.YtenjldfflkinkaaDoorW.PrintLast Go.Proofs.YtenjldfflkinkaaDoorW.PrintMore
open Go.Proofs.YtenjldfflkinkaaDoor.Rop (Sl Ch ChV CV ChAt Rc SV SP StOk rightE scl)
set_option linter.unusedSectionVars false
variable [Coe Unit Nat]
/-- bytes of one's own, behind others, from a world on -/
structure Aft (w w' : World) (v v' : Value) : Prop where
  size : w.heap.size ≤ w'.heap.size
  keep : ∀ k, k < w.heap.size → some k ≠ v.ownBlock → w'.heap[k]? = w.heap[k]?
  at_ : v'.ownBlock = v.ownBlock ∨ ∃ b, v'.ownBlock = some b ∧ w.heap.size ≤ b
theorem Aft.of_below {w w' : World} {v : Value} (h : Below w.heap.size w w') : Aft w w' v v := ⟨h.size, fun k hk _ => h.block k hk, .inl rfl⟩
theorem Aft.of_grown {w w' : World} {v v' : Value} (h : w.grownBy w' v.ownBlock) (ha : v'.ownBlock = v.ownBlock ∨ ∃ b, v'.ownBlock = some b ∧ w.heap.size ≤ b) : Aft w w' v v' := ⟨h.size, fun k hk hn => h.block k hk hn, ha⟩
theorem Aft.trans {a b c : World} {v v1 v2 : Value} (h : Aft a b v v1) (k : Aft b c v1 v2) : Aft a c v v2 := by
  have hs := h.size
  refine ⟨Nat.le_trans h.size k.size, fun i hi hn => (k.keep i (by omega) (fun he => ?_)).trans (h.keep i hi hn), ?_⟩
  · rcases h.at_ with h1 | ⟨b1, h1, h2⟩
    · exact hn (he.trans h1)
    · rw [h1] at he
      injection he with he
      omega
  · rcases k.at_ with h1 | ⟨b1, h1, h2⟩
    · rcases h.at_ with h3 | ⟨b2, h3, h4⟩
      · exact .inl (h1.trans h3)
      · exact .inr ⟨b2, h1.trans h3, h4⟩
    · exact .inr ⟨b1, h1, by omega⟩
theorem Aft.blk {w w' : World} {v v' : Value} {base : Nat} {l : List Int} {ok : Nat → Prop} (h : Aft w w' v v') (ho : Kd.R (Kd.int .u8) 5 w base ok v l) {g : Nat} {cs : Array Value} {t : Nat} (hg : w.heap[g]? = some (.cells cs t (0, 0))) (ht : t ≠ 5) : w'.heap[g]? = some (.cells cs t (0, 0)) := by
  refine (h.keep g (blk_lt hg) (fun he => ?_)).trans hg
  obtain ⟨inner, hown⟩ := Kd.R_own ho
  obtain ⟨cs', hc⟩ := own_typed hown g he.symm
  rw [hg] at hc
  injection hc with hc
  injection hc with _ hc _
  exact ht hc
def GivesAt (w0 w : World) (v : Value) (l : List Int) (e : Ending) (w' : World) : Prop := ∃ v' : Value, e = .returned v' ∧ Kd.R (Kd.int .u8) 5 w' w0.heap.size (fun _ => True) v' l ∧ Below w0.heap.size w0 w' ∧ Aft w w' v v'
/-- a text, as it is written down -/
def pieceB (t : List Int) : List Int := big4 ((utfE t).length : Int) ++ utfE t
set_option maxRecDepth 100000 in
theorem is_calls {w : World} {k : Int} (h : 0 ≤ k ∧ k ≤ 2147483647) : Calls Tryd.prog 21 #[.int .i64 k] w fun e w' => e = .returned (.bool true) ∧ Below w.heap.size w w' := by
  have c1 : (0 ≤ k) = True := eq_true h.1
  have c2 : (k ≤ 2147483647) = True := eq_true h.2
  clear h
  go_enter Tryd.func21, Tryd.ntmps21
  go_wp2
  go_ret
  exact ⟨rfl, Below.refl _ _⟩
set_option maxRecDepth 100000 in
theorem number_at {w0 w : World} {v : Value} {l : List Int} {a : Int} (hB : Below w0.heap.size w0 w) (ho : Kd.R (Kd.int .u8) 5 w w0.heap.size (fun _ => True) v l) (hl : l.length ≤ 1000000000) :
    Calls Tryd.prog 25 #[v, .int .i64 a] w (GivesAt w0 w v (l ++ big4 a)) := by
  have HO := Aside0.mk ho
  have HB := Aside0.mk hB
  clear ho hB
  go_enter Tryd.func25, Tryd.ntmps25
  go_wp2_with (first
    | ((with_reducible refine gate_dst (N := 17) rfl ?_); refine Kd.R_lit (Kd.int .u8) _ 5 ?hg (N := 17) ?hd (xs := ([a / 16777216 % 256, a / 65536 % 256, a / 256 % 256, a % 256] : List Int)) (inner := [.int .u8 ((a / 16777216) % 256), .int .u8 ((a / 65536) % 256), .int .u8 ((a / 256) % 256), .int .u8 (a % 256)]) (ok := fun _ => True) (okp := fun _ => True) ?hr ?hp (fun _ hk => hk) trivial (Below.refl _ _) (Nat.le_refl _) (by simp) ?_; (case hd => rfl); (case hg => rfl); (case hr => first | (go_simp; done) | (go_simp; rfl)); (case hp => exact (Reps.one (show Kd.M (Kd.int .u8) _ _ _ ((a / 16777216) % 256) [.int .u8 ((a / 16777216) % 256)] from rfl) (Reps.one (show Kd.M (Kd.int .u8) _ _ _ ((a / 65536) % 256) [.int .u8 ((a / 65536) % 256)] from rfl) (Reps.one (show Kd.M (Kd.int .u8) _ _ _ ((a / 256) % 256) [.int .u8 ((a / 256) % 256)] from rfl) (Reps.one (show Kd.M (Kd.int .u8) _ _ _ (a % 256) [.int .u8 (a % 256)] from rfl) (Reps.none _ _)))))); intro v1 w1 ho5 hb hg_ hnew_; clear hg_ hnew_; have HO1 := Aside0.mk (Kd.R_below HO.out hb); have HA1 := Aside0.mk (Aft.of_below (v := v) hb); have HB1 := Aside0.mk (below_step HB.out hb); obtain ⟨A1, c1, eo1⟩ := Kd.R_slice ho5; subst eo1; have HC1 := Aside0.mk (Kd.R_reads' ho5).2.2; clear hb ho5)
    | ((with_reducible refine gate_builtin (b := .append) (xs := #[.tmp 5, .tmp 17]) rfl ?_); at_builtin; refine Kd.R_append_rows (Kd.int .u8) (w0 := w0) w0.heap.size rfl (.tmp 5) (.tmp 17) 40 5 (.int .u8 0) 1 rfl Tryd.underlying40 info5 rfl (by decide) (by omega) v l [a / 16777216 % 256, a / 65536 % 256, a / 256 % 256, a % 256] _ _ _ (fun _ => True) (fun _ => False) rfl rfl HO1.out HC1.out (fun _ _ h => h) (fun _ h => h.elim) (fun _ _ => trivial) HB1.out HB1.out.size (by simp; omega) ?_; intro v2 w2 ho hb hg hat; have HO2 := Aside0.mk ho; have HB2 := Aside0.mk hb; have HA2 := Aside0.mk (HA1.out.trans (Aft.of_grown hg hat)); clear ho hb hg hat))
  go_ret
  exact ⟨v2, rfl, HO2.out, HB2.out, HA2.out⟩
theorem fresh_kept {w w1 w2 : World} {v v2 u : Value} {base : Nat} {l xs : List Int} (ho : Kd.R (Kd.int .u8) 5 w base (fun _ => True) v l) (hu : Kd.R (Kd.int .u8) 5 w1 w.heap.size (fun _ => True) u xs) (ha : Aft w1 w2 v v2) : Kd.R (Kd.int .u8) 5 w2 w.heap.size (fun _ => True) u xs :=
  Kd.R_mono (Kd.R_step (Kd.R_bound hu) (fun k hk hlt => ha.keep k hlt (fun he => by
    have h1 := Kd.R_lt ho k he.symm
    have h2 := hk.2.1
    omega))) (fun k hk => hk.1)
set_option maxRecDepth 100000 in
theorem piece_at {w0 w : World} {v : Value} {l t : List Int} {A : Option Addr} {n c : Nat} (hB : Below w0.heap.size w0 w) (ho : Kd.R (Kd.int .u8) 5 w w0.heap.size (fun _ => True) v l) (hl : l.length ≤ 100000000) (ht : Sl w0 A n c t) (hn : n ≤ 5000) (hs : ∀ r ∈ t, scal r) :
    Calls Tryd.prog 24 #[v, .slice A n c] w (GivesAt w0 w v (l ++ pieceB t)) := by
  have CE := Aside0.mk (Encode_calls (Kd.C_below ht.hC hB) ht.hn ht.hc (by omega) hs)
  have HO := Aside0.mk ho
  have HB := Aside0.mk hB
  have hul : (utfE t).length ≤ 4 * n := by have := utfE_len t; rw [ht.hn] at this; exact this
  unfold pieceB
  obtain ⟨u, hu⟩ : ∃ u, utfE t = u := ⟨_, rfl⟩
  rw [hu] at CE hul ⊢
  have CN := Aside0.mk (fun W (hb : Below w.heap.size w W) => number_at (w := W) (a := (u.length : Int)) (below_step hB hb) (Kd.R_below ho hb) (by omega))
  clear ho hB ht hs hu
  go_enter Tryd.func24, Tryd.ntmps24
  go_wp2_with (first
    | (go_at_call 58; (with_reducible refine CE.out.mono ?_); rintro e w1 ⟨v1, rfl, ho1, hb1⟩; obtain ⟨A1, c1, eo1⟩ := Kd.R_slice ho1; subst eo1; have HE1 := Aside0.mk ho1; have HA1 := Aside0.mk (Aft.of_below (v := v) hb1); have CN1 := Aside0.mk (CN.out _ hb1); have HB1 := Aside0.mk hb1; clear ho1 hb1)
    | (go_at_call 25; (with_reducible refine CN1.out.mono ?_); rintro e w2 ⟨v2, rfl, ho2, hb2, ha2⟩; have HO2 := Aside0.mk ho2; have HB2 := Aside0.mk hb2; have HU2 := Aside0.mk (fresh_kept HO.out HE1.out ha2); have HA2 := Aside0.mk (HA1.out.trans ha2); clear ho2 hb2 ha2)
    | ((with_reducible refine gate_builtin (b := .append) (xs := #[.tmp 17, .tmp 18]) rfl ?_); at_builtin; refine Kd.R_append_rows (Kd.int .u8) (w0 := w0) w0.heap.size rfl (.tmp 17) (.tmp 18) 40 5 (.int .u8 0) 1 rfl Tryd.underlying40 info5 rfl (by decide) (by omega) v2 (l ++ big4 (u.length : Int)) u _ _ _ (fun _ => True) (fun _ => False) rfl rfl HO2.out ?hC (fun _ _ h => h) (fun _ h => h.elim) (fun _ _ => trivial) HB2.out HB2.out.size (by simp [big4]; omega) ?_; (case hC => exact (Kd.R_reads' HU2.out).2.2); intro v3 w3 ho hb hg hat; have HO3 := Aside0.mk ho; have HB3 := Aside0.mk hb; have HA3 := Aside0.mk (HA2.out.trans (Aft.of_grown hg hat)); clear ho hb hg hat))
  go_ret
  exact ⟨v3, rfl, by have := HO3.out; rw [List.append_assoc] at this; exact this, HB3.out, HA3.out⟩
end Go.Proofs.YtenjldfflkinkaaDoor.Sav

namespace Go.Proofs.YtenjldfflkinkaaDoor.Sav
set_option linter.unusedVariables false
set_option linter.unusedSimpArgs false
open Go.RowKit Go.Proofs.YtenjldfflkinkaaDoor.F Go.Proofs.YtenjldfflkinkaaDoorW.PrintWords Go.Proofs.YtenjldfflkinkaaDoorW.PrintLast Go.Proofs.YtenjldfflkinkaaDoorW.PrintMore
open Go.Proofs.YtenjldfflkinkaaDoor.Rop (Sl Ch ChV CV ChAt Rc SV SP StOk rightE scl)
set_option linter.unusedSectionVars false
variable [Coe Unit Nat]
/-- a change, as it is written down; many -/
def chB (x : Ch) : List Int := big4 x.at_ ++ pieceB x.gone ++ pieceB x.came
def chsL (xs : Nat → Ch) : Nat → List Int
  | 0 => []
  | i + 1 => chsL xs i ++ chB (xs i)
def chsB (n : Nat) (xs : Nat → Ch) : List Int := (n : Int) :: chsL xs n
theorem pieceB_len (t : List Int) : (pieceB t).length ≤ 4 * t.length + 4 := by
  have := utfE_len t
  simp [pieceB, big4]
  omega
theorem chB_len (x : Ch) (h : x.gone.length ≤ 5000) (h2 : x.came.length ≤ 5000) : (chB x).length ≤ 40100 := by
  have h3 := pieceB_len x.gone
  have h4 := pieceB_len x.came
  simp [chB, big4]
  omega
theorem chsL_len (xs : Nat → Ch) : ∀ n, (∀ i, i < n → (xs i).gone.length ≤ 5000 ∧ (xs i).came.length ≤ 5000) → (chsL xs n).length ≤ n * 40100
  | 0, _ => by simp [chsL]
  | n + 1, h => by
    have h1 := chsL_len xs n (fun i hi => h i (by omega))
    have h2 := chB_len (xs n) (h n (by omega)).1 (h n (by omega)).2
    simp only [chsL, List.length_append]
    omega
set_option maxRecDepth 100000 in
set_option maxHeartbeats 4000000 in
theorem changes_at {w0 w : World} {v : Value} {l : List Int} {A : Option Addr} {n c : Nat} {vs : Nat → CV} {xs : Nat → Ch} (hB : Below w0.heap.size w0 w) (ho : Kd.R (Kd.int .u8) 5 w w0.heap.size (fun _ => True) v l) (hl : l.length ≤ 10000000) (hR : Rc w0 A n c vs xs) (hn : n ≤ 100) (hv : ∀ i, i < n → (vs i).n ≤ 5000 ∧ (vs i).m ≤ 5000) (hs : ∀ i, i < n → (∀ r ∈ (xs i).gone, scal r) ∧ (∀ r ∈ (xs i).came, scal r)) :
    Calls Tryd.prog 23 #[v, .slice A n c] w (GivesAt w0 w v (l ++ chsB n xs)) := by
  have HO := Aside0.mk ho
  have HB := Aside0.mk hB
  have HR := Aside0.mk hR
  have HV := Aside0.mk hv
  have HS := Aside0.mk hs
  have hxl : ∀ i, i < n → (xs i).gone.length ≤ 5000 ∧ (xs i).came.length ≤ 5000 := fun i hi => by
    obtain ⟨ad, _, h⟩ := hR.at_ i hi
    have h1 := h.h.g.hn
    have h2 := h.h.k.hn
    have h3 := hv i hi
    omega
  have hcl : ∀ i, i ≤ n → (chsL xs i).length ≤ 5000000 := fun i hi => by
    have h1 := chsL_len xs i (fun j hj => hxl j (by omega))
    have h2 : i * 40100 ≤ 100 * 40100 := Nat.mul_le_mul_right _ (by omega)
    omega
  have HCL := Aside0.mk hcl
  clear ho hB hR hv hs hxl hcl
  go_enter Tryd.func23, Tryd.ntmps23
  go_wp2_with (first
    | ((with_reducible refine gate_dst (N := 11) rfl ?_); refine Kd.R_lit (Kd.int .u8) _ 5 ?hg (N := 11) ?hd (xs := ([(n : Int)] : List Int)) (inner := [.int .u8 (n : Int)]) (ok := fun _ => True) (okp := fun _ => True) ?hr ?hp (fun _ hk => hk) trivial (Below.refl _ _) (Nat.le_refl _) (by simp) ?_; (case hd => rfl); (case hg => rfl); (case hr => first | (go_simp; done) | (go_simp; rfl)); (case hp => exact (Reps.one (show Kd.M (Kd.int .u8) _ _ _ (n : Int) [.int .u8 (n : Int)] from rfl) (Reps.none _ _))); intro v1 w1 ho5 hb hg_ hnew_; clear hg_ hnew_; have HO1 := Aside0.mk (Kd.R_below HO.out hb); have HA1 := Aside0.mk (Aft.of_below (v := v) hb); have HB1 := Aside0.mk (below_step HB.out hb); obtain ⟨A1, c1, eo1⟩ := Kd.R_slice ho5; subst eo1; have HC1 := Aside0.mk (Kd.R_reads' ho5).2.2; clear hb ho5)
    | ((with_reducible refine gate_builtin (b := .append) (xs := #[.tmp 7, .tmp 11]) rfl ?_); at_builtin; refine Kd.R_append_rows (Kd.int .u8) (w0 := w0) w0.heap.size rfl (.tmp 7) (.tmp 11) 40 5 (.int .u8 0) 1 rfl Tryd.underlying40 info5 rfl (by decide) (by omega) v l [(n : Int)] _ _ _ (fun _ => True) (fun _ => False) rfl rfl HO1.out HC1.out (fun _ _ h => h) (fun _ h => h.elim) (fun _ _ => trivial) HB1.out HB1.out.size (by simp; omega) ?_; intro v2 w2 ho hb hg hat; have HO2 := Aside0.mk ho; have HB2 := Aside0.mk hb; have HA2 := Aside0.mk (HA1.out.trans (Aft.of_grown hg hat)); clear ho hb hg hat))
  go_loopw [0, 15] (fun v0 v15 wr => ∃ i : Nat, v15 = .int .i64 (i : Int) ∧ i ≤ n ∧ Aside0 (Kd.R (Kd.int .u8) 5 wr w0.heap.size (fun _ => True) v0 ((l ++ [(n : Int)]) ++ chsL xs i)) ∧ Aside0 (Below w0.heap.size w0 wr) ∧ Aside0 (Aft w wr v v0)) (fun _ v15 _ => n - (intOf v15).toNat)
  case atStart => exact ⟨0, rfl, Nat.zero_le _, ⟨by simpa [chsL] using HO2.out⟩, HB2, HA2⟩
  case round =>
    obtain ⟨i, rfl, hi, HOr, HBr, HAr⟩ := hrel
    by_cases hlt : i < n
    · have hlt' : (i : Int) < (n : Int) := by omega
      obtain ⟨ad, rfl, hat0⟩ := HR.out.at_ i hlt
      have HAT0 := Aside0.mk hat0
      have hat := hat0.below (W' := wr) ⟨HBr.out.os, HBr.out.tape, HBr.out.output, HBr.out.size, HBr.out.block⟩
      have k0 := hat.c0
      have k1 := hat.c1
      have k2 := hat.c2
      have hsz := HV.out i hlt
      have hsc := HS.out i hlt
      have hcl := HCL.out i (by omega)
      have HX1 : Aside0 (chsL xs (i + 1) = chsL xs i ++ chB (xs i)) := ⟨rfl⟩
      obtain ⟨x, hx⟩ : ∃ x, xs i = x := ⟨_, rfl⟩
      obtain ⟨cv, hcv⟩ : ∃ cv, vs i = cv := ⟨_, rfl⟩
      rw [hx, hcv] at HAT0
      rw [hx] at HX1 hsc
      rw [hcv] at k0 k1 k2 hsz
      obtain ⟨p, A5, n5, c5, B5, m5, d5⟩ := cv
      dsimp only at k0 k1 k2 hsz
      obtain ⟨cl, hcl2⟩ : ∃ cl, (l ++ [(n : Int)]) ++ chsL xs i = cl := ⟨_, rfl⟩
      have hcl3 : cl.length ≤ 20000000 := by rw [← hcl2]; simp; omega
      rw [hcl2] at HOr
      have HCL2 := Aside0.mk hcl2
      have HSC := Aside0.mk hsc
      clear hat hat0 hx hcv hcl hcl2 hsc
      go_upto_region 5 with (fail)
      have kg := World.alloc_heap_new wr (.cells #[.int .i64 p, .slice A5 n5 c5, .slice B5 m5 d5] 68)
      have hb1 := below_alloc (Below.refl _ wr) (.cells #[.int .i64 p, .slice A5 n5 c5, .slice B5 m5 d5] 68)
      have KG := Aside0.mk kg
      have HO0 := Aside0.mk (Kd.R_below HOr.out hb1)
      have HB0 := Aside0.mk (below_step HBr.out hb1)
      have HA0 := Aside0.mk (HAr.out.trans (Aft.of_below (v := u0) hb1))
      clear kg hb1 HOr HBr HAr k0 k1 k2
      generalize wr.alloc (.cells #[.int .i64 p, .slice A5 n5 c5, .slice B5 m5 d5] 68) = W0 at KG HO0 HB0 HA0 ⊢
      generalize wr.heap.size = g6 at KG ⊢
      refine start_ (n := 11) (S := fun w' => w'.heap[g6]? = some (.cells #[.int .i64 p, .slice A5 n5 c5, .slice B5 m5 d5] 68 (0, 0))) (ds := []) #[false, false, false, false, false, false, false, false, false, false, false] (by kernel_rfl) rfl rfl KG.out (fun hHeld => ?_)
      have HOd := Aside0.mk (Kd.R_drew HO0.out)
      have HBd := Aside0.mk (below_drew HB0.out)
      have HAd := Aside0.mk (HA0.out.trans (Aft.of_below (v := u0) (below_drew (Below.refl W0.heap.size W0))))
      clear KG HO0 HB0 HA0
      generalize W0.drew = D at HOd HBd HAd hHeld ⊢
      refine pure_ (i := 0) (N := some 19) (v := ?_) (a' := ?_) #[true, false, false, false, false, false, false, false, false, false, false] rfl rfl (by kernel_rfl) (fun _ _ _ h => h) (Or.inl ⟨by rfl, ?_⟩) ?_ ?_
      rotate_left
      · intro w'
        go_simp
        with_reducible rfl
      rotate_left
      · simp only [Act.put, List.setIfInBounds_toArray, List.set_cons_zero, List.set_cons_succ, i64_w, i32_w]
        rfl
      refine pure_ (i := 1) (N := some 20) (v := ?_) (a' := ?_) #[true, true, false, false, false, false, false, false, false, false, false] rfl rfl (by kernel_rfl) (fun _ _ _ h => h) (Or.inl ⟨by rfl, ?_⟩) ?_ ?_
      rotate_left
      · intro w'
        go_simp
        with_reducible rfl
      rotate_left
      · simp only [Act.put, List.setIfInBounds_toArray, List.set_cons_zero, List.set_cons_succ, i64_w, i32_w]
        rfl
      refine pure_ (i := 4) (N := some 23) (v := ?_) (a' := ?_) #[true, true, false, false, true, false, false, false, false, false, false] rfl rfl (by kernel_rfl) (fun _ _ _ h => h) (Or.inl ⟨by rfl, ?_⟩) ?_ ?_
      rotate_left
      · intro w'
        go_simp
        with_reducible rfl
      rotate_left
      · simp only [Act.put, List.setIfInBounds_toArray, List.set_cons_zero, List.set_cons_succ, i64_w, i32_w]
        rfl
      refine pure_ (i := 7) (N := some 26) (v := ?_) (a' := ?_) #[true, true, false, false, true, false, false, true, false, false, false] rfl rfl (by kernel_rfl) (fun _ _ _ h => h) (Or.inl ⟨by rfl, ?_⟩) ?_ ?_
      rotate_left
      · intro w'
        go_simp
        with_reducible rfl
      rotate_left
      · simp only [Act.put, List.setIfInBounds_toArray, List.set_cons_zero, List.set_cons_succ, i64_w, i32_w]
        rfl
      refine take_ (i := 2) (N := some 21) (v := ?_) (a' := ?_) #[true, true, true, false, true, false, false, true, false, false, false] rfl rfl (by kernel_rfl) (fun _ _ _ h => h) (Or.inl ⟨by rfl, ?_⟩) hHeld ?_ ?_
      rotate_left
      · rintro w' hq
        have c1 := blk_cell hq 0
        simp only [List.getElem?_toArray, List.getElem?_cons_zero, List.getElem?_cons_succ] at c1
        go_simp
        with_reducible rfl
      rotate_left
      · simp only [Act.put, List.setIfInBounds_toArray, List.set_cons_zero, List.set_cons_succ, i64_w, i32_w]
        rfl
      refine take_ (i := 5) (N := some 24) (v := ?_) (a' := ?_) #[true, true, true, false, true, true, false, true, false, false, false] rfl rfl (by kernel_rfl) (fun _ _ _ h => h) (Or.inl ⟨by rfl, ?_⟩) hHeld ?_ ?_
      rotate_left
      · rintro w' hq
        have c1 := blk_cell hq 1
        simp only [List.getElem?_toArray, List.getElem?_cons_zero, List.getElem?_cons_succ] at c1
        go_simp
        with_reducible rfl
      rotate_left
      · simp only [Act.put, List.setIfInBounds_toArray, List.set_cons_zero, List.set_cons_succ, i64_w, i32_w]
        rfl
      refine take_ (i := 8) (N := some 27) (v := ?_) (a' := ?_) #[true, true, true, false, true, true, false, true, true, false, false] rfl rfl (by kernel_rfl) (fun _ _ _ h => h) (Or.inl ⟨by rfl, ?_⟩) hHeld ?_ ?_
      rotate_left
      · rintro w' hq
        have c1 := blk_cell hq 2
        simp only [List.getElem?_toArray, List.getElem?_cons_zero, List.getElem?_cons_succ] at c1
        go_simp
        with_reducible rfl
      rotate_left
      · simp only [Act.put, List.setIfInBounds_toArray, List.set_cons_zero, List.set_cons_succ, i64_w, i32_w]
        rfl
      refine one_ (i := 3) (N := some 22) #[true, true, true, true, true, true, false, true, true, false, false] rfl rfl (by kernel_rfl) (by decide) (fun K hK => ?_)
      refine goes_ Tryd.func25 (by kernel_rfl) rfl #[u0, .int .i64 p] (by rfl) rfl rfl (by (try simp only [List.map_toArray, List.map_cons, List.map_nil]); first | done | rfl) ?_
      (with_reducible refine (number_at HBd.out HOd.out (by omega)).mono ?_)
      rintro e w22 ⟨v22, rfl, ho, hb, ha⟩
      refine ⟨_, rfl, ?_⟩
      have HO22 := Aside0.mk ho
      have HB22 := Aside0.mk hb
      have hh22 := ha.blk HOd.out hHeld (by decide)
      have HA22 := Aside0.mk (HAd.out.trans ha)
      clear ho hb ha
      refine hK.out _ _ hh22 (fun hHeld => ?_)
      clear hK K
      refine norm_ (a' := ?_) ?_ ?_
      rotate_left
      · show Act.put _ (some 22) _ = _
        simp only [Act.put, List.setIfInBounds_toArray, List.set_cons_zero, List.set_cons_succ, i64_w, i32_w]
        rfl
      have hl22 : (cl ++ big4 p).length ≤ 30000000 := by simp [big4]; omega
      refine one_ (i := 6) (N := some 25) #[true, true, true, true, true, true, true, true, true, false, false] rfl rfl (by kernel_rfl) (by decide) (fun K hK => ?_)
      refine goes_ Tryd.func24 (by kernel_rfl) rfl #[v22, .slice A5 n5 c5] (by rfl) rfl rfl (by (try simp only [List.map_toArray, List.map_cons, List.map_nil]); first | done | rfl) ?_
      (with_reducible refine (piece_at HB22.out HO22.out (by omega) HAT0.out.h.g hsz.1 HSC.out.1).mono ?_)
      rintro e w25 ⟨v25, rfl, ho, hb, ha⟩
      refine ⟨_, rfl, ?_⟩
      have HO25 := Aside0.mk ho
      have HB25 := Aside0.mk hb
      have hh25 := ha.blk HO22.out hHeld (by decide)
      have HA25 := Aside0.mk (HA22.out.trans ha)
      clear ho hb ha
      refine hK.out _ _ hh25 (fun hHeld => ?_)
      clear hK K
      refine norm_ (a' := ?_) ?_ ?_
      rotate_left
      · show Act.put _ (some 25) _ = _
        simp only [Act.put, List.setIfInBounds_toArray, List.set_cons_zero, List.set_cons_succ, i64_w, i32_w]
        rfl
      have hl25 : ((cl ++ big4 p) ++ pieceB x.gone).length ≤ 60000000 := by have h1 := pieceB_len x.gone; have h2 := HAT0.out.h.g.hn; dsimp only at h2; simp only [List.length_append] at hl22 ⊢; omega
      refine one_ (i := 9) (N := some 28) #[true, true, true, true, true, true, true, true, true, true, false] rfl rfl (by kernel_rfl) (by decide) (fun K hK => ?_)
      refine goes_ Tryd.func24 (by kernel_rfl) rfl #[v25, .slice B5 m5 d5] (by rfl) rfl rfl (by (try simp only [List.map_toArray, List.map_cons, List.map_nil]); first | done | rfl) ?_
      (with_reducible refine (piece_at HB25.out HO25.out (by omega) HAT0.out.h.k hsz.2 HSC.out.2).mono ?_)
      rintro e w28 ⟨v28, rfl, ho, hb, ha⟩
      refine ⟨_, rfl, ?_⟩
      have HO28 := Aside0.mk ho
      have HB28 := Aside0.mk hb
      have hh28 := ha.blk HO25.out hHeld (by decide)
      have HA28 := Aside0.mk (HA25.out.trans ha)
      clear ho hb ha
      refine hK.out _ _ hh28 (fun hHeld => ?_)
      clear hK K
      refine norm_ (a' := ?_) ?_ ?_
      rotate_left
      · show Act.put _ (some 28) _ = _
        simp only [Act.put, List.setIfInBounds_toArray, List.set_cons_zero, List.set_cons_succ, i64_w, i32_w]
        rfl
      refine pure_ (i := 10) (N := some 0) (v := ?_) (a' := ?_) #[true, true, true, true, true, true, true, true, true, true, true] rfl rfl (by kernel_rfl) (fun _ _ _ h => h) (Or.inl ⟨by rfl, ?_⟩) ?_ ?_
      rotate_left
      · intro w'
        go_simp
        with_reducible rfl
      rotate_left
      · simp only [Act.put, List.setIfInBounds_toArray, List.set_cons_zero, List.set_cons_succ, i64_w, i32_w]
        rfl
      refine done_ (by kernel_rfl) ?_
      have HO9 := HO28
      have HB9 := HB28
      have HA9 := HA28
      have HPX : Aside0 (p = x.at_) := ⟨HAT0.out.h.hp⟩
      go_wp2
      go_roundw
      case measure => simp [intOf]; omega
      case rel =>
        refine ⟨i + 1, by go_num, by omega, ⟨?_⟩, HB9, HA9⟩
        rw [HX1.out]
        have := HO9.out
        rw [← HCL2.out] at this
        unfold chB
        rw [← List.append_assoc, ← List.append_assoc, ← List.append_assoc]
        rw [HPX.out] at this
        exact this
    · obtain rfl : i = n := by omega
      go_wp2
      go_ret
      exact ⟨_, rfl, by have := HOr.out; rw [List.append_assoc] at this; exact this, HBr.out, HAr.out⟩
end Go.Proofs.YtenjldfflkinkaaDoor.Sav

namespace Go.Proofs.YtenjldfflkinkaaDoor.Sav
set_option linter.unusedVariables false
set_option linter.unusedSimpArgs false
open Go.RowKit Go.Proofs.YtenjldfflkinkaaDoor.F Go.Proofs.YtenjldfflkinkaaDoorW.PrintWords Go.Proofs.YtenjldfflkinkaaDoorW.PrintLast Go.Proofs.YtenjldfflkinkaaDoorW.PrintMore
open Go.Proofs.YtenjldfflkinkaaDoor.Rop (Sl Ch ChV CV ChAt Rc SV SP StOk rightE scl goesT dn scl_iff Right_calls)
set_option linter.unusedSectionVars false
variable [Coe Unit Nat]
theorem scal_of {r : Int} (h : scl r = true) : scal r := by
  have := (scl_iff r).1 h
  exact ⟨by omega, by omega, this.2.2⟩
theorem scal_all {l : List Int} (h : l.all scl = true) : ∀ r ∈ l, scal r := fun r hr => scal_of (List.all_eq_true.1 h r hr)
theorem goes_scal {back : Bool} : ∀ (xs : List Ch) (t : List Int), (goesT back t xs).isSome = true → ∀ x ∈ xs, (∀ r ∈ x.gone, scal r) ∧ (∀ r ∈ x.came, scal r)
  | [], _, _, x, hx => by cases hx
  | y :: ys, t, h, x, hx => by
    simp only [goesT] at h
    cases hst : Go.Proofs.YtenjldfflkinkaaDoor.Rop.stepT back t y with
    | none => rw [hst] at h; cases h
    | some t' =>
      rw [hst] at h
      rcases List.mem_cons.1 hx with rfl | hx
      · unfold Go.Proofs.YtenjldfflkinkaaDoor.Rop.stepT at hst
        split at hst
        · rename_i hc
          cases back with
          | true => exact ⟨scal_all hc.2.2.1, scal_all hc.2.1⟩
          | false => exact ⟨scal_all hc.2.1, scal_all hc.2.2.1⟩
        · cases hst
      · exact goes_scal ys t' h x hx
theorem dn_mem {n : Nat} : ∀ (k : Nat) (h : k ≤ n) (i : Nat) (hi : i < k), (⟨i, by omega⟩ : Fin n) ∈ dn k h
  | k + 1, h, i, hi => by
    unfold dn
    rcases Nat.lt_succ_iff_lt_or_eq.1 hi with h1 | h1
    · exact List.mem_cons_of_mem _ (dn_mem k _ i h1)
    · subst h1; exact List.mem_cons_self ..
/-- what a right state is -/
structure Rt (v : SV) (s : SP) : Prop where
  n : v.n ≤ 4096
  n12 : v.n1 + v.n2 ≤ 16
  t : ∀ r ∈ s.text, scal r
  x1 : ∀ i, i < v.n1 → (∀ r ∈ (s.x1 i).gone, scal r) ∧ (∀ r ∈ (s.x1 i).came, scal r)
  x2 : ∀ i, i < v.n2 → (∀ r ∈ (s.x2 i).gone, scal r) ∧ (∀ r ∈ (s.x2 i).came, scal r)
theorem Rt.of {v : SV} {s : SP} (h : rightE v s = 0) : Rt v s := by
  unfold rightE at h
  split at h
  · cases h
  · rename_i h1
    split at h
    · cases h
    · rename_i h2
      split at h
      · cases h
      · rename_i h3
        have h4 : (goesT true s.text ((dn v.n1 (Nat.le_refl _)).map fun j => s.x1 j.1)).isSome = true := by
          cases hh : (goesT true s.text ((dn v.n1 (Nat.le_refl _)).map fun j => s.x1 j.1)).isSome with
          | true => rfl
          | false => exact absurd (.inl hh) h3
        have h5 : (goesT false s.text ((dn v.n2 (Nat.le_refl _)).map fun j => s.x2 j.1)).isSome = true := by
          cases hh : (goesT false s.text ((dn v.n2 (Nat.le_refl _)).map fun j => s.x2 j.1)).isSome with
          | true => rfl
          | false => exact absurd (.inr hh) h3
        refine ⟨by omega, by omega, scal_all (by simpa using h2), fun i hi => ?_, fun i hi => ?_⟩
        · exact goes_scal _ _ h4 _ (List.mem_map.2 ⟨⟨i, hi⟩, dn_mem _ _ i hi, rfl⟩)
        · exact goes_scal _ _ h5 _ (List.mem_map.2 ⟨⟨i, hi⟩, dn_mem _ _ i hi, rfl⟩)
/-- a state, as it is written down -/
def stateB (k : Int) (v : SV) (s : SP) : List Int := big4 k ++ pieceB s.text ++ chsB v.n1 s.x1 ++ chsB v.n2 s.x2
set_option maxRecDepth 100000 in
set_option maxHeartbeats 4000000 in
theorem State_calls {w : World} {v : SV} {s : SP} {k : Int} (h : StOk w v s) (hr : rightE v s = 0) (hk : 0 ≤ k ∧ k ≤ 2147483647) :
    Calls Tryd.prog 7 #[.int .i64 k, v.val] w fun e w' => ∃ u : Value, e = .returned (.tuple #[u, .int .i64 0]) ∧ Kd.R (Kd.int .u8) 5 w' w.heap.size (fun _ => True) u (stateB k v s) ∧ Below w.heap.size w w' := by
  have HRT := Aside0.mk (Rt.of hr)
  obtain ⟨A, n, c, A1, n1, c1, A2, n2, c2, v1, v2⟩ := v
  unfold stateB
  dsimp only [SV.val]
  have CI := Aside0.mk (fun W => is_calls (w := W) hk)
  have CR := Aside0.mk (fun W (hb : Below w.heap.size w W) => (show Calls Tryd.prog 22 #[.agg #[.slice A n c, .slice A1 n1 c1, .slice A2 n2 c2]] W (fun e w' => e = .returned (.int .i64 0) ∧ Below W.heap.size W w') from by
    have := Right_calls (h.below hb)
    rw [hr] at this
    exact this))
  have HT := Aside0.mk h
  have bn := h.bn
  have b1 := h.b1
  have b2 := h.b2
  dsimp only at bn b1 b2
  clear h hr hk
  go_enter Tryd.func7, Tryd.ntmps7
  go_upto_region 1 with (fail)
  have kg := World.alloc_heap_new w (.cells #[.slice A n c, .slice A1 n1 c1, .slice A2 n2 c2] 34)
  have hb1 := below_alloc (Below.refl _ w) (.cells #[.slice A n c, .slice A1 n1 c1, .slice A2 n2 c2] 34)
  have KG := Aside0.mk kg
  have HB0 := Aside0.mk hb1
  have cg0 := blk_cell kg 0
  have cg1 := blk_cell kg 1
  have cg2 := blk_cell kg 2
  simp only [List.getElem?_toArray, List.getElem?_cons_zero, List.getElem?_cons_succ] at cg0 cg1 cg2
  clear kg hb1
  generalize w.alloc (.cells #[.slice A n c, .slice A1 n1 c1, .slice A2 n2 c2] 34) = W0 at KG HB0 cg0 cg1 cg2 ⊢
  obtain ⟨g3, hg3⟩ : ∃ g, w.heap.size = g := ⟨_, rfl⟩
  rw [show Value.pointer (some ⟨w.heap.size, 0, none⟩) = Value.pointer (some ⟨g3, 0, none⟩) from by rw [hg3]]
  rw [hg3] at KG cg0 cg1 cg2
  clear hg3
  go_upto_region 3 with (go_at_call 21; (with_reducible refine (CI.out _).mono ?_); rintro e w1 ⟨rfl, hb⟩; have HB1 := Aside0.mk (below_step HB0.out hb); have KG1 := Aside0.mk (blk_below KG.out hb); have dg0 := (hb.cell (World.block_lt_of_cell? _ _ cg0)).trans cg0; have dg1 := (hb.cell (World.block_lt_of_cell? _ _ cg1)).trans cg1; have dg2 := (hb.cell (World.block_lt_of_cell? _ _ cg2)).trans cg2; clear hb cg0 cg1 cg2)
  go_upto_region 6 with (go_at_call 22; (with_reducible refine (CR.out _ HB1.out).mono ?_); rintro e w2 ⟨rfl, hb⟩; have HB2 := Aside0.mk (below_step HB1.out hb); have KG2 := Aside0.mk (blk_below KG1.out hb); clear hb dg0 dg1 dg2)
  clear CI CR
  refine start_ (n := 13) (S := fun w' => w'.heap[g3]? = some (.cells #[.slice A n c, .slice A1 n1 c1, .slice A2 n2 c2] 34 (0, 0))) (ds := []) #[false, false, false, false, false, false, false, false, false, false, false, false, false] (by kernel_rfl) rfl rfl KG2.out (fun hHeld => ?_)
  have HBd := Aside0.mk (below_drew HB2.out)
  clear HB1 HB0 KG KG1 KG2 HB2
  generalize w2.drew = D at HBd hHeld ⊢
  have HOd := Aside0.mk (Kd.R_nil (Kd.int .u8) 5 D w.heap.size (fun _ => True))
  have HAd := Aside0.mk (Aft.of_below (v := .slice none 0 0) (Below.refl D.heap.size D))
  refine pure_ (i := 0) (N := some 15) (v := ?_) (a' := ?_) #[true, false, false, false, false, false, false, false, false, false, false, false, false] rfl rfl (by kernel_rfl) (fun _ _ _ h => h) (Or.inl ⟨by rfl, ?_⟩) ?_ ?_
  rotate_left
  · intro w'
    go_simp
    with_reducible rfl
  rotate_left
  · simp only [Act.put, List.setIfInBounds_toArray, List.set_cons_zero, List.set_cons_succ, i64_w, i32_w]
    rfl
  refine pure_ (i := 2) (N := some 17) (v := ?_) (a' := ?_) #[true, false, true, false, false, false, false, false, false, false, false, false, false] rfl rfl (by kernel_rfl) (fun _ _ _ h => h) (Or.inl ⟨by rfl, ?_⟩) ?_ ?_
  rotate_left
  · intro w'
    go_simp
    with_reducible rfl
  rotate_left
  · simp only [Act.put, List.setIfInBounds_toArray, List.set_cons_zero, List.set_cons_succ, i64_w, i32_w]
    rfl
  refine pure_ (i := 5) (N := some 20) (v := ?_) (a' := ?_) #[true, false, true, false, false, true, false, false, false, false, false, false, false] rfl rfl (by kernel_rfl) (fun _ _ _ h => h) (Or.inl ⟨by rfl, ?_⟩) ?_ ?_
  rotate_left
  · intro w'
    go_simp
    with_reducible rfl
  rotate_left
  · simp only [Act.put, List.setIfInBounds_toArray, List.set_cons_zero, List.set_cons_succ, i64_w, i32_w]
    rfl
  refine pure_ (i := 8) (N := some 23) (v := ?_) (a' := ?_) #[true, false, true, false, false, true, false, false, true, false, false, false, false] rfl rfl (by kernel_rfl) (fun _ _ _ h => h) (Or.inl ⟨by rfl, ?_⟩) ?_ ?_
  rotate_left
  · intro w'
    go_simp
    with_reducible rfl
  rotate_left
  · simp only [Act.put, List.setIfInBounds_toArray, List.set_cons_zero, List.set_cons_succ, i64_w, i32_w]
    rfl
  refine take_ (i := 3) (N := some 18) (v := ?_) (a' := ?_) #[true, false, true, true, false, true, false, false, true, false, false, false, false] rfl rfl (by kernel_rfl) (fun _ _ _ h => h) (Or.inl ⟨by rfl, ?_⟩) hHeld ?_ ?_
  rotate_left
  · rintro w' hq
    have c1 := blk_cell hq 0
    simp only [List.getElem?_toArray, List.getElem?_cons_zero, List.getElem?_cons_succ] at c1
    go_simp
    with_reducible rfl
  rotate_left
  · simp only [Act.put, List.setIfInBounds_toArray, List.set_cons_zero, List.set_cons_succ, i64_w, i32_w]
    rfl
  refine take_ (i := 6) (N := some 21) (v := ?_) (a' := ?_) #[true, false, true, true, false, true, true, false, true, false, false, false, false] rfl rfl (by kernel_rfl) (fun _ _ _ h => h) (Or.inl ⟨by rfl, ?_⟩) hHeld ?_ ?_
  rotate_left
  · rintro w' hq
    have c1 := blk_cell hq 1
    simp only [List.getElem?_toArray, List.getElem?_cons_zero, List.getElem?_cons_succ] at c1
    go_simp
    with_reducible rfl
  rotate_left
  · simp only [Act.put, List.setIfInBounds_toArray, List.set_cons_zero, List.set_cons_succ, i64_w, i32_w]
    rfl
  refine take_ (i := 9) (N := some 24) (v := ?_) (a' := ?_) #[true, false, true, true, false, true, true, false, true, true, false, false, false] rfl rfl (by kernel_rfl) (fun _ _ _ h => h) (Or.inl ⟨by rfl, ?_⟩) hHeld ?_ ?_
  rotate_left
  · rintro w' hq
    have c1 := blk_cell hq 2
    simp only [List.getElem?_toArray, List.getElem?_cons_zero, List.getElem?_cons_succ] at c1
    go_simp
    with_reducible rfl
  rotate_left
  · simp only [Act.put, List.setIfInBounds_toArray, List.set_cons_zero, List.set_cons_succ, i64_w, i32_w]
    rfl
  refine one_ (i := 1) (N := some 16) #[true, true, true, true, false, true, true, false, true, true, false, false, false] rfl rfl (by kernel_rfl) (by decide) (fun K hK => ?_)
  refine goes_ Tryd.func25 (by kernel_rfl) rfl #[.slice none 0 0, .int .i64 k] (by rfl) rfl rfl (by (try simp only [List.map_toArray, List.map_cons, List.map_nil]); first | done | rfl) ?_
  (with_reducible refine (number_at HBd.out HOd.out (by simp)).mono ?_)
  rintro e w16 ⟨v16_, rfl, ho, hb, ha⟩
  refine ⟨_, rfl, ?_⟩
  have HO16 := Aside0.mk ho
  have HB16 := Aside0.mk hb
  have hh16 := ha.blk HOd.out hHeld (by decide)
  clear ho hb ha
  refine hK.out _ _ hh16 (fun hHeld => ?_)
  clear hK K
  refine norm_ (a' := ?_) ?_ ?_
  rotate_left
  · show Act.put _ (some 16) _ = _
    simp only [Act.put, List.setIfInBounds_toArray, List.set_cons_zero, List.set_cons_succ, i64_w, i32_w]
    rfl
  have hl16 : (([] : List Int) ++ big4 k).length ≤ 100 := by simp [big4]
  refine one_ (i := 4) (N := some 19) #[true, true, true, true, true, true, true, false, true, true, false, false, false] rfl rfl (by kernel_rfl) (by decide) (fun K hK => ?_)
  refine goes_ Tryd.func24 (by kernel_rfl) rfl #[v16_, .slice A n c] (by rfl) rfl rfl (by (try simp only [List.map_toArray, List.map_cons, List.map_nil]); first | done | rfl) ?_
  (with_reducible refine (piece_at HB16.out HO16.out (by omega) HT.out.t bn HRT.out.t).mono ?_)
  rintro e w19 ⟨v19_, rfl, ho, hb, ha⟩
  refine ⟨_, rfl, ?_⟩
  have HO19 := Aside0.mk ho
  have HB19 := Aside0.mk hb
  have hh19 := ha.blk HO16.out hHeld (by decide)
  clear ho hb ha
  refine hK.out _ _ hh19 (fun hHeld => ?_)
  clear hK K
  refine norm_ (a' := ?_) ?_ ?_
  rotate_left
  · show Act.put _ (some 19) _ = _
    simp only [Act.put, List.setIfInBounds_toArray, List.set_cons_zero, List.set_cons_succ, i64_w, i32_w]
    rfl
  have hl19 : ((([] : List Int) ++ big4 k) ++ pieceB s.text).length ≤ 60000 := by have h1 := pieceB_len s.text; have h2 := HT.out.t.hn; dsimp only at h2; simp only [List.length_append] at hl16 ⊢; omega
  refine one_ (i := 7) (N := some 22) #[true, true, true, true, true, true, true, true, true, true, false, false, false] rfl rfl (by kernel_rfl) (by decide) (fun K hK => ?_)
  refine goes_ Tryd.func23 (by kernel_rfl) rfl #[v19_, .slice A1 n1 c1] (by rfl) rfl rfl (by (try simp only [List.map_toArray, List.map_cons, List.map_nil]); first | done | rfl) ?_
  (with_reducible refine (changes_at (n := n1) (c := c1) (vs := v1) HB19.out HO19.out (by omega) HT.out.u (by have := HRT.out.n12; dsimp only at this; omega) HT.out.s1 HRT.out.x1).mono ?_)
  rintro e w22 ⟨v22_, rfl, ho, hb, ha⟩
  refine ⟨_, rfl, ?_⟩
  have HO22 := Aside0.mk ho
  have HB22 := Aside0.mk hb
  have hh22 := ha.blk HO19.out hHeld (by decide)
  clear ho hb ha
  refine hK.out _ _ hh22 (fun hHeld => ?_)
  clear hK K
  refine norm_ (a' := ?_) ?_ ?_
  rotate_left
  · show Act.put _ (some 22) _ = _
    simp only [Act.put, List.setIfInBounds_toArray, List.set_cons_zero, List.set_cons_succ, i64_w, i32_w]
    rfl
  have hxl : ∀ i, i < n1 → (s.x1 i).gone.length ≤ 5000 ∧ (s.x1 i).came.length ≤ 5000 := fun i hi => by
    obtain ⟨ad, _, h⟩ := HT.out.u.at_ i hi
    have h1 := h.h.g.hn
    have h2 := h.h.k.hn
    have h3 := HT.out.s1 i hi
    dsimp only at h1 h2 h3
    omega
  have hl22 : (((([] : List Int) ++ big4 k) ++ pieceB s.text) ++ chsB n1 s.x1).length ≤ 9000000 := by
    have h1 := chsL_len s.x1 n1 hxl
    have h2 : n1 * 40100 ≤ 16 * 40100 := Nat.mul_le_mul_right _ (by have := HRT.out.n12; dsimp only at this; omega)
    simp only [List.length_append, chsB, List.length_cons] at hl19 ⊢
    omega
  refine one_ (i := 10) (N := some 25) #[true, true, true, true, true, true, true, true, true, true, true, false, false] rfl rfl (by kernel_rfl) (by decide) (fun K hK => ?_)
  refine goes_ Tryd.func23 (by kernel_rfl) rfl #[v22_, .slice A2 n2 c2] (by rfl) rfl rfl (by (try simp only [List.map_toArray, List.map_cons, List.map_nil]); first | done | rfl) ?_
  (with_reducible refine (changes_at (n := n2) (c := c2) (vs := v2) HB22.out HO22.out (by omega) HT.out.r (by have := HRT.out.n12; dsimp only at this; omega) HT.out.s2 HRT.out.x2).mono ?_)
  rintro e w25 ⟨v25_, rfl, ho, hb, ha⟩
  refine ⟨_, rfl, ?_⟩
  have HO25 := Aside0.mk ho
  have HB25 := Aside0.mk hb
  have hh25 := ha.blk HO22.out hHeld (by decide)
  clear ho hb ha
  refine hK.out _ _ hh25 (fun hHeld => ?_)
  clear hK K
  refine norm_ (a' := ?_) ?_ ?_
  rotate_left
  · show Act.put _ (some 25) _ = _
    simp only [Act.put, List.setIfInBounds_toArray, List.set_cons_zero, List.set_cons_succ, i64_w, i32_w]
    rfl
  refine pure_ (i := 11) (N := some 4) (v := ?_) (a' := ?_) #[true, true, true, true, true, true, true, true, true, true, true, true, false] rfl rfl (by kernel_rfl) (fun _ _ _ h => h) (Or.inl ⟨by rfl, ?_⟩) ?_ ?_
  rotate_left
  · intro w'
    go_simp
    with_reducible rfl
  rotate_left
  · simp only [Act.put, List.setIfInBounds_toArray, List.set_cons_zero, List.set_cons_succ, i64_w, i32_w]
    rfl
  refine pure_ (i := 12) (N := some 5) (v := ?_) (a' := ?_) #[true, true, true, true, true, true, true, true, true, true, true, true, true] rfl rfl (by kernel_rfl) (fun _ _ _ h => h) (Or.inl ⟨by rfl, ?_⟩) ?_ ?_
  rotate_left
  · intro w'
    go_simp
    with_reducible rfl
  rotate_left
  · simp only [Act.put, List.setIfInBounds_toArray, List.set_cons_zero, List.set_cons_succ, i64_w, i32_w]
    rfl
  refine done_ (by kernel_rfl) ?_
  go_wp2
  go_ret2
  exact ⟨v25_, rfl, HO25.out, HB25.out⟩
end Go.Proofs.YtenjldfflkinkaaDoor.Sav

namespace Go.Proofs.YtenjldfflkinkaaDoor.Sav
set_option linter.unusedVariables false
set_option linter.unusedSimpArgs false
open Go.RowKit Go.Proofs.YtenjldfflkinkaaDoor.F Go.Proofs.YtenjldfflkinkaaDoorW.PrintWords Go.Proofs.YtenjldfflkinkaaDoorW.PrintLast Go.Proofs.YtenjldfflkinkaaDoorW.PrintMore
open Go.Proofs.YtenjldfflkinkaaDoor.Rop (Sl Ch ChV CV ChAt Rc SV SP StOk rightE scl)
set_option linter.unusedSectionVars false
variable [Coe Unit Nat]
set_option maxRecDepth 100000 in
theorem RSize_calls {w : World} {r : Int} (h : scal r) : Calls Tryd.prog 80 #[.int .i32 r] w fun e w' => e = .returned (.int .i64 (sizR r)) ∧ w = w' := by
  obtain ⟨h0, h1, h2⟩ := h
  have c1 : (r < 0) = False := eq_false (by omega)
  have c2 : (1114111 < r) = False := eq_false (by omega)
  unfold sizR
  by_cases h3 : 55296 ≤ r
  · have c3 : (55296 ≤ r) = True := eq_true h3
    have c4 : (r ≤ 57343) = False := eq_false (by omega)
    have c5 : (r < 128) = False := eq_false (by omega)
    have c6 : (r < 2048) = False := eq_false (by omega)
    rw [if_neg (by omega), if_neg (by omega)]
    by_cases h7 : r < 65536
    · rw [if_pos h7]
      have c7 : (r < 65536) = True := eq_true h7
      go_enter Tryd.func80, Tryd.ntmps80
      go_wp2
      go_ret
      exact ⟨rfl, rfl⟩
    · rw [if_neg h7]
      have c7 : (r < 65536) = False := eq_false h7
      go_enter Tryd.func80, Tryd.ntmps80
      go_wp2
      go_ret
      exact ⟨rfl, rfl⟩
  · have c3 : (55296 ≤ r) = False := eq_false h3
    have c7 : (r < 65536) = True := eq_true (by omega)
    by_cases h5 : r < 128
    · rw [if_pos h5]
      have c5 : (r < 128) = True := eq_true h5
      go_enter Tryd.func80, Tryd.ntmps80
      go_wp2
      go_ret
      exact ⟨rfl, rfl⟩
    · rw [if_neg h5]
      have c5 : (r < 128) = False := eq_false h5
      by_cases h6 : r < 2048
      · rw [if_pos h6]
        have c6 : (r < 2048) = True := eq_true h6
        go_enter Tryd.func80, Tryd.ntmps80
        go_wp2
        go_ret
        exact ⟨rfl, rfl⟩
      · rw [if_neg h6, if_pos (by omega)]
        have c6 : (r < 2048) = False := eq_false h6
        go_enter Tryd.func80, Tryd.ntmps80
        go_wp2
        go_ret
        exact ⟨rfl, rfl⟩
theorem siz_cases (x : Int) : sizR x = 1 ∧ x < 128 ∨ sizR x = 2 ∧ 128 ≤ x ∧ x < 2048 ∨ sizR x = 3 ∧ 2048 ≤ x ∧ x < 65536 ∨ sizR x = 4 ∧ 65536 ≤ x := by
  unfold sizR
  split
  · exact .inl ⟨rfl, ‹_›⟩
  · split
    · exact .inr (.inl ⟨rfl, by omega, ‹_›⟩)
    · split
      · exact .inr (.inr (.inl ⟨rfl, by omega, ‹_›⟩))
      · exact .inr (.inr (.inr ⟨rfl, by omega⟩))
theorem lit_R (w : World) (xs : List Int) (h : xs.length ≤ 1000) : Kd.R (Kd.int .u8) 5 (w.alloc (.cells (xs.map (Value.int .u8)).toArray 5)) w.heap.size (fun _ => True) (.slice (some ⟨w.heap.size, 0, none⟩) xs.length xs.length) xs :=
  Kd.R_of_own (enc := Value.int .u8) (xs := xs) (own_lit w w.heap.size 5 .u8 xs (Nat.le_refl _) (by omega)) (fun _ _ => trivial)
set_option maxRecDepth 100000 in
theorem form_calls {w : World} {x : Int} (h : scal x) : Calls Tryd.prog 82 #[.int .i32 x] w (GivesOb (encR x) w) := by
  have CS := Aside0.mk (fun W => RSize_calls (w := W) h)
  have hx8 := h.1
  have hx9 := h.2.1
  clear h
  rcases siz_cases x with ⟨hz, hx4⟩ | ⟨hz, hx3, hx4⟩ | ⟨hz, hx3, hx4⟩ | ⟨hz, hx3⟩ <;> rw [hz] at CS <;> clear hz
  · rw [show encR x = [x] from by unfold encR; rw [if_pos (by omega)]]
    go_enter Tryd.func82, Tryd.ntmps82
    go_wp2_with (go_at_call 80; (with_reducible refine (CS.out _).mono ?_); rintro e wz ⟨rfl, rfl⟩)
    go_ret
    exact ⟨_, rfl, lit_R w [x] (by simp), below_alloc (Below.refl _ _) _⟩
  · rw [show encR x = [192 + x / 64, 128 + x % 64] from by unfold encR; rw [if_neg (by omega), if_pos (by omega)]]
    go_enter Tryd.func82, Tryd.ntmps82
    go_wp2_with (go_at_call 80; (with_reducible refine (CS.out _).mono ?_); rintro e wz ⟨rfl, rfl⟩)
    go_ret
    exact ⟨_, rfl, lit_R w [192 + x / 64, 128 + x % 64] (by simp), below_alloc (Below.refl _ _) _⟩
  · rw [show encR x = [224 + x / 4096, 128 + x / 64 % 64, 128 + x % 64] from by unfold encR; rw [if_neg (by omega), if_neg (by omega), if_pos (by omega)]]
    go_enter Tryd.func82, Tryd.ntmps82
    go_wp2_with (go_at_call 80; (with_reducible refine (CS.out _).mono ?_); rintro e wz ⟨rfl, rfl⟩)
    go_ret
    exact ⟨_, rfl, lit_R w [224 + x / 4096, 128 + x / 64 % 64, 128 + x % 64] (by simp), below_alloc (Below.refl _ _) _⟩
  · rw [show encR x = [240 + x / 262144, 128 + x / 4096 % 64, 128 + x / 64 % 64, 128 + x % 64] from by unfold encR; rw [if_neg (by omega), if_neg (by omega), if_neg (by omega)]]
    go_enter Tryd.func82, Tryd.ntmps82
    go_wp2_with (go_at_call 80; (with_reducible refine (CS.out _).mono ?_); rintro e wz ⟨rfl, rfl⟩)
    go_ret
    exact ⟨_, rfl, lit_R w [240 + x / 262144, 128 + x / 4096 % 64, 128 + x / 64 % 64, 128 + x % 64] (by simp), below_alloc (Below.refl _ _) _⟩
set_option maxRecDepth 100000 in
theorem digits_calls {w : World} {a : Int} (h : 0 ≤ a ∧ a ≤ 2147483647) : Calls Tryd.prog 28 #[.int .i64 a] w (GivesOb (big4 a) w) := by
  have h0 := h.1
  have h1 := h.2
  clear h
  go_enter Tryd.func28, Tryd.ntmps28
  go_wp2
  go_ret
  refine ⟨_, rfl, ?_, below_alloc (Below.refl _ _) _⟩
  have h4 := lit_R w [a / 16777216, a / 65536 % 256, a / 256 % 256, a % 256] (by simp)
  rw [show big4 a = [a / 16777216, a / 65536 % 256, a / 256 % 256, a % 256] from by unfold big4; rw [Int.emod_eq_of_lt (by omega) (by omega)]]
  exact h4
set_option maxRecDepth 100000 in
theorem Ris_calls {w : World} {k : Int} (h : 0 ≤ k ∧ k ≤ 2147483647) : Calls Tryd.prog 26 #[.int .i64 k] w fun e w' => e = .returned (.bool true) ∧ Below w.heap.size w w' := by
  have c1 : (0 ≤ k) = True := eq_true h.1
  have c2 : (k ≤ 2147483647) = True := eq_true h.2
  clear h
  go_enter Tryd.func26, Tryd.ntmps26
  go_wp2
  go_ret
  exact ⟨rfl, Below.refl _ _⟩
set_option maxRecDepth 100000 in
set_option maxHeartbeats 8000000 in
theorem REncode_calls {w : World} {A : Option Addr} {n c : Nat} {l : List Int} (hC : Kd.C (Kd.int .i32) w A n l) (hl : l.length = n) (hc : n ≤ c) (hn : n ≤ 100000) (hs : ∀ r ∈ l, scal r) :
    Calls Tryd.prog 62 #[.slice A n c] w (GivesEnc (utfE l) w) := by
  have CSz := Aside0.mk (fun W (r : Int) (hr : scal r) => RSize_calls (w := W) hr)
  have CF := Aside0.mk (fun W (r : Int) (hr : scal r) => form_calls (w := W) hr)
  have HC := Aside0.mk hC
  have HL := Aside0.mk hl
  have HSC := Aside0.mk hs
  clear hC hs hl
  go_enter Tryd.func62, Tryd.ntmps62
  go_wp2
  go_loopw [5, 6] (fun v5 v6 wr => ∃ i : Nat, v6 = .int .i64 (i : Int) ∧ i ≤ n ∧ Aside0 (Kd.R (Kd.int .u8) 5 wr w.heap.size (fun _ => True) v5 (utfE (l.take i))) ∧ Aside0 (Below w.heap.size w wr)) (fun _ v6 _ => n - (intOf v6).toNat)
  case atStart => exact ⟨0, rfl, Nat.zero_le _, ⟨Kd.R_nil _ _ _ _ _⟩, ⟨Below.refl _ _⟩⟩
  case round =>
    obtain ⟨i, rfl, hi, HR, HB⟩ := hrel
    by_cases hlt : i < n
    · have hlt' : (i : Int) < (n : Int) := by omega
      obtain ⟨ad, rfl, hx0⟩ := rune_read HC.out HL.out i hlt
      have hx1 := (HB.out.cell (World.block_lt_of_cell? w _ hx0)).trans hx0
      clear hx0
      have hsx : scal (l.getD i 0) := by
        rw [List.getD_eq_getElem?_getD, List.getElem?_eq_getElem (show i < l.length by rw [HL.out]; exact hlt)]
        exact HSC.out _ (List.getElem_mem _)
      have HTK := Aside0.mk (utfE_take (l := l) (i := i) (by rw [HL.out]; exact hlt))
      obtain ⟨x, hx⟩ : ∃ x, l.getD i 0 = x := ⟨_, rfl⟩
      rw [hx] at hx1 hsx HTK
      clear hx
      have CS := Aside0.mk (fun W => CSz.out W x hsx)
      have CF1 := Aside0.mk (fun W => CF.out W x hsx)
      have hz : (sizR x == 0) = false := by rcases siz_cases x with ⟨h, _⟩ | ⟨h, _⟩ | ⟨h, _⟩ | ⟨h, _⟩ <;> rw [h] <;> rfl
      obtain ⟨sz, hsz⟩ : ∃ sz, sizR x = sz := ⟨_, rfl⟩
      rw [hsz] at CS hz
      clear hsz
      have hul : (utfE (l.take i)).length ≤ 4 * n := by
        have := utfE_len (l.take i)
        rw [List.length_take] at this
        omega
      have hul4 := (encR_len x).2
      obtain ⟨ls, hls⟩ : ∃ ls, utfE (l.take i) = ls := ⟨_, rfl⟩
      obtain ⟨us, hus⟩ : ∃ us, encR x = us := ⟨_, rfl⟩
      rw [hls] at HR HTK hul
      rw [hus] at CF1 HTK hul4
      clear hls hus hsx
      go_wp2_with (first
        | (go_at_call 80; (with_reducible refine (CS.out _).mono ?_); rintro e wz ⟨rfl, rfl⟩)
        | (go_at_call 82; (with_reducible refine (CF1.out _).mono ?_); rintro e w2 ⟨v2, rfl, ho2, hb2⟩; obtain ⟨A2, c2, eo2⟩ := Kd.R_slice ho2; subst eo2; have HC2 := Aside0.mk (Kd.R_reads' ho2).2.2; have HR2 := Aside0.mk (Kd.R_below HR.out hb2); have HB2 := Aside0.mk (below_step HB.out hb2); clear ho2 hb2)
        | ((with_reducible refine gate_builtin (b := .append) (xs := #[.tmp 20, .tmp 25]) rfl ?_); at_builtin; refine Kd.R_append_rows (Kd.int .u8) (w0 := w) w.heap.size rfl (.tmp 20) (.tmp 25) 40 5 (.int .u8 0) 1 rfl Tryd.underlying40 info5 rfl (by decide) (by omega) u5 ls us _ _ _ (fun _ => True) (fun _ => False) rfl rfl HR2.out HC2.out (fun _ _ h => h) (fun _ h => h.elim) (fun _ _ => trivial) HB2.out HB2.out.size (by omega) ?_; intro v3 w3 ho hb hg hat; have HO3 := Aside0.mk ho; have HB3 := Aside0.mk hb; clear ho hb hg hat))
      go_roundw
      case measure => simp [intOf]; omega
      case rel =>
        refine ⟨i + 1, by go_num, by omega, ⟨?_⟩, HB3⟩
        rw [HTK.out]
        exact HO3.out
    · obtain rfl : i = n := by omega
      go_wp2
      go_ret3
      refine ⟨_, rfl, ?_, HB.out⟩
      have := HR.out
      rw [List.take_of_length_le (by rw [HL.out]; exact Nat.le_refl _)] at this
      exact this
set_option maxRecDepth 100000 in
theorem Rpiece_calls {w : World} {t : List Int} {A : Option Addr} {n c : Nat} (ht : Sl w A n c t) (hn : n ≤ 5000) (hs : ∀ r ∈ t, scal r) :
    Calls Tryd.prog 29 #[.slice A n c] w (GivesOb (pieceB t) w) := by
  have CE := Aside0.mk (REncode_calls ht.hC ht.hn ht.hc (by omega) hs)
  have hul : (utfE t).length ≤ 4 * n := by have := utfE_len t; rw [ht.hn] at this; exact this
  unfold pieceB
  obtain ⟨u, hu⟩ : ∃ u, utfE t = u := ⟨_, rfl⟩
  rw [hu] at CE hul ⊢
  have CN := Aside0.mk (fun W => digits_calls (w := W) (a := (u.length : Int)) ⟨by omega, by omega⟩)
  clear ht hs hu
  go_enter Tryd.func29, Tryd.ntmps29
  go_wp2_with (first
    | (go_at_call 62; (with_reducible refine CE.out.mono ?_); rintro e w1 ⟨v1, rfl, ho1, hb1⟩; obtain ⟨A1, c1, eo1⟩ := Kd.R_slice ho1; subst eo1; have HE1 := Aside0.mk (Kd.R_reads' ho1).2.2; have HB1 := Aside0.mk hb1; clear ho1 hb1)
    | (go_at_call 28; (with_reducible refine (CN.out _).mono ?_); rintro e w2 ⟨v2, rfl, ho2, hb2⟩; have HO2 := Aside0.mk (Kd.R_lower ho2 HB1.out.size); have HC2 := Aside0.mk (Kd.C_below HE1.out hb2); have HB2 := Aside0.mk (below_step HB1.out hb2); clear ho2 hb2)
    | ((with_reducible refine gate_builtin (b := .append) (xs := #[.tmp 14, .tmp 15]) rfl ?_); at_builtin; refine Kd.R_append_rows (Kd.int .u8) (w0 := w) w.heap.size rfl (.tmp 14) (.tmp 15) 40 5 (.int .u8 0) 1 rfl Tryd.underlying40 info5 rfl (by decide) (by omega) v2 (big4 (u.length : Int)) u _ _ _ (fun _ => True) (fun _ => False) rfl rfl HO2.out HC2.out (fun _ _ h => h) (fun _ h => h.elim) (fun _ _ => trivial) HB2.out HB2.out.size (by simp [big4]; omega) ?_; intro v3 w3 ho hb hg hat; have HO3 := Aside0.mk ho; have HB3 := Aside0.mk hb; clear ho hb hg hat))
  go_ret
  exact ⟨v3, rfl, HO3.out, HB3.out⟩
end Go.Proofs.YtenjldfflkinkaaDoor.Sav

namespace Go.Proofs.YtenjldfflkinkaaDoor.Sav
set_option linter.unusedVariables false
set_option linter.unusedSimpArgs false
open Go.RowKit Go.Proofs.YtenjldfflkinkaaDoor.F Go.Proofs.YtenjldfflkinkaaDoorW.PrintWords Go.Proofs.YtenjldfflkinkaaDoorW.PrintLast Go.Proofs.YtenjldfflkinkaaDoorW.PrintMore
open Go.Proofs.YtenjldfflkinkaaDoor.Rop (Sl Ch ChV CV ChAt Rc SV SP StOk rightE scl)
set_option linter.unusedSectionVars false
variable [Coe Unit Nat]
set_option maxRecDepth 100000 in
set_option maxHeartbeats 8000000 in
theorem Rchanges_calls {w : World} {A : Option Addr} {n c : Nat} {vs : Nat → CV} {xs : Nat → Ch} (hR : Rc w A n c vs xs) (hn : n ≤ 100) (hv : ∀ i, i < n → (vs i).n ≤ 5000 ∧ (vs i).m ≤ 5000) (hs : ∀ i, i < n → (∀ r ∈ (xs i).gone, scal r) ∧ (∀ r ∈ (xs i).came, scal r)) (hp : ∀ i, i < n → 0 ≤ (xs i).at_ ∧ (xs i).at_ ≤ 2147483647) :
    Calls Tryd.prog 30 #[.slice A n c] w (GivesOb (chsB n xs) w) := by
  have HR := Aside0.mk hR
  have HV := Aside0.mk hv
  have HS := Aside0.mk hs
  have HP := Aside0.mk hp
  have hxl : ∀ i, i < n → (xs i).gone.length ≤ 5000 ∧ (xs i).came.length ≤ 5000 := fun i hi => by
    obtain ⟨ad, _, h⟩ := hR.at_ i hi
    have h1 := h.h.g.hn
    have h2 := h.h.k.hn
    have h3 := hv i hi
    omega
  have hcl : ∀ i, i ≤ n → (chsL xs i).length ≤ 5000000 := fun i hi => by
    have h1 := chsL_len xs i (fun j hj => hxl j (by omega))
    have h2 : i * 40100 ≤ 100 * 40100 := Nat.mul_le_mul_right _ (by omega)
    omega
  have HCL := Aside0.mk hcl
  have HO1 := Aside0.mk (lit_R w [(n : Int)] (by simp))
  have HB1 := Aside0.mk (below_alloc (Below.refl _ w) (.cells #[.int .u8 (n : Int)] 5))
  clear hR hv hs hxl hcl hp
  go_enter Tryd.func30, Tryd.ntmps30
  go_wp2
  simp only [List.map_cons, List.map_nil] at HO1
  generalize w.alloc (.cells #[.int .u8 (n : Int)] 5) = W1 at HO1 HB1 ⊢
  go_loopw [3, 4] (fun v3 v4 wr => ∃ i : Nat, v4 = .int .i64 (i : Int) ∧ i ≤ n ∧ Aside0 (Kd.R (Kd.int .u8) 5 wr w.heap.size (fun _ => True) v3 ([(n : Int)] ++ chsL xs i)) ∧ Aside0 (Below w.heap.size w wr)) (fun _ v4 _ => n - (intOf v4).toNat)
  case atStart => exact ⟨0, rfl, Nat.zero_le _, ⟨by simpa [chsL] using HO1.out⟩, HB1⟩
  case round =>
    obtain ⟨i, rfl, hi, HOr, HBr⟩ := hrel
    by_cases hlt : i < n
    · have hlt' : (i : Int) < (n : Int) := by omega
      obtain ⟨ad, rfl, hat0⟩ := HR.out.at_ i hlt
      have HAT0 := Aside0.mk hat0
      have HATW := Aside0.mk (fun W (hb : Below w.heap.size w W) => hat0.below hb)
      have hsz := HV.out i hlt
      have hsc := HS.out i hlt
      have hpx := HP.out i hlt
      have hcl := HCL.out i (by omega)
      have HX1 : Aside0 (chsL xs (i + 1) = chsL xs i ++ chB (xs i)) := ⟨rfl⟩
      obtain ⟨x, hx⟩ : ∃ x, xs i = x := ⟨_, rfl⟩
      obtain ⟨cv, hcv⟩ : ∃ cv, vs i = cv := ⟨_, rfl⟩
      rw [hx, hcv] at HATW
      rw [hx] at HX1 hsc hpx
      rw [hcv] at hsz
      obtain ⟨p, A5, n5, c5, B5, m5, d5⟩ := cv
      dsimp only at hsz HATW
      have hp0 : p = x.at_ := (HATW.out w (Below.refl _ _)).h.hp
      subst hp0
      obtain ⟨cl, hcl2⟩ : ∃ cl, [(n : Int)] ++ chsL xs i = cl := ⟨_, rfl⟩
      have hcl3 : cl.length ≤ 20000000 := by rw [← hcl2]; simp; omega
      rw [hcl2] at HOr
      have HCL2 := Aside0.mk hcl2
      have HSC := Aside0.mk hsc
      have CD := Aside0.mk (fun W => digits_calls (w := W) hpx)
      have h1 := pieceB_len x.gone
      have h2 := pieceB_len x.came
      have h3 := (HATW.out w (Below.refl _ _)).h.g.hn
      have h4 := (HATW.out w (Below.refl _ _)).h.k.hn
      dsimp only at h3 h4
      have hg5 : (pieceB x.gone).length ≤ 20004 := by omega
      have hk5 : (pieceB x.came).length ≤ 20004 := by omega
      clear hat0 hx hcv hcl hcl2 hsc HAT0 h1 h2 h3 h4 hpx
      have k0 := (HATW.out wr HBr.out).c0
      go_upto_region 6 with (first
        | (go_at_call 28; (with_reducible refine (CD.out _).mono ?_); rintro e w2 ⟨v2, rfl, ho2, hb2⟩; obtain ⟨A2, c2, eo2⟩ := Kd.R_slice ho2; subst eo2; have HC2 := Aside0.mk (Kd.R_reads' ho2).2.2; have HR2 := Aside0.mk (Kd.R_below HOr.out hb2); have HB2 := Aside0.mk (below_step HBr.out hb2); clear ho2 hb2)
        | ((with_reducible refine gate_builtin (b := .append) (xs := #[.tmp 15, .tmp 21]) rfl ?_); at_builtin; refine Kd.R_append_rows (Kd.int .u8) (w0 := w) w.heap.size rfl (.tmp 15) (.tmp 21) 40 5 (.int .u8 0) 1 rfl Tryd.underlying40 info5 rfl (by decide) (by omega) u3 cl (big4 x.at_) _ _ _ (fun _ => True) (fun _ => False) rfl rfl HR2.out HC2.out (fun _ _ h => h) (fun _ h => h.elim) (fun _ _ => trivial) HB2.out HB2.out.size (by simp [big4]; omega) ?_; intro v3 w3 ho hb hg hat; have HO3 := Aside0.mk ho; have HB3 := Aside0.mk hb; clear ho hb hg hat))
      have hl3 : (cl ++ big4 x.at_).length ≤ 30000000 := by simp [big4]; omega
      have k1 := (HATW.out w3 HB3.out).c1
      have CP3 := Aside0.mk (Rpiece_calls (HATW.out w3 HB3.out).h.g hsz.1 HSC.out.1)
      clear k0
      go_upto_region 7 with (first
        | (go_at_call 29; (with_reducible refine CP3.out.mono ?_); rintro e w4 ⟨v4, rfl, ho2, hb2⟩; obtain ⟨A4, c4, eo2⟩ := Kd.R_slice ho2; subst eo2; have HC4 := Aside0.mk (Kd.R_reads' ho2).2.2; have HR4 := Aside0.mk (Kd.R_below HO3.out hb2); have HB4 := Aside0.mk (below_step HB3.out hb2); clear ho2 hb2)
        | ((with_reducible refine gate_builtin (b := .append) (xs := #[.tmp 23, .tmp 29]) rfl ?_); at_builtin; refine Kd.R_append_rows (Kd.int .u8) (w0 := w) w.heap.size rfl (.tmp 23) (.tmp 29) 40 5 (.int .u8 0) 1 rfl Tryd.underlying40 info5 rfl (by decide) (by omega) v3 (cl ++ big4 x.at_) (pieceB x.gone) _ _ _ (fun _ => True) (fun _ => False) rfl rfl HR4.out HC4.out (fun _ _ h => h) (fun _ h => h.elim) (fun _ _ => trivial) HB4.out HB4.out.size (by omega) ?_; intro v5 w5 ho hb hg hat; have HO5 := Aside0.mk ho; have HB5 := Aside0.mk hb; clear ho hb hg hat))
      have hl5 : ((cl ++ big4 x.at_) ++ pieceB x.gone).length ≤ 40000000 := by rw [List.length_append]; omega
      have k2 := (HATW.out w5 HB5.out).c2
      have CP5 := Aside0.mk (Rpiece_calls (HATW.out w5 HB5.out).h.k hsz.2 HSC.out.2)
      clear k1
      go_wp2_with (first
        | (go_at_call 29; (with_reducible refine CP5.out.mono ?_); rintro e w6 ⟨v6, rfl, ho2, hb2⟩; obtain ⟨A6, c6, eo2⟩ := Kd.R_slice ho2; subst eo2; have HC6 := Aside0.mk (Kd.R_reads' ho2).2.2; have HR6 := Aside0.mk (Kd.R_below HO5.out hb2); have HB6 := Aside0.mk (below_step HB5.out hb2); clear ho2 hb2)
        | ((with_reducible refine gate_builtin (b := .append) (xs := #[.tmp 31, .tmp 37]) rfl ?_); at_builtin; refine Kd.R_append_rows (Kd.int .u8) (w0 := w) w.heap.size rfl (.tmp 31) (.tmp 37) 40 5 (.int .u8 0) 1 rfl Tryd.underlying40 info5 rfl (by decide) (by omega) v5 ((cl ++ big4 x.at_) ++ pieceB x.gone) (pieceB x.came) _ _ _ (fun _ => True) (fun _ => False) rfl rfl HR6.out HC6.out (fun _ _ h => h) (fun _ h => h.elim) (fun _ _ => trivial) HB6.out HB6.out.size (by omega) ?_; intro v7 w7 ho hb hg hat; have HO7 := Aside0.mk ho; have HB7 := Aside0.mk hb; clear ho hb hg hat))
      go_roundw
      case measure => simp [intOf]; omega
      case rel =>
        refine ⟨i + 1, by go_num, by omega, ⟨?_⟩, HB7⟩
        rw [HX1.out]
        have := HO7.out
        rw [← HCL2.out] at this
        unfold chB
        rw [← List.append_assoc, ← List.append_assoc, ← List.append_assoc]
        exact this
    · obtain rfl : i = n := by omega
      go_wp2
      go_ret
      exact ⟨_, rfl, HOr.out, HBr.out⟩
end Go.Proofs.YtenjldfflkinkaaDoor.Sav

namespace Go.Proofs.YtenjldfflkinkaaDoor.Sav
set_option linter.unusedVariables false
set_option linter.unusedSimpArgs false
open Go.RowKit Go.Proofs.YtenjldfflkinkaaDoor.F Go.Proofs.YtenjldfflkinkaaDoorW.PrintWords Go.Proofs.YtenjldfflkinkaaDoorW.PrintLast Go.Proofs.YtenjldfflkinkaaDoorW.PrintMore
open Go.Proofs.YtenjldfflkinkaaDoor.Rop (Sl Ch ChV CV ChAt Rc SV SP StOk rightE scl fitsB doneT GivesCh own_sl Sl.nil)
set_option linter.unusedSectionVars false
variable [Coe Unit Nat]
set_option maxRecDepth 100000 in
theorem Rscalars_calls {w : World} {A : Option Addr} {n c : Nat} {l : List Int} (h : Sl w A n c l) (hn : n ≤ 100000) (hs : ∀ r ∈ l, scal r) : Calls Tryd.prog 59 #[.slice A n c] w fun e w' => e = .returned (.bool true) ∧ w = w' := by
  have CSz := Aside0.mk (fun W (r : Int) (hr : scal r) => RSize_calls (w := W) hr)
  have HL := Aside0.mk h
  have HSC := Aside0.mk hs
  clear h hs
  go_enter Tryd.func59, Tryd.ntmps59
  go_wp2
  go_loopw [3] (fun v3 wr => ∃ i : Nat, v3 = .int .i64 (i : Int) ∧ i ≤ n ∧ wr = w) (fun v3 _ => n - (intOf v3).toNat)
  case atStart => exact ⟨0, rfl, Nat.zero_le _, rfl⟩
  case round =>
    obtain ⟨i, rfl, hi, rfl⟩ := hrel
    by_cases hlt : i < n
    · have hlt' : (i : Int) < (n : Int) := by omega
      obtain ⟨ad, rfl, hx1⟩ := rune_read HL.out.hC HL.out.hn i hlt
      have hsx : scal (l.getD i 0) := by
        rw [List.getD_eq_getElem?_getD, List.getElem?_eq_getElem (show i < l.length by rw [HL.out.hn]; exact hlt)]
        exact HSC.out _ (List.getElem_mem _)
      obtain ⟨x, hx⟩ : ∃ x, l.getD i 0 = x := ⟨_, rfl⟩
      rw [hx] at hx1 hsx
      clear hx
      have CS := Aside0.mk (fun W => CSz.out W x hsx)
      have hz : (sizR x == 0) = false := by rcases siz_cases x with ⟨h, _⟩ | ⟨h, _⟩ | ⟨h, _⟩ | ⟨h, _⟩ <;> rw [h] <;> rfl
      obtain ⟨sz, hsz⟩ : ∃ sz, sizR x = sz := ⟨_, rfl⟩
      rw [hsz] at CS hz
      clear hsz hsx
      go_wp2_with (go_at_call 80; (with_reducible refine (CS.out _).mono ?_); rintro e wz ⟨rfl, rfl⟩)
      go_roundw
      case measure => simp [intOf]; omega
      case rel => exact ⟨i + 1, by go_num, by omega, by first | rfl | trivial⟩
    · obtain rfl : i = n := by omega
      go_wp2
      go_ret
      exact ⟨rfl, rfl⟩
set_option maxRecDepth 100000 in
set_option maxHeartbeats 8000000 in
theorem Put_calls {w : World} {A D : Option Addr} {n c q r i j : Nat} {text came : List Int} (h : Sl w A n c text) (hk : Sl w D q r came) (hij : i ≤ j) (hj : j ≤ n) (hn : n ≤ 1000000) (hq : q ≤ 1000000) :
    Calls Tryd.prog 81 #[.slice A n c, .int .i64 (i : Int), .int .i64 (j : Int), .slice D q r] w (Go.Proofs.YtenjldfflkinkaaDoor.Rop.GivesSl (text.take i ++ came ++ text.drop j) w) := by
  have hrt := fun W => Go.Proofs.YtenjldfflkinkaaDoor.Rop.run_to (A := A) (c := c) (n := n) (x := i) (by omega) h.hc W
  have hrf := fun W => Go.Proofs.YtenjldfflkinkaaDoor.Rop.run_from (A := A) (c := c) (n := n) (y := j) hj W
  have hC : Kd.C (Kd.int .i32) w A text.length text := by rw [h.hn]; exact h.hC
  have hct : Kd.C (Kd.int .i32) w A i (text.take i) := Go.Proofs.YtenjldfflkinkaaDoor.Rop.C_take hC (by rw [h.hn]; omega)
  have hcd : Kd.C (Kd.int .i32) w (Go.Proofs.YtenjldfflkinkaaDoor.Rop.restA A c j) (n - j) (text.drop j) := by
    have := Go.Proofs.YtenjldfflkinkaaDoor.Rop.C_drop hC (c := c) (by rw [h.hn]; exact h.hc) (y := j) (by rw [h.hn]; exact hj)
    rw [h.hn] at this
    exact this
  obtain ⟨A7, hA7⟩ : ∃ x, Go.Proofs.YtenjldfflkinkaaDoor.Rop.restA A c j = x := ⟨_, rfl⟩
  rw [hA7] at hcd
  simp only [hA7] at hrf
  have HCT := Aside0.mk hct
  have HCD := Aside0.mk hcd
  have HK := Aside0.mk hk
  have HTN := Aside0.mk h.hn
  have hti : (text.take i).length = i := by rw [List.length_take, h.hn]; omega
  have htd : (text.drop j).length = n - j := by rw [List.length_drop, h.hn]
  have hcn := hk.hn
  obtain ⟨t1, ht1⟩ : ∃ x, text.take i = x := ⟨_, rfl⟩
  obtain ⟨t2, ht2⟩ : ∃ x, text.drop j = x := ⟨_, rfl⟩
  rw [ht1] at HCT hti ⊢
  rw [ht2] at HCD htd ⊢
  have HO0 : Aside0 (Kd.R (Kd.int .i32) 21 (w.alloc (.cells #[] 21)) w.heap.size (fun _ => True) (.slice (some ⟨w.heap.size, 0, none⟩) 0 0) []) := ⟨Kd.R_of_own (enc := Value.int .i32) (xs := []) (own_lit w w.heap.size 21 .i32 [] (Nat.le_refl _) (by simp)) (fun _ _ => trivial)⟩
  have HB0 := Aside0.mk (below_alloc (Below.refl _ w) (.cells #[] 21))
  have HCT0 := Aside0.mk (Kd.C_below HCT.out HB0.out)
  have hct0 := HCT
  have hcd0 := HCD
  have hk0 : Aside0 (Kd.C (Kd.int .i32) w D came.length came) := ⟨by rw [hcn]; exact HK.out.hC⟩
  rw [hcn] at hk0
  clear h hk hC hct hcd hA7 ht1 ht2 HK HCT HCD
  go_enter Tryd.func81, Tryd.ntmps81
  go_wp2_with (first
    | ((with_reducible refine gate_builtin (b := .append) (xs := #[.tmp 10, .tmp 13]) rfl ?_); at_builtin; refine Kd.R_append_rows (Kd.int .i32) (w0 := w) w.heap.size rfl (.tmp 10) (.tmp 13) 31 21 (.int .i32 0) 4 rfl Tryd.underlying31 info21 rfl (by decide) (by omega) (.slice (some ⟨w.heap.size, 0, none⟩) 0 0) [] t1 _ _ _ (fun _ => True) (fun _ => False) rfl rfl HO0.out HCT0.out (fun _ _ h => h) (fun _ h => h.elim) (fun _ _ => trivial) HB0.out HB0.out.size (by simp only [List.length_append, List.length_nil]; omega) ?_; intro v1 w1 ho hb hg hat; have HO1 := Aside0.mk ho; have HB1 := Aside0.mk hb; have HCT1 := Aside0.mk (Kd.C_below hct0.out hb); have HCD1 := Aside0.mk (Kd.C_below hcd0.out hb); have HK1 := Aside0.mk (Kd.C_below hk0.out hb); clear ho hb hg hat)
    | ((with_reducible refine gate_builtin (b := .append) (xs := #[.tmp 15, .tmp 16]) rfl ?_); at_builtin; refine Kd.R_append_rows (Kd.int .i32) (w0 := w) w.heap.size rfl (.tmp 15) (.tmp 16) 31 21 (.int .i32 0) 4 rfl Tryd.underlying31 info21 rfl (by decide) (by omega) v1 ([] ++ t1) came _ _ _ (fun _ => True) (fun _ => False) rfl rfl HO1.out HK1.out (fun _ _ h => h) (fun _ h => h.elim) (fun _ _ => trivial) HB1.out HB1.out.size (by simp only [List.length_append, List.length_nil]; omega) ?_; intro v2 w2 ho hb hg hat; have HO2 := Aside0.mk ho; have HB2 := Aside0.mk hb; have HCT2 := Aside0.mk (Kd.C_below hct0.out hb); have HCD2 := Aside0.mk (Kd.C_below hcd0.out hb); have HK2 := Aside0.mk (Kd.C_below hk0.out hb); clear ho hb hg hat)
    | ((with_reducible refine gate_builtin (b := .append) (xs := #[.tmp 18, .tmp 21]) rfl ?_); at_builtin; refine Kd.R_append_rows (Kd.int .i32) (w0 := w) w.heap.size rfl (.tmp 18) (.tmp 21) 31 21 (.int .i32 0) 4 rfl Tryd.underlying31 info21 rfl (by decide) (by omega) v2 (([] ++ t1) ++ came) t2 _ _ _ (fun _ => True) (fun _ => False) rfl rfl HO2.out HCD2.out (fun _ _ h => h) (fun _ h => h.elim) (fun _ _ => trivial) HB2.out HB2.out.size (by simp only [List.length_append, List.length_nil]; omega) ?_; intro v3 w3 ho hb hg hat; have HO3 := Aside0.mk ho; have HB3 := Aside0.mk hb; have HCT3 := Aside0.mk (Kd.C_below hct0.out hb); have HCD3 := Aside0.mk (Kd.C_below hcd0.out hb); have HK3 := Aside0.mk (Kd.C_below hk0.out hb); clear ho hb hg hat))
  go_ret
  obtain ⟨A9, n9, c9, e9, h9⟩ := own_sl (l := t1 ++ came ++ t2) (by have := HO3.out; simpa using this)
  subst e9
  exact ⟨A9, n9, c9, rfl, h9, HB3.out⟩
end Go.Proofs.YtenjldfflkinkaaDoor.Sav

namespace Go.Proofs.YtenjldfflkinkaaDoor.F
open Go.RowKit Go.Proofs.YtenjldfflkinkaaDoorW.PrintWords Go.Proofs.YtenjldfflkinkaaDoorW.PrintLast Go.Proofs.YtenjldfflkinkaaDoorW.PrintMore
attribute [local go_sem] max2_int min2_int max_two min_two max_three min_three max_four min_four
set_option linter.unusedVariables false
set_option linter.unusedSimpArgs false
/-! ### colophonref22_Turned: function 61 -/
def colophonref22_Turned.f (a0_0 : Int) (l0_1 : List Int) (l0_2 : List Int) : Option (Int × List Int × List Int) := (some (([] : List Int) : List Int)).bind fun y194 => (if y194.length + l0_2.length < 35184372088832 then ((some (([] : List Int) : List Int)).bind fun y200 => (if y200.length + l0_1.length < 35184372088832 then (some (a0_0, (y194 ++ l0_2), (y200 ++ l0_1))) else (none))) else (none))
def colophonref22_Turned.T1 : Bool × List (List Nat × List Nat) := (true, [([], []), ([0], [0]), ([], []), ([], []), ([3], [3]), ([2, 4], [2, 4]), ([], []), ([], []), ([7], [7]), ([6, 8, 5], [6, 8]), ([1, 5, 9], [1, 5, 9]), ([10, 9, 0, 1, 2, 3, 4, 5, 6, 7, 8, 9, 10], [10])])
def colophonref22_Turned.B1 : List Nat := [0, 1, 0, 0, 8, 28, 0, 0, 128, 508, 1023, 2047]
theorem colophonref22_Turned.tab1 : rtab .any (opsOf Tryd.f61 1) = colophonref22_Turned.T1 := by kernel_rfl
theorem colophonref22_Turned.bits1 : waitsOk colophonref22_Turned.T1.2 colophonref22_Turned.B1 = true := by kernel_rfl
set_option maxHeartbeats 8000000 in
set_option maxRecDepth 100000 in
theorem colophonref22_Turned.calls (a0_0 : Int) (A0_1 : Option Addr) (c0_1 : Nat) (l0_1 : List Int) (A0_2 : Option Addr) (c0_2 : Nat) (l0_2 : List Int) (r1 : Int) (r2 : List Int) (r3 : List Int) (w : World) (hr0_1 : Kd.C (Kd.int .i32) w A0_1 l0_1.length l0_1) (hc0_1 : l0_1.length ≤ c0_1) (hr0_2 : Kd.C (Kd.int .i32) w A0_2 l0_2.length l0_2) (hc0_2 : l0_2.length ≤ c0_2) (h : colophonref22_Turned.f a0_0 l0_1 l0_2 = some (r1, r2, r3)) :
    Calls Tryd.prog 61 #[.agg #[.int .i64 a0_0, .slice A0_1 l0_1.length c0_1, .slice A0_2 l0_2.length c0_2]] w fun e w' => ∃ v1_ v2_ : Value, e = .returned (.agg #[.int .i64 r1, v1_, v2_]) ∧ Kd.R (Kd.int .i32) 21 w' w.heap.size (fun k_ => some k_ ≠ (v2_ : Value).ownBlock) v1_ r2 ∧ Kd.R (Kd.int .i32) 21 w' w.heap.size (fun k_ => some k_ ≠ (v1_ : Value).ownBlock) v2_ r3 ∧ Below w.heap.size w w' := by
  have hu68 := Tryd.underlying68
  have HR0_1 := Aside0.mk hr0_1
  have HC0_1 := Aside0.mk hc0_1
  clear hr0_1 hc0_1
  have HR0_2 := Aside0.mk hr0_2
  have HC0_2 := Aside0.mk hc0_2
  clear hr0_2 hc0_2
  have HB := Aside0.mk (Below.refl w.heap.size w)
  have H : ((some (([] : List Int) : List Int)).bind fun y194 => (if y194.length + l0_2.length < 35184372088832 then ((some (([] : List Int) : List Int)).bind fun y200 => (if y200.length + l0_1.length < 35184372088832 then (some (a0_0, (y194 ++ l0_2), (y200 ++ l0_1))) else (none))) else (none))) = some (r1, r2, r3) := h
  clear h
  obtain ⟨y194, hy194⟩ : ∃ y_ : List Int, y_ = (([] : List Int)) := ⟨_, rfl⟩
  replace H : (if y194.length + l0_2.length < 35184372088832 then ((some (([] : List Int) : List Int)).bind fun y200 => (if y200.length + l0_1.length < 35184372088832 then (some (a0_0, (y194 ++ l0_2), (y200 ++ l0_1))) else (none))) else (none)) = some (r1, r2, r3) := by first | (rw [hy194]; with_reducible exact H) | (have H2_ := (Option.bind_some _ _).symm.trans H; rw [hy194]; with_reducible exact H2_) | (have H2_ := (Option.bind_some _ _).symm.trans H; with_reducible exact H2_) | with_reducible exact H | (rw [hy194]; exact H) | exact H
  have Ny194 := Aside0.mk hy194
  clear hy194
  by_cases c2 : y194.length + l0_2.length < 35184372088832
  · rw [if_pos c2] at H
    have LMc2 := Aside0.mk c2
    clear c2
    obtain ⟨y197, hy197⟩ : ∃ y_ : List Int, y_ = (y194 ++ l0_2) := ⟨_, rfl⟩
    replace H : ((some (([] : List Int) : List Int)).bind fun y200 => (if y200.length + l0_1.length < 35184372088832 then (some (a0_0, y197, (y200 ++ l0_1))) else (none))) = some (r1, r2, r3) := by first | (rw [hy197]; with_reducible exact H) | (have H2_ := (Option.bind_some _ _).symm.trans H; rw [hy197]; with_reducible exact H2_) | (have H2_ := (Option.bind_some _ _).symm.trans H; with_reducible exact H2_) | with_reducible exact H | (rw [hy197]; exact H) | exact H
    have Ny197 := Aside0.mk hy197
    clear hy197
    obtain ⟨y200, hy200⟩ : ∃ y_ : List Int, y_ = (([] : List Int)) := ⟨_, rfl⟩
    replace H : (if y200.length + l0_1.length < 35184372088832 then (some (a0_0, y197, (y200 ++ l0_1))) else (none)) = some (r1, r2, r3) := by first | (rw [hy200]; with_reducible exact H) | (have H2_ := (Option.bind_some _ _).symm.trans H; rw [hy200]; with_reducible exact H2_) | (have H2_ := (Option.bind_some _ _).symm.trans H; with_reducible exact H2_) | with_reducible exact H | (rw [hy200]; exact H) | exact H
    have Ny200 := Aside0.mk hy200
    clear hy200
    by_cases c3 : y200.length + l0_1.length < 35184372088832
    · rw [if_pos c3] at H
      have LMc3 := Aside0.mk c3
      clear c3
      obtain ⟨y203, hy203⟩ : ∃ y_ : List Int, y_ = (y200 ++ l0_1) := ⟨_, rfl⟩
      replace H : (some (a0_0, y197, y203)) = some (r1, r2, r3) := by first | (rw [hy203]; with_reducible exact H) | (have H2_ := (Option.bind_some _ _).symm.trans H; rw [hy203]; with_reducible exact H2_) | (have H2_ := (Option.bind_some _ _).symm.trans H; with_reducible exact H2_) | with_reducible exact H | (rw [hy203]; exact H) | exact H
      have Ny203 := Aside0.mk hy203
      clear hy203
      simp only [Option.some.injEq, Prod.mk.injEq] at H
      obtain ⟨rfl, rfl, rfl⟩ := H
      go_enter Tryd.func61, Tryd.ntmps61
      try go_wp2_with (first | ((with_reducible refine gate_dst (N := 1) rfl ?_); refine box_event ?hg (N := 1) ?hd (cs := #[.int .i64 a0_0, .slice A0_1 l0_1.length c0_1, .slice A0_2 l0_2.length c0_2]) (t := 68) ?hr ?_; (case hd => rfl); (case hg => rfl); (case hr => first | (go_simp; done) | (go_simp; rfl)); intro gb192 hg w4 hbox hb; have n0_ := Aside0.mk (below_step (by repeat (first | (with_reducible first | exact HB.out | apply below_alloc | apply pw_below_drewN | apply below_drew1) | exact HB.out)) hb); have n1_ := Aside0.mk (hbox); have n2_ := Aside0.mk ((by rw [hg]; exact (below_size (by repeat (first | (with_reducible first | exact HB.out | apply below_alloc | apply pw_below_drewN | apply below_drew1) | exact HB.out))) : w.heap.size ≤ gb192)); have n3_ := Aside0.mk ((by rw [hg]; exact (below_size (by repeat (first | (with_reducible first | exact HB.out | apply below_alloc | apply pw_below_drewN | apply below_drew1) | exact HB.out))) : w.heap.size ≤ gb192)); clear HB; have HB := n0_; have BK192 := n1_; have GW192 := n2_; have GE192 := n3_; clear n0_ n1_ n2_ n3_; clear hb hbox hg) | ((with_reducible refine gate_dst (N := 2) rfl ?_); refine box_event ?hg (N := 2) ?hd (cs := #[.int .i64 0, .slice none 0 0, .slice none 0 0]) (t := 68) ?hr ?_; (case hd => rfl); (case hg => rfl); (case hr => first | (go_simp; done) | (go_simp; rfl)); intro gb193 hg w5 hbox hb; have n0_ := Aside0.mk (blk_below (g := gb192) (o := .cells #[.int .i64 a0_0, .slice A0_1 l0_1.length c0_1, .slice A0_2 l0_2.length c0_2] 68 (0, 0)) (by (with_reducible repeat (first | refine blk_drewN ?_ _ | refine blk_drew ?_ | refine blk_alloc ?_ _)); exact BK192.out) hb); have n1_ := Aside0.mk (below_step (by repeat (first | (with_reducible first | exact HB.out | apply below_alloc | apply pw_below_drewN | apply below_drew1 | refine below_set ?_ GE192.out) | exact HB.out)) hb); have n2_ := Aside0.mk (hbox); have n3_ := Aside0.mk ((by rw [hg]; exact (below_size (by repeat (first | (with_reducible first | exact HB.out | apply below_alloc | apply pw_below_drewN | apply below_drew1 | refine below_set ?_ GE192.out) | exact HB.out))) : w.heap.size ≤ gb193)); have n4_ := Aside0.mk ((by rw [hg]; exact (below_size (by repeat (first | (with_reducible first | exact HB.out | apply below_alloc | apply pw_below_drewN | apply below_drew1 | refine below_set ?_ GE192.out) | exact HB.out))) : w.heap.size ≤ gb193)); have n5_ := Aside0.mk ((by rw [hg]; exact Nat.ne_of_lt (blk_lt (g := gb192) (o := .cells #[.int .i64 a0_0, .slice A0_1 l0_1.length c0_1, .slice A0_2 l0_2.length c0_2] 68 (0, 0)) (by (with_reducible repeat (first | refine blk_drewN ?_ _ | refine blk_drew ?_ | refine blk_alloc ?_ _)); exact BK192.out)) : gb192 ≠ gb193)); have n6_ := Aside0.mk ((by rw [hg]; exact Nat.ne_of_gt (blk_lt (g := gb192) (o := .cells #[.int .i64 a0_0, .slice A0_1 l0_1.length c0_1, .slice A0_2 l0_2.length c0_2] 68 (0, 0)) (by (with_reducible repeat (first | refine blk_drewN ?_ _ | refine blk_drew ?_ | refine blk_alloc ?_ _)); exact BK192.out)) : gb193 ≠ gb192)); clear BK192; clear HB; have BK192 := n0_; have HB := n1_; have BK193 := n2_; have GW193 := n3_; have GE193 := n4_; have NB192_193 := n5_; have NB193_192 := n6_; clear n0_ n1_ n2_ n3_ n4_ n5_ n6_; clear hb hbox hg))
      have n0_ := Aside0.mk (blk_drew BK192.out)
      have n1_ := Aside0.mk (blk_drew BK193.out)
      have n2_ := Aside0.mk (below_drew1 HB.out)
      clear BK192
      clear BK193
      clear HB
      have BK192 := n0_
      have BK193 := n1_
      have HB := n2_
      clear n0_ n1_ n2_
      refine start_ (n := 12) (S := fun w' => w'.cell? ⟨gb192, 0, none⟩ = some (.int .i64 a0_0) ∧ w'.cell? ⟨gb192, 1, none⟩ = some (.slice A0_1 l0_1.length c0_1) ∧ w'.cell? ⟨gb192, 2, none⟩ = some (.slice A0_2 l0_2.length c0_2)) (ds := []) #[false, false, false, false, false, false, false, false, false, false, false, false] (by kernel_rfl) rfl rfl ⟨(blk_cell BK192.out 0).trans rfl, (blk_cell BK192.out 1).trans rfl, (blk_cell BK192.out 2).trans rfl⟩ (fun hHeld => ?_); refine with_tabW colophonref22_Turned.tab1 colophonref22_Turned.bits1 (fun HT_ HW_ => ?_)
      generalize w5.drew = w6 at BK192 BK193 HB hHeld ⊢
      refine pure_ (i := 0) (N := some 3) (v := ?_) (a' := ?_) #[true, false, false, false, false, false, false, false, false, false, false, false] rfl rfl (any_of HT_.out (by kernel_rfl)) (fun _ _ _ h => h) (Or.inl ⟨by rfl, ?_⟩) ?_ ?_
      rotate_left
      · intro w'
        go_simp
        with_reducible rfl
      rotate_left
      · simp only [Act.put, List.setIfInBounds_toArray, List.set_cons_zero, List.set_cons_succ, i64_w, i32_w]
        rfl
      refine pure_ (i := 3) (N := some 6) (v := ?_) (a' := ?_) #[true, false, false, true, false, false, false, false, false, false, false, false] rfl rfl (any_of HT_.out (by kernel_rfl)) (fun _ _ _ h => h) (Or.inl ⟨by rfl, ?_⟩) ?_ ?_
      rotate_left
      · intro w'
        go_simp
        with_reducible rfl
      rotate_left
      · simp only [Act.put, List.setIfInBounds_toArray, List.set_cons_zero, List.set_cons_succ, i64_w, i32_w]
        rfl
      refine pure_ (i := 7) (N := some 10) (v := ?_) (a' := ?_) #[true, false, false, true, false, false, false, true, false, false, false, false] rfl rfl (any_of HT_.out (by kernel_rfl)) (fun _ _ _ h => h) (Or.inl ⟨by rfl, ?_⟩) ?_ ?_
      rotate_left
      · intro w'
        go_simp
        with_reducible rfl
      rotate_left
      · simp only [Act.put, List.setIfInBounds_toArray, List.set_cons_zero, List.set_cons_succ, i64_w, i32_w]
        rfl
      refine take_ (i := 1) (N := some 4) (v := ?_) (a' := ?_) #[true, true, false, true, false, false, false, true, false, false, false, false] rfl rfl (take_ofW HT_.out HW_.out (by kernel_rfl)) (fun _ _ _ h => h) (Or.inl ⟨by rfl, ?_⟩) hHeld ?_ ?_
      rotate_left
      · rintro w' ⟨s0, s1, s2⟩
        go_simp
        with_reducible rfl
      rotate_left
      · simp only [Act.put, List.setIfInBounds_toArray, List.set_cons_zero, List.set_cons_succ, i64_w, i32_w]
        rfl
      refine take_ (i := 4) (N := some 7) (v := ?_) (a' := ?_) #[true, true, false, true, true, false, false, true, false, false, false, false] rfl rfl (take_ofW HT_.out HW_.out (by kernel_rfl)) (fun _ _ _ h => h) (Or.inl ⟨by rfl, ?_⟩) hHeld ?_ ?_
      rotate_left
      · rintro w' ⟨s0, s1, s2⟩
        go_simp
        with_reducible rfl
      rotate_left
      · simp only [Act.put, List.setIfInBounds_toArray, List.set_cons_zero, List.set_cons_succ, i64_w, i32_w]
        rfl
      refine take_ (i := 8) (N := some 11) (v := ?_) (a' := ?_) #[true, true, false, true, true, false, false, true, true, false, false, false] rfl rfl (take_ofW HT_.out HW_.out (by kernel_rfl)) (fun _ _ _ h => h) (Or.inl ⟨by rfl, ?_⟩) hHeld ?_ ?_
      rotate_left
      · rintro w' ⟨s0, s1, s2⟩
        go_simp
        with_reducible rfl
      rotate_left
      · simp only [Act.put, List.setIfInBounds_toArray, List.set_cons_zero, List.set_cons_succ, i64_w, i32_w]
        rfl
      refine join_ (σ := Value × Value × Value) 3 #[true, true, true, true, true, true, true, true, true, false, false, false] (fun s_ => [(5, s_.1), (8, s_.2.1), (9, s_.2.2)]) (fun s_ w' => (w'.cell? ⟨gb192, 0, none⟩ = some (.int .i64 a0_0) ∧ w'.cell? ⟨gb192, 1, none⟩ = some (.slice A0_1 l0_1.length c0_1) ∧ w'.cell? ⟨gb192, 2, none⟩ = some (.slice A0_2 l0_2.length c0_2)) ∧ (Kd.R (Kd.int .i32) 21 w' w.heap.size (fun k_ => some k_ ≠ (s_.2.2 : Value).ownBlock) s_.2.1 y197) ∧ (Kd.R (Kd.int .i32) 21 w' w.heap.size (fun k_ => some k_ ≠ (s_.2.1 : Value).ownBlock) s_.2.2 y200) ∧ (w'.heap[gb192]? = some (.cells #[.int .i64 a0_0, .slice A0_1 l0_1.length c0_1, .slice A0_2 l0_2.length c0_2] 68 (0, 0))) ∧ (w'.heap[gb193]? = some (.cells #[.int .i64 0, .slice none 0 0, .slice none 0 0] 68 (0, 0))) ∧ (Below w.heap.size w w')) ?_ ?_
      rotate_left
      · intro hCont
        refine two_ (i := 2) (j := 6) (Ni := some 5) (Nj := some 9) #[true, true, true, true, true, false, false, true, true, false, false, false] #[true, true, false, true, true, false, true, true, true, false, false, false] rfl rfl rfl rfl (two_of HT_.out (by kernel_rfl)) (by decide) (by decide) (fun K hK => ?_) (fun K hK => ?_)
        · skip
          refine Kd.R_lit_step (Kd.int .i32) _ 21 ?hg (N := 5) ?hd (xs := ([] : List Int)) (inner := []) (ok := fun _ => True) (okp := fun _ => True) ?hr ?hp (fun _ hk => hk) trivial (Below.refl _ _) (Nat.le_refl _) (by simp) ?_; (case hd => rfl); (case hg => rfl); (case hr => first | (go_simp; done) | (go_simp; rfl)); (case hp => exact (Reps.none _ _))
          intro v195 w7 ho8 hb hg_ hnew_
          clear hg_ hnew_
          (first | rw [← Ny194.out] at ho8 | (simp only [Int.reduceToNat] at ho8; rw [← Ny194.out] at ho8))
          have n0_ := Aside0.mk (Kd.R_lower ho8 (below_size (by repeat (first | (with_reducible first | exact HB.out | apply below_alloc | apply pw_below_drewN | apply below_drew1 | refine below_set ?_ GE192.out | refine below_set ?_ GE193.out) | exact HB.out))))
          have n1_ := Aside0.mk (blk_below (g := gb192) (o := .cells #[.int .i64 a0_0, .slice A0_1 l0_1.length c0_1, .slice A0_2 l0_2.length c0_2] 68 (0, 0)) (by (with_reducible repeat (first | refine blk_drewN ?_ _ | refine blk_drew ?_ | refine blk_alloc ?_ _)); exact BK192.out) hb)
          have n2_ := Aside0.mk (blk_below (g := gb193) (o := .cells #[.int .i64 0, .slice none 0 0, .slice none 0 0] 68 (0, 0)) (by (with_reducible repeat (first | refine blk_drewN ?_ _ | refine blk_drew ?_ | refine blk_alloc ?_ _)); exact BK193.out) hb)
          have n3_ := Aside0.mk (below_step (by repeat (first | (with_reducible first | exact HB.out | apply below_alloc | apply pw_below_drewN | apply below_drew1 | refine below_set ?_ GE192.out | refine below_set ?_ GE193.out) | exact HB.out)) hb)
          clear BK192
          clear BK193
          clear HB
          have HO196 := n0_
          have BK192 := n1_
          have BK193 := n2_
          have HB := n3_
          clear n0_ n1_ n2_ n3_
          clear hb ho8
          refine hK.out _ _ ⟨(blk_cell BK192.out 0).trans rfl, (blk_cell BK192.out 1).trans rfl, (blk_cell BK192.out 2).trans rfl⟩ (fun hHeld => ?_)
          clear hK K
          refine norm_ (a' := ?_) ?_ ?_
          rotate_left
          · show Act.put _ (some 5) _ = _
            simp only [Act.put, List.setIfInBounds_toArray, List.set_cons_zero, List.set_cons_succ, i64_w, i32_w]
            rfl
          refine two_ (i := 5) (j := 6) (Ni := some 8) (Nj := some 9) #[true, true, true, true, true, true, false, true, true, false, false, false] #[true, true, true, true, true, false, true, true, true, false, false, false] rfl rfl rfl rfl (two_of HT_.out (by kernel_rfl)) (by decide) (by decide) (fun K hK => ?_) (fun K hK => ?_)
          · skip
            refine Kd.R_append_rows_step (Kd.int .i32) (w0 := w) w.heap.size (by rfl) (.tmp 5) (.tmp 7) 31 21 (.int .i32 0) 4 rfl Tryd.underlying31 info21 rfl (by decide) (by omega) v195 y194 l0_2 _ _ _ (fun _ => True) (fun _ => False) rfl rfl ?aO ?aR (fun _ _ h => h) (fun _ h => h.elim) ?aF ?aB ?aS ?aL ?_
            (case aR => repeat (first | exact (Kd.C_below HR0_2.out HB.out) | (with_reducible refine Kd.C_alloc ?_ _) | (with_reducible refine Kd.C_drewN ?_ _) | (with_reducible refine Kd.C_drew ?_)))
            (case aB => exact (by repeat (first | (with_reducible first | exact HB.out | apply below_alloc | apply pw_below_drewN | apply below_drew1 | refine below_set ?_ GE192.out | refine below_set ?_ GE193.out) | exact HB.out)))
            (case aF => exact (fun _ _ => trivial))
            (case aO => exact (by (with_reducible repeat (first | apply Kd.R_alloc | apply Kd.R_drewN | apply Kd.R_drew)); exact HO196.out))
            (case aS => exact (below_size (by repeat (first | (with_reducible first | exact HB.out | apply below_alloc | apply pw_below_drewN | apply below_drew1 | refine below_set ?_ GE192.out | refine below_set ?_ GE193.out) | exact HB.out))))
            (case aL => have := LMc2.out; omega)
            intro v198 w9 ho hb hg hat
            rw [← Ny197.out] at ho
            have n0_ := Aside0.mk (blk_grown (g := gb192) (o := .cells #[.int .i64 a0_0, .slice A0_1 l0_1.length c0_1, .slice A0_2 l0_2.length c0_2] 68 (0, 0)) (by (with_reducible repeat (first | refine blk_drewN ?_ _ | refine blk_drew ?_ | refine blk_alloc ?_ _)); exact BK192.out) hg (Kd.R_ne HO196.out BK192.out (by decide)))
            have n1_ := Aside0.mk (blk_grown (g := gb193) (o := .cells #[.int .i64 0, .slice none 0 0, .slice none 0 0] 68 (0, 0)) (by (with_reducible repeat (first | refine blk_drewN ?_ _ | refine blk_drew ?_ | refine blk_alloc ?_ _)); exact BK193.out) hg (Kd.R_ne HO196.out BK193.out (by decide)))
            have n2_ := Aside0.mk (hb)
            have n3_ := Aside0.mk (ho)
            clear BK192
            clear BK193
            clear HB
            clear HO196
            have BK192 := n0_
            have BK193 := n1_
            have HB := n2_
            have HO199 := n3_
            clear n0_ n1_ n2_ n3_
            clear ho hb hg hat
            refine hK.out _ _ ⟨(blk_cell BK192.out 0).trans rfl, (blk_cell BK192.out 1).trans rfl, (blk_cell BK192.out 2).trans rfl⟩ (fun hHeld => ?_)
            clear hK K
            refine norm_ (a' := ?_) ?_ ?_
            rotate_left
            · show Act.put _ (some 8) _ = _
              simp only [Act.put, List.setIfInBounds_toArray, List.set_cons_zero, List.set_cons_succ, i64_w, i32_w]
              rfl
            refine one_ (i := 6) (N := some 9) #[true, true, true, true, true, true, true, true, true, false, false, false] rfl rfl (one_of HT_.out (by kernel_rfl)) (by decide) (fun K hK => ?_)
            refine Kd.R_lit_step (Kd.int .i32) _ 21 ?hg (N := 9) ?hd (xs := ([] : List Int)) (inner := []) (ok := fun _ => True) (okp := fun _ => True) ?hr ?hp (fun _ hk => hk) trivial (Below.refl _ _) (Nat.le_refl _) (by simp) ?_; (case hd => rfl); (case hg => rfl); (case hr => first | (go_simp; done) | (go_simp; rfl)); (case hp => exact (Reps.none _ _))
            intro v201 w10 ho11 hb hg_ hnew_
            clear hg_ hnew_
            (first | rw [← Ny200.out] at ho11 | (simp only [Int.reduceToNat] at ho11; rw [← Ny200.out] at ho11))
            have n0_ := Aside0.mk (Kd.R_elder' (by (with_reducible repeat (first | apply Kd.R_alloc | apply Kd.R_drewN | apply Kd.R_drew)); exact HO199.out) (Kd.R_base ho11) hb)
            have n1_ := Aside0.mk (Kd.R_lower (Kd.R_new' ho11 (Kd.R_lt (by (with_reducible repeat (first | apply Kd.R_alloc | apply Kd.R_drewN | apply Kd.R_drew)); exact HO199.out))) (below_size (by repeat (first | (with_reducible first | exact HB.out | apply below_alloc | apply pw_below_drewN | apply below_drew1 | refine below_set ?_ GE192.out | refine below_set ?_ GE193.out) | exact HB.out))))
            have n2_ := Aside0.mk (blk_below (g := gb192) (o := .cells #[.int .i64 a0_0, .slice A0_1 l0_1.length c0_1, .slice A0_2 l0_2.length c0_2] 68 (0, 0)) (by (with_reducible repeat (first | refine blk_drewN ?_ _ | refine blk_drew ?_ | refine blk_alloc ?_ _)); exact BK192.out) hb)
            have n3_ := Aside0.mk (blk_below (g := gb193) (o := .cells #[.int .i64 0, .slice none 0 0, .slice none 0 0] 68 (0, 0)) (by (with_reducible repeat (first | refine blk_drewN ?_ _ | refine blk_drew ?_ | refine blk_alloc ?_ _)); exact BK193.out) hb)
            have n4_ := Aside0.mk (below_step (by repeat (first | (with_reducible first | exact HB.out | apply below_alloc | apply pw_below_drewN | apply below_drew1 | refine below_set ?_ GE192.out | refine below_set ?_ GE193.out) | exact HB.out)) hb)
            clear HO199
            clear BK192
            clear BK193
            clear HB
            have HO199 := n0_
            have HO202 := n1_
            have BK192 := n2_
            have BK193 := n3_
            have HB := n4_
            clear n0_ n1_ n2_ n3_ n4_
            clear hb ho11
            refine hK.out _ _ ⟨(blk_cell BK192.out 0).trans rfl, (blk_cell BK192.out 1).trans rfl, (blk_cell BK192.out 2).trans rfl⟩ (fun hHeld => ?_)
            clear hK K
            refine norm_ (a' := ?_) ?_ ?_
            rotate_left
            · show Act.put _ (some 9) _ = _
              simp only [Act.put, List.setIfInBounds_toArray, List.set_cons_zero, List.set_cons_succ, i64_w, i32_w]
              rfl
            exact norm_ (by simp only [putAll, Act.put, List.setIfInBounds_toArray, List.set_cons_zero, List.set_cons_succ]) (hCont (v195, v198, v201) _ ⟨hHeld, (by (with_reducible repeat (first | apply Kd.R_alloc | apply Kd.R_drewN | apply Kd.R_drew)); exact Kd.R_mono HO199.out (fun _ hk => hk.2)), (by (with_reducible repeat (first | apply Kd.R_alloc | apply Kd.R_drewN | apply Kd.R_drew)); exact Kd.R_mono HO202.out (fun _ hk => hk.2)), (by (with_reducible repeat (first | refine blk_drewN ?_ _ | refine blk_drew ?_ | refine blk_alloc ?_ _)); exact BK192.out), (by (with_reducible repeat (first | refine blk_drewN ?_ _ | refine blk_drew ?_ | refine blk_alloc ?_ _)); exact BK193.out), (by repeat (first | (with_reducible first | exact HB.out | apply below_alloc | apply pw_below_drewN | apply below_drew1 | refine below_set ?_ GE192.out | refine below_set ?_ GE193.out) | exact HB.out))⟩)
          · skip
            refine Kd.R_lit_step (Kd.int .i32) _ 21 ?hg (N := 9) ?hd (xs := ([] : List Int)) (inner := []) (ok := fun _ => True) (okp := fun _ => True) ?hr ?hp (fun _ hk => hk) trivial (Below.refl _ _) (Nat.le_refl _) (by simp) ?_; (case hd => rfl); (case hg => rfl); (case hr => first | (go_simp; done) | (go_simp; rfl)); (case hp => exact (Reps.none _ _))
            intro v201 w9 ho10 hb hg_ hnew_
            clear hg_ hnew_
            (first | rw [← Ny200.out] at ho10 | (simp only [Int.reduceToNat] at ho10; rw [← Ny200.out] at ho10))
            have n0_ := Aside0.mk (Kd.R_elder' (by (with_reducible repeat (first | apply Kd.R_alloc | apply Kd.R_drewN | apply Kd.R_drew)); exact HO196.out) (Kd.R_base ho10) hb)
            have n1_ := Aside0.mk (Kd.R_lower (Kd.R_new' ho10 (Kd.R_lt (by (with_reducible repeat (first | apply Kd.R_alloc | apply Kd.R_drewN | apply Kd.R_drew)); exact HO196.out))) (below_size (by repeat (first | (with_reducible first | exact HB.out | apply below_alloc | apply pw_below_drewN | apply below_drew1 | refine below_set ?_ GE192.out | refine below_set ?_ GE193.out) | exact HB.out))))
            have n2_ := Aside0.mk (blk_below (g := gb192) (o := .cells #[.int .i64 a0_0, .slice A0_1 l0_1.length c0_1, .slice A0_2 l0_2.length c0_2] 68 (0, 0)) (by (with_reducible repeat (first | refine blk_drewN ?_ _ | refine blk_drew ?_ | refine blk_alloc ?_ _)); exact BK192.out) hb)
            have n3_ := Aside0.mk (blk_below (g := gb193) (o := .cells #[.int .i64 0, .slice none 0 0, .slice none 0 0] 68 (0, 0)) (by (with_reducible repeat (first | refine blk_drewN ?_ _ | refine blk_drew ?_ | refine blk_alloc ?_ _)); exact BK193.out) hb)
            have n4_ := Aside0.mk (below_step (by repeat (first | (with_reducible first | exact HB.out | apply below_alloc | apply pw_below_drewN | apply below_drew1 | refine below_set ?_ GE192.out | refine below_set ?_ GE193.out) | exact HB.out)) hb)
            clear HO196
            clear BK192
            clear BK193
            clear HB
            have HO196 := n0_
            have HO202 := n1_
            have BK192 := n2_
            have BK193 := n3_
            have HB := n4_
            clear n0_ n1_ n2_ n3_ n4_
            clear hb ho10
            refine hK.out _ _ ⟨(blk_cell BK192.out 0).trans rfl, (blk_cell BK192.out 1).trans rfl, (blk_cell BK192.out 2).trans rfl⟩ (fun hHeld => ?_)
            clear hK K
            refine norm_ (a' := ?_) ?_ ?_
            rotate_left
            · show Act.put _ (some 9) _ = _
              simp only [Act.put, List.setIfInBounds_toArray, List.set_cons_zero, List.set_cons_succ, i64_w, i32_w]
              rfl
            refine one_ (i := 5) (N := some 8) #[true, true, true, true, true, true, true, true, true, false, false, false] rfl rfl (one_of HT_.out (by kernel_rfl)) (by decide) (fun K hK => ?_)
            refine Kd.R_append_rows_step (Kd.int .i32) (w0 := w) w.heap.size (by rfl) (.tmp 5) (.tmp 7) 31 21 (.int .i32 0) 4 rfl Tryd.underlying31 info21 rfl (by decide) (by omega) v195 y194 l0_2 _ _ _ (fun k_ => some k_ ≠ (v201 : Value).ownBlock) (fun _ => False) rfl rfl ?aO ?aR (fun _ _ h => h) (fun _ h => h.elim) ?aF ?aB ?aS ?aL ?_
            (case aR => repeat (first | exact (Kd.C_below HR0_2.out HB.out) | (with_reducible refine Kd.C_alloc ?_ _) | (with_reducible refine Kd.C_drewN ?_ _) | (with_reducible refine Kd.C_drew ?_)))
            (case aB => exact (by repeat (first | (with_reducible first | exact HB.out | apply below_alloc | apply pw_below_drewN | apply below_drew1 | refine below_set ?_ GE192.out | refine below_set ?_ GE193.out) | exact HB.out)))
            (case aF => exact (fun k_ hk => Kd.fresh' (Kd.R_lt (by (with_reducible repeat (first | apply Kd.R_alloc | apply Kd.R_drewN | apply Kd.R_drew)); exact HO202.out)) k_ hk))
            (case aO => exact (by (with_reducible repeat (first | apply Kd.R_alloc | apply Kd.R_drewN | apply Kd.R_drew)); exact Kd.R_mono HO196.out (fun _ hk => hk.2)))
            (case aS => exact (below_size (by repeat (first | (with_reducible first | exact HB.out | apply below_alloc | apply pw_below_drewN | apply below_drew1 | refine below_set ?_ GE192.out | refine below_set ?_ GE193.out) | exact HB.out))))
            (case aL => have := LMc2.out; omega)
            intro v198 w11 ho hb hg hat
            rw [← Ny197.out] at ho
            have n0_ := Aside0.mk (blk_grown (g := gb192) (o := .cells #[.int .i64 a0_0, .slice A0_1 l0_1.length c0_1, .slice A0_2 l0_2.length c0_2] 68 (0, 0)) (by (with_reducible repeat (first | refine blk_drewN ?_ _ | refine blk_drew ?_ | refine blk_alloc ?_ _)); exact BK192.out) hg (Kd.R_ne HO196.out BK192.out (by decide)))
            have n1_ := Aside0.mk (blk_grown (g := gb193) (o := .cells #[.int .i64 0, .slice none 0 0, .slice none 0 0] 68 (0, 0)) (by (with_reducible repeat (first | refine blk_drewN ?_ _ | refine blk_drew ?_ | refine blk_alloc ?_ _)); exact BK193.out) hg (Kd.R_ne HO196.out BK193.out (by decide)))
            have n2_ := Aside0.mk (Kd.R_after (ok := (fun _ => True)) (by (with_reducible repeat (first | apply Kd.R_alloc | apply Kd.R_drewN | apply Kd.R_drew)); exact HO202.out) hg hat)
            have n3_ := Aside0.mk (hb)
            have n4_ := Aside0.mk (ho)
            clear BK192
            clear BK193
            clear HO202
            clear HB
            clear HO196
            have BK192 := n0_
            have BK193 := n1_
            have HO202 := n2_
            have HB := n3_
            have HO199 := n4_
            clear n0_ n1_ n2_ n3_ n4_
            clear ho hb hg hat
            refine hK.out _ _ ⟨(blk_cell BK192.out 0).trans rfl, (blk_cell BK192.out 1).trans rfl, (blk_cell BK192.out 2).trans rfl⟩ (fun hHeld => ?_)
            clear hK K
            refine norm_ (a' := ?_) ?_ ?_
            rotate_left
            · show Act.put _ (some 8) _ = _
              simp only [Act.put, List.setIfInBounds_toArray, List.set_cons_zero, List.set_cons_succ, i64_w, i32_w]
              rfl
            exact norm_ (by simp only [putAll, Act.put, List.setIfInBounds_toArray, List.set_cons_zero, List.set_cons_succ]) (hCont (v195, v198, v201) _ ⟨hHeld, (by (with_reducible repeat (first | apply Kd.R_alloc | apply Kd.R_drewN | apply Kd.R_drew)); exact HO199.out), (by (with_reducible repeat (first | apply Kd.R_alloc | apply Kd.R_drewN | apply Kd.R_drew)); exact Kd.R_mono HO202.out (fun _ hk => hk.2)), (by (with_reducible repeat (first | refine blk_drewN ?_ _ | refine blk_drew ?_ | refine blk_alloc ?_ _)); exact BK192.out), (by (with_reducible repeat (first | refine blk_drewN ?_ _ | refine blk_drew ?_ | refine blk_alloc ?_ _)); exact BK193.out), (by repeat (first | (with_reducible first | exact HB.out | apply below_alloc | apply pw_below_drewN | apply below_drew1 | refine below_set ?_ GE192.out | refine below_set ?_ GE193.out) | exact HB.out))⟩)
        · skip
          refine Kd.R_lit_step (Kd.int .i32) _ 21 ?hg (N := 9) ?hd (xs := ([] : List Int)) (inner := []) (ok := fun _ => True) (okp := fun _ => True) ?hr ?hp (fun _ hk => hk) trivial (Below.refl _ _) (Nat.le_refl _) (by simp) ?_; (case hd => rfl); (case hg => rfl); (case hr => first | (go_simp; done) | (go_simp; rfl)); (case hp => exact (Reps.none _ _))
          intro v201 w7 ho8 hb hg_ hnew_
          clear hg_ hnew_
          (first | rw [← Ny200.out] at ho8 | (simp only [Int.reduceToNat] at ho8; rw [← Ny200.out] at ho8))
          have n0_ := Aside0.mk (Kd.R_lower ho8 (below_size (by repeat (first | (with_reducible first | exact HB.out | apply below_alloc | apply pw_below_drewN | apply below_drew1 | refine below_set ?_ GE192.out | refine below_set ?_ GE193.out) | exact HB.out))))
          have n1_ := Aside0.mk (blk_below (g := gb192) (o := .cells #[.int .i64 a0_0, .slice A0_1 l0_1.length c0_1, .slice A0_2 l0_2.length c0_2] 68 (0, 0)) (by (with_reducible repeat (first | refine blk_drewN ?_ _ | refine blk_drew ?_ | refine blk_alloc ?_ _)); exact BK192.out) hb)
          have n2_ := Aside0.mk (blk_below (g := gb193) (o := .cells #[.int .i64 0, .slice none 0 0, .slice none 0 0] 68 (0, 0)) (by (with_reducible repeat (first | refine blk_drewN ?_ _ | refine blk_drew ?_ | refine blk_alloc ?_ _)); exact BK193.out) hb)
          have n3_ := Aside0.mk (below_step (by repeat (first | (with_reducible first | exact HB.out | apply below_alloc | apply pw_below_drewN | apply below_drew1 | refine below_set ?_ GE192.out | refine below_set ?_ GE193.out) | exact HB.out)) hb)
          clear BK192
          clear BK193
          clear HB
          have HO202 := n0_
          have BK192 := n1_
          have BK193 := n2_
          have HB := n3_
          clear n0_ n1_ n2_ n3_
          clear hb ho8
          refine hK.out _ _ ⟨(blk_cell BK192.out 0).trans rfl, (blk_cell BK192.out 1).trans rfl, (blk_cell BK192.out 2).trans rfl⟩ (fun hHeld => ?_)
          clear hK K
          refine norm_ (a' := ?_) ?_ ?_
          rotate_left
          · show Act.put _ (some 9) _ = _
            simp only [Act.put, List.setIfInBounds_toArray, List.set_cons_zero, List.set_cons_succ, i64_w, i32_w]
            rfl
          refine one_ (i := 2) (N := some 5) #[true, true, true, true, true, false, true, true, true, false, false, false] rfl rfl (one_of HT_.out (by kernel_rfl)) (by decide) (fun K hK => ?_)
          refine Kd.R_lit_step (Kd.int .i32) _ 21 ?hg (N := 5) ?hd (xs := ([] : List Int)) (inner := []) (ok := fun _ => True) (okp := fun _ => True) ?hr ?hp (fun _ hk => hk) trivial (Below.refl _ _) (Nat.le_refl _) (by simp) ?_; (case hd => rfl); (case hg => rfl); (case hr => first | (go_simp; done) | (go_simp; rfl)); (case hp => exact (Reps.none _ _))
          intro v195 w9 ho10 hb hg_ hnew_
          clear hg_ hnew_
          (first | rw [← Ny194.out] at ho10 | (simp only [Int.reduceToNat] at ho10; rw [← Ny194.out] at ho10))
          have n0_ := Aside0.mk (Kd.R_elder' (by (with_reducible repeat (first | apply Kd.R_alloc | apply Kd.R_drewN | apply Kd.R_drew)); exact HO202.out) (Kd.R_base ho10) hb)
          have n1_ := Aside0.mk (Kd.R_lower (Kd.R_new' ho10 (Kd.R_lt (by (with_reducible repeat (first | apply Kd.R_alloc | apply Kd.R_drewN | apply Kd.R_drew)); exact HO202.out))) (below_size (by repeat (first | (with_reducible first | exact HB.out | apply below_alloc | apply pw_below_drewN | apply below_drew1 | refine below_set ?_ GE192.out | refine below_set ?_ GE193.out) | exact HB.out))))
          have n2_ := Aside0.mk (blk_below (g := gb192) (o := .cells #[.int .i64 a0_0, .slice A0_1 l0_1.length c0_1, .slice A0_2 l0_2.length c0_2] 68 (0, 0)) (by (with_reducible repeat (first | refine blk_drewN ?_ _ | refine blk_drew ?_ | refine blk_alloc ?_ _)); exact BK192.out) hb)
          have n3_ := Aside0.mk (blk_below (g := gb193) (o := .cells #[.int .i64 0, .slice none 0 0, .slice none 0 0] 68 (0, 0)) (by (with_reducible repeat (first | refine blk_drewN ?_ _ | refine blk_drew ?_ | refine blk_alloc ?_ _)); exact BK193.out) hb)
          have n4_ := Aside0.mk (below_step (by repeat (first | (with_reducible first | exact HB.out | apply below_alloc | apply pw_below_drewN | apply below_drew1 | refine below_set ?_ GE192.out | refine below_set ?_ GE193.out) | exact HB.out)) hb)
          clear HO202
          clear BK192
          clear BK193
          clear HB
          have HO202 := n0_
          have HO196 := n1_
          have BK192 := n2_
          have BK193 := n3_
          have HB := n4_
          clear n0_ n1_ n2_ n3_ n4_
          clear hb ho10
          refine hK.out _ _ ⟨(blk_cell BK192.out 0).trans rfl, (blk_cell BK192.out 1).trans rfl, (blk_cell BK192.out 2).trans rfl⟩ (fun hHeld => ?_)
          clear hK K
          refine norm_ (a' := ?_) ?_ ?_
          rotate_left
          · show Act.put _ (some 5) _ = _
            simp only [Act.put, List.setIfInBounds_toArray, List.set_cons_zero, List.set_cons_succ, i64_w, i32_w]
            rfl
          refine one_ (i := 5) (N := some 8) #[true, true, true, true, true, true, true, true, true, false, false, false] rfl rfl (one_of HT_.out (by kernel_rfl)) (by decide) (fun K hK => ?_)
          refine Kd.R_append_rows_step (Kd.int .i32) (w0 := w) w.heap.size (by rfl) (.tmp 5) (.tmp 7) 31 21 (.int .i32 0) 4 rfl Tryd.underlying31 info21 rfl (by decide) (by omega) v195 y194 l0_2 _ _ _ (fun k_ => some k_ ≠ (v201 : Value).ownBlock) (fun _ => False) rfl rfl ?aO ?aR (fun _ _ h => h) (fun _ h => h.elim) ?aF ?aB ?aS ?aL ?_
          (case aR => repeat (first | exact (Kd.C_below HR0_2.out HB.out) | (with_reducible refine Kd.C_alloc ?_ _) | (with_reducible refine Kd.C_drewN ?_ _) | (with_reducible refine Kd.C_drew ?_)))
          (case aB => exact (by repeat (first | (with_reducible first | exact HB.out | apply below_alloc | apply pw_below_drewN | apply below_drew1 | refine below_set ?_ GE192.out | refine below_set ?_ GE193.out) | exact HB.out)))
          (case aF => exact (fun k_ hk => Kd.fresh' (Kd.R_lt (by (with_reducible repeat (first | apply Kd.R_alloc | apply Kd.R_drewN | apply Kd.R_drew)); exact HO202.out)) k_ hk))
          (case aO => exact (by (with_reducible repeat (first | apply Kd.R_alloc | apply Kd.R_drewN | apply Kd.R_drew)); exact Kd.R_mono HO196.out (fun _ hk => hk.2)))
          (case aS => exact (below_size (by repeat (first | (with_reducible first | exact HB.out | apply below_alloc | apply pw_below_drewN | apply below_drew1 | refine below_set ?_ GE192.out | refine below_set ?_ GE193.out) | exact HB.out))))
          (case aL => have := LMc2.out; omega)
          intro v198 w11 ho hb hg hat
          rw [← Ny197.out] at ho
          have n0_ := Aside0.mk (blk_grown (g := gb192) (o := .cells #[.int .i64 a0_0, .slice A0_1 l0_1.length c0_1, .slice A0_2 l0_2.length c0_2] 68 (0, 0)) (by (with_reducible repeat (first | refine blk_drewN ?_ _ | refine blk_drew ?_ | refine blk_alloc ?_ _)); exact BK192.out) hg (Kd.R_ne HO196.out BK192.out (by decide)))
          have n1_ := Aside0.mk (blk_grown (g := gb193) (o := .cells #[.int .i64 0, .slice none 0 0, .slice none 0 0] 68 (0, 0)) (by (with_reducible repeat (first | refine blk_drewN ?_ _ | refine blk_drew ?_ | refine blk_alloc ?_ _)); exact BK193.out) hg (Kd.R_ne HO196.out BK193.out (by decide)))
          have n2_ := Aside0.mk (Kd.R_after (ok := (fun _ => True)) (by (with_reducible repeat (first | apply Kd.R_alloc | apply Kd.R_drewN | apply Kd.R_drew)); exact HO202.out) hg hat)
          have n3_ := Aside0.mk (hb)
          have n4_ := Aside0.mk (ho)
          clear BK192
          clear BK193
          clear HO202
          clear HB
          clear HO196
          have BK192 := n0_
          have BK193 := n1_
          have HO202 := n2_
          have HB := n3_
          have HO199 := n4_
          clear n0_ n1_ n2_ n3_ n4_
          clear ho hb hg hat
          refine hK.out _ _ ⟨(blk_cell BK192.out 0).trans rfl, (blk_cell BK192.out 1).trans rfl, (blk_cell BK192.out 2).trans rfl⟩ (fun hHeld => ?_)
          clear hK K
          refine norm_ (a' := ?_) ?_ ?_
          rotate_left
          · show Act.put _ (some 8) _ = _
            simp only [Act.put, List.setIfInBounds_toArray, List.set_cons_zero, List.set_cons_succ, i64_w, i32_w]
            rfl
          exact norm_ (by simp only [putAll, Act.put, List.setIfInBounds_toArray, List.set_cons_zero, List.set_cons_succ]) (hCont (v195, v198, v201) _ ⟨hHeld, (by (with_reducible repeat (first | apply Kd.R_alloc | apply Kd.R_drewN | apply Kd.R_drew)); exact HO199.out), (by (with_reducible repeat (first | apply Kd.R_alloc | apply Kd.R_drewN | apply Kd.R_drew)); exact Kd.R_mono HO202.out (fun _ hk => hk.2)), (by (with_reducible repeat (first | refine blk_drewN ?_ _ | refine blk_drew ?_ | refine blk_alloc ?_ _)); exact BK192.out), (by (with_reducible repeat (first | refine blk_drewN ?_ _ | refine blk_drew ?_ | refine blk_alloc ?_ _)); exact BK193.out), (by repeat (first | (with_reducible first | exact HB.out | apply below_alloc | apply pw_below_drewN | apply below_drew1 | refine below_set ?_ GE192.out | refine below_set ?_ GE193.out) | exact HB.out))⟩)
      rintro ⟨v195, v198, v201⟩ w12 ⟨hS_, h0_, h1_, h2_, h3_, h4_⟩
      have n0_ : Aside0 (Kd.R (Kd.int .i32) 21 w12 w.heap.size (fun k_ => some k_ ≠ (v201 : Value).ownBlock) v198 y197) := ⟨h0_⟩
      have n1_ : Aside0 (Kd.R (Kd.int .i32) 21 w12 w.heap.size (fun k_ => some k_ ≠ (v198 : Value).ownBlock) v201 y200) := ⟨h1_⟩
      have n2_ : Aside0 (w12.heap[gb192]? = some (.cells #[.int .i64 a0_0, .slice A0_1 l0_1.length c0_1, .slice A0_2 l0_2.length c0_2] 68 (0, 0))) := ⟨h2_⟩
      have n3_ : Aside0 (w12.heap[gb193]? = some (.cells #[.int .i64 0, .slice none 0 0, .slice none 0 0] 68 (0, 0))) := ⟨h3_⟩
      have n4_ : Aside0 (Below w.heap.size w w12) := ⟨h4_⟩
      clear BK192
      clear BK193
      clear HB
      clear h0_ h1_ h2_ h3_ h4_
      have HO199 := n0_
      have HO202 := n1_
      have BK192 := n2_
      have BK193 := n3_
      have HB := n4_
      clear n0_ n1_ n2_ n3_ n4_
      have hHeld : w12.cell? ⟨gb192, 0, none⟩ = some (.int .i64 a0_0) ∧ w12.cell? ⟨gb192, 1, none⟩ = some (.slice A0_1 l0_1.length c0_1) ∧ w12.cell? ⟨gb192, 2, none⟩ = some (.slice A0_2 l0_2.length c0_2) := hS_
      refine norm_ (a' := ?_) ?_ ?_
      rotate_left
      · simp only [putAll, Act.put, List.setIfInBounds_toArray, List.set_cons_zero, List.set_cons_succ]
        rfl
      refine one_ (i := 9) (N := some 12) #[true, true, true, true, true, true, true, true, true, true, false, false] rfl rfl (one_of HT_.out (by kernel_rfl)) (by decide) (fun K hK => ?_)
      refine Kd.R_append_rows_step (Kd.int .i32) (w0 := w) w.heap.size (by rfl) (.tmp 9) (.tmp 11) 31 21 (.int .i32 0) 4 rfl Tryd.underlying31 info21 rfl (by decide) (by omega) v201 y200 l0_1 _ _ _ (fun k_ => some k_ ≠ (v198 : Value).ownBlock) (fun _ => False) rfl rfl ?aO ?aR (fun _ _ h => h) (fun _ h => h.elim) ?aF ?aB ?aS ?aL ?_
      (case aR => repeat (first | exact (Kd.C_below HR0_1.out HB.out) | (with_reducible refine Kd.C_alloc ?_ _) | (with_reducible refine Kd.C_drewN ?_ _) | (with_reducible refine Kd.C_drew ?_)))
      (case aB => exact (by repeat (first | (with_reducible first | exact HB.out | apply below_alloc | apply pw_below_drewN | apply below_drew1 | refine below_set ?_ GE192.out | refine below_set ?_ GE193.out) | exact HB.out)))
      (case aF => exact (fun k_ hk => Kd.fresh' (Kd.R_lt (by (with_reducible repeat (first | apply Kd.R_alloc | apply Kd.R_drewN | apply Kd.R_drew)); exact HO199.out)) k_ hk))
      (case aO => exact (by (with_reducible repeat (first | apply Kd.R_alloc | apply Kd.R_drewN | apply Kd.R_drew)); exact HO202.out))
      (case aS => exact (below_size (by repeat (first | (with_reducible first | exact HB.out | apply below_alloc | apply pw_below_drewN | apply below_drew1 | refine below_set ?_ GE192.out | refine below_set ?_ GE193.out) | exact HB.out))))
      (case aL => have := LMc3.out; omega)
      intro v204 w13 ho hb hg hat
      rw [← Ny203.out] at ho
      have n0_ := Aside0.mk (blk_grown (g := gb192) (o := .cells #[.int .i64 a0_0, .slice A0_1 l0_1.length c0_1, .slice A0_2 l0_2.length c0_2] 68 (0, 0)) (by (with_reducible repeat (first | refine blk_drewN ?_ _ | refine blk_drew ?_ | refine blk_alloc ?_ _)); exact BK192.out) hg (Kd.R_ne HO202.out BK192.out (by decide)))
      have n1_ := Aside0.mk (blk_grown (g := gb193) (o := .cells #[.int .i64 0, .slice none 0 0, .slice none 0 0] 68 (0, 0)) (by (with_reducible repeat (first | refine blk_drewN ?_ _ | refine blk_drew ?_ | refine blk_alloc ?_ _)); exact BK193.out) hg (Kd.R_ne HO202.out BK193.out (by decide)))
      have n2_ := Aside0.mk (Kd.R_after (ok := (fun _ => True)) (by (with_reducible repeat (first | apply Kd.R_alloc | apply Kd.R_drewN | apply Kd.R_drew)); exact Kd.R_mono HO199.out (fun _ hk => ⟨trivial, hk⟩)) hg hat)
      have n3_ := Aside0.mk (hb)
      have n4_ := Aside0.mk (ho)
      clear BK192
      clear BK193
      clear HO199
      clear HB
      clear HO202
      have BK192 := n0_
      have BK193 := n1_
      have HO199 := n2_
      have HB := n3_
      have HO205 := n4_
      clear n0_ n1_ n2_ n3_ n4_
      clear ho hb hg hat
      obtain ⟨Ao14, co14, eo14⟩ := Kd.R_slice HO205.out
      (first | subst eo14 | (injection eo14 with f1_ f2_ f3_; have f4_ := f1_.symm; have f5_ := f3_.symm; clear f1_ f2_ f3_; subst f4_; subst f5_))
      obtain ⟨Ao15, co15, eo15⟩ := Kd.R_slice HO199.out
      (first | subst eo15 | (injection eo15 with f1_ f2_ f3_; have f4_ := f1_.symm; have f5_ := f3_.symm; clear f1_ f2_ f3_; subst f4_; subst f5_))
      refine hK.out _ _ ⟨(blk_cell BK192.out 0).trans rfl, (blk_cell BK192.out 1).trans rfl, (blk_cell BK192.out 2).trans rfl⟩ (fun hHeld => ?_)
      clear hK K
      refine norm_ (a' := ?_) ?_ ?_
      rotate_left
      · show Act.put _ (some 12) _ = _
        simp only [Act.put, List.setIfInBounds_toArray, List.set_cons_zero, List.set_cons_succ, i64_w, i32_w]
        rfl
      refine pure_ (i := 10) (N := some 13) (v := ?_) (a' := ?_) #[true, true, true, true, true, true, true, true, true, true, true, false] rfl rfl (any_of HT_.out (by kernel_rfl)) (fun _ _ _ h => h) (Or.inl ⟨by rfl, ?_⟩) ?_ ?_
      rotate_left
      · intro w'
        go_simp
        with_reducible rfl
      rotate_left
      · simp only [Act.put, List.setIfInBounds_toArray, List.set_cons_zero, List.set_cons_succ, i64_w, i32_w]
        rfl
      refine one_ (i := 11) (N := none) #[true, true, true, true, true, true, true, true, true, true, true, true] rfl rfl (one_of HT_.out (by kernel_rfl)) (by decide) (fun K hK => ?_)
      have hs16 : w13.cell? ⟨gb193, 0, none⟩ = some (.int .i64 0) := (blk_cell BK193.out 0).trans rfl
      have hfs16 := blk_frozen BK193.out 0
      have hns16_0 := NB192_193.out
      have hms16_0 := NB193_192.out
      have hs17 : w13.cell? ⟨gb193, 1, none⟩ = some (.slice none 0 0) := (blk_cell BK193.out 1).trans rfl
      have hfs17 := blk_frozen BK193.out 1
      have hns17_0 := NB192_193.out
      have hms17_0 := NB193_192.out
      have hs18 : w13.cell? ⟨gb193, 2, none⟩ = some (.slice none 0 0) := (blk_cell BK193.out 2).trans rfl
      have hfs18 := blk_frozen BK193.out 2
      have hns18_0 := NB192_193.out
      have hms18_0 := NB193_192.out
      refine skip_ (w1 := ?_) (by rfl) rfl ?_ ?_
      rotate_left
      · go_simp
        rfl
      refine hK.out _ _ ⟨((cell_far (p := ⟨gb193, _, none⟩) NB192_193.out _).trans (((cell_far (p := ⟨gb193, _, none⟩) NB192_193.out _).trans (((cell_far (p := ⟨gb193, _, none⟩) NB192_193.out _).trans (hHeld.1)))))), ((cell_far (p := ⟨gb193, _, none⟩) NB192_193.out _).trans (((cell_far (p := ⟨gb193, _, none⟩) NB192_193.out _).trans (((cell_far (p := ⟨gb193, _, none⟩) NB192_193.out _).trans (hHeld.2.1)))))), ((cell_far (p := ⟨gb193, _, none⟩) NB192_193.out _).trans (((cell_far (p := ⟨gb193, _, none⟩) NB192_193.out _).trans (((cell_far (p := ⟨gb193, _, none⟩) NB192_193.out _).trans (hHeld.2.2))))))⟩ (fun hHeld => ?_)
      clear hK K
      refine done_ (done_of HT_.out (by kernel_rfl)) ?_
      try go_wp2
      refine bodyPost_ret (results_cell_row rfl _ _ gb193 68 #[.int .i64 a0_0, .slice Ao15 y197.length co15, .slice Ao14 y203.length co14] (0, 0) _ rfl (by (with_reducible repeat (first | refine blk_drewN ?_ _ | refine blk_drew ?_ | refine blk_alloc ?_ _)); refine blk_put (cs := #[.int .i64 a0_0, .slice Ao15 y197.length co15, .slice none 0 0]) ?_ 2 _ rfl; (with_reducible repeat (first | refine blk_drewN ?_ _ | refine blk_drew ?_ | refine blk_alloc ?_ _)); refine blk_put (cs := #[.int .i64 a0_0, .slice none 0 0, .slice none 0 0]) ?_ 1 _ rfl; (with_reducible repeat (first | refine blk_drewN ?_ _ | refine blk_drew ?_ | refine blk_alloc ?_ _)); refine blk_put (cs := #[.int .i64 0, .slice none 0 0, .slice none 0 0]) ?_ 0 _ rfl; (with_reducible repeat (first | refine blk_drewN ?_ _ | refine blk_drew ?_ | refine blk_alloc ?_ _)); exact BK193.out) Tryd.underlying68 rfl (by kernel_rfl)) rfl ?_
      exact ⟨_, _, by first | rfl | (simp [errW_none, errW_some] <;> rfl) | (simp [*, errW_none, errW_some] <;> rfl), by (with_reducible repeat (first | apply Kd.R_alloc | apply Kd.R_drewN | apply Kd.R_drew)); exact Kd.R_mono (Kd.R_far (p := ⟨gb193, 2, none⟩) (Kd.R_far (p := ⟨gb193, 1, none⟩) (Kd.R_far (p := ⟨gb193, 0, none⟩) (Kd.R_types HO199.out BK193.out (by decide)) (fun _ hk => hk.2) (.int .i64 a0_0)) (fun _ hk => hk.2) (.slice Ao15 y197.length co15)) (fun _ hk => hk.2) (.slice Ao14 y203.length co14)) (fun _ hk => hk.1.2), by (with_reducible repeat (first | apply Kd.R_alloc | apply Kd.R_drewN | apply Kd.R_drew)); exact Kd.R_mono (Kd.R_far (p := ⟨gb193, 2, none⟩) (Kd.R_far (p := ⟨gb193, 1, none⟩) (Kd.R_far (p := ⟨gb193, 0, none⟩) (Kd.R_types HO205.out BK193.out (by decide)) (fun _ hk => hk.2) (.int .i64 a0_0)) (fun _ hk => hk.2) (.slice Ao15 y197.length co15)) (fun _ hk => hk.2) (.slice Ao14 y203.length co14)) (fun _ hk => hk.1), by repeat (first | (with_reducible first | exact HB.out | apply below_alloc | apply pw_below_drewN | apply below_drew1 | refine below_set ?_ GE192.out | refine below_set ?_ GE193.out) | exact HB.out)⟩
    · rw [if_neg c3] at H
      exact absurd H (by simp)
  · rw [if_neg c2] at H
    exact absurd H (by simp)

end Go.Proofs.YtenjldfflkinkaaDoor.F
namespace Go.Proofs.YtenjldfflkinkaaDoor.Sav
set_option linter.unusedVariables false
set_option linter.unusedSimpArgs false
open Go.RowKit Go.Proofs.YtenjldfflkinkaaDoor.F Go.Proofs.YtenjldfflkinkaaDoorW.PrintWords Go.Proofs.YtenjldfflkinkaaDoorW.PrintLast Go.Proofs.YtenjldfflkinkaaDoorW.PrintMore
open Go.Proofs.YtenjldfflkinkaaDoor.Rop (Sl Ch ChV CV ChAt Rc SV SP StOk rightE scl fitsB doneT GivesCh own_sl Sl.nil)
set_option linter.unusedSectionVars false
variable [Coe Unit Nat]
theorem R_sl {w1 : World} {base : Nat} {v : Value} {l : List Int} {ok : Nat → Prop} (h : Kd.R (Kd.int .i32) 21 w1 base ok v l) : ∃ A n c, v = .slice A n c ∧ Sl w1 A n c l := by
  obtain ⟨A, c, rfl⟩ := Kd.R_slice h
  exact ⟨A, _, c, rfl, (Kd.R_reads' h).2.2, rfl, (Kd.R_reads' h).2.1, Go.Proofs.YtenjldfflkinkaaDoor.Rop.R_cap h, Go.Proofs.YtenjldfflkinkaaDoor.Rop.R_ty h⟩
theorem Turned_calls {w : World} {B D : Option Addr} {m d q r : Nat} {p : Int} {x : Ch} (hx : ChV w p B m d D q r x) (hm : m ≤ 1000000) (hq : q ≤ 1000000) :
    Calls Tryd.prog 61 #[.agg #[.int .i64 p, .slice B m d, .slice D q r]] w (GivesCh x.inv w) := by
  have h1 := hx.g.hn
  have h2 := hx.k.hn
  have hf : colophonref22_Turned.f p x.gone x.came = some (p, x.came, x.gone) := by
    unfold colophonref22_Turned.f
    simp only [Option.bind_some, List.nil_append, List.length_nil, Nat.zero_add]
    rw [if_pos (by omega), if_pos (by omega)]
  have := colophonref22_Turned.calls p B d x.gone D r x.came p x.came x.gone w (by rw [h1]; exact hx.g.hC) (by rw [h1]; exact hx.g.hc) (by rw [h2]; exact hx.k.hC) (by rw [h2]; exact hx.k.hc) hf
  rw [h1, h2] at this
  refine this.mono ?_
  rintro e w' ⟨v1, v2, rfl, hr1, hr2, hb⟩
  obtain ⟨A1, n1, c1, rfl, s1⟩ := R_sl hr1
  obtain ⟨A2, n2, c2, rfl, s2⟩ := R_sl hr2
  exact ⟨p, A1, n1, c1, A2, n2, c2, rfl, ⟨hx.hp, s1, s2⟩, hb⟩
end Go.Proofs.YtenjldfflkinkaaDoor.Sav

namespace Go.Proofs.YtenjldfflkinkaaDoor.Sav
set_option linter.unusedVariables false
set_option linter.unusedSimpArgs false
open Go.RowKit Go.Proofs.YtenjldfflkinkaaDoor.F Go.Proofs.YtenjldfflkinkaaDoorW.PrintWords Go.Proofs.YtenjldfflkinkaaDoorW.PrintLast Go.Proofs.YtenjldfflkinkaaDoorW.PrintMore
open Go.Proofs.YtenjldfflkinkaaDoor.Rop (Sl Ch ChV CV ChAt Rc SV SP StOk rightE scl fitsB doneT GivesCh own_sl Sl.nil)
set_option linter.unusedSectionVars false
variable [Coe Unit Nat]
set_option maxRecDepth 100000 in
set_option maxHeartbeats 8000000 in
theorem Done_calls {w : World} {A B D : Option Addr} {n c m d q r : Nat} {p : Int} {text : List Int} {x : Ch} (h : Sl w A n c text) (hx : ChV w p B m d D q r x) (hf : fitsB text x = true) (hs : (∀ r ∈ x.gone, scal r) ∧ (∀ r ∈ x.came, scal r)) (hn : n ≤ 5000) (hm : m ≤ 5000) (hq : q ≤ 5000) (hl : (doneT text x).length ≤ 4096) :
    Calls Tryd.prog 60 #[.slice A n c, .agg #[.int .i64 p, .slice B m d, .slice D q r]] w fun e w' => ∃ A' n' c', e = .returned (.tuple #[.slice A' n' c', .bool true]) ∧ Sl w' A' n' c' (doneT text x) ∧ Below w.heap.size w w' := by
  unfold fitsB at hf
  simp only [decide_eq_true_eq] at hf
  obtain ⟨f0, f1, f2⟩ := hf
  obtain ⟨a, ha⟩ : ∃ a : Nat, x.at_ = (a : Int) := ⟨x.at_.toNat, by omega⟩
  have hpa : p = (a : Int) := hx.hp.trans ha
  subst hpa
  have hgn := hx.g.hn
  have htn := h.hn
  rw [ha] at f0 f1 f2
  rw [hgn, htn] at f1
  rw [Int.toNat_natCast, hgn] at f2
  have ham : a + m ≤ n := by omega
  unfold doneT at hl ⊢
  rw [ha, Int.toNat_natCast, hgn] at hl ⊢
  have hsame : ∀ i, i < m → text.getD (a + i) 0 = x.gone.getD i 0 := fun i hi => by
    rw [← f2]
    simp only [List.getD_eq_getElem?_getD]
    rw [List.getElem?_take, if_pos hi, List.getElem?_drop]
  have hT := Aside0.mk h
  have hX := Aside0.mk hx
  have hS := Aside0.mk hsame
  have CS1 := Aside0.mk (fun W (hb : Below w.heap.size w W) => Rscalars_calls (hx.g.below hb) (by omega) hs.1)
  have CS2 := Aside0.mk (fun W (hb : Below w.heap.size w W) => Rscalars_calls (hx.k.below hb) (by omega) hs.2)
  have CP := Aside0.mk (fun W (hb : Below w.heap.size w W) => (show Calls Tryd.prog 81 #[.slice A n c, .int .i64 (a : Int), .int .i64 ((a : Int) + (m : Int)), .slice D q r] W (Go.Proofs.YtenjldfflkinkaaDoor.Rop.GivesSl (text.take a ++ x.came ++ text.drop (a + m)) W) from by
    have := Put_calls (w := W) (i := a) (j := a + m) (h.below hb) (hx.k.below hb) (by omega) ham (by omega) (by omega)
    rw [Int.natCast_add] at this
    exact this))
  have c1 : ((a : Int) < 0) = False := eq_false (by omega)
  have c2 : ((n : Int) < (a : Int)) = False := eq_false (by omega)
  have c3 : ((n : Int) - (a : Int) < (m : Int)) = False := eq_false (by omega)
  have b1 : (a : Int) ≤ 5000 := by omega
  have b2 : (n : Int) ≤ 5000 := by omega
  have b3 : (m : Int) ≤ 5000 := by omega
  have hl2 : (text.take a ++ x.came ++ text.drop (a + m)).length ≤ 4096 := hl
  clear h hx hs hsame f0 f1 f2 ha hl
  go_enter Tryd.func60, Tryd.ntmps60
  go_upto_region 1 with (fail)
  have kg := World.alloc_heap_new w (.cells #[.int .i64 (a : Int), .slice B m d, .slice D q r] 68)
  have hb1 := below_alloc (Below.refl _ w) (.cells #[.int .i64 (a : Int), .slice B m d, .slice D q r] 68)
  have KG := Aside0.mk kg
  have HB0 := Aside0.mk hb1
  have cg0 : _ = some (Value.int .i64 (a : Int)) := blk_cell kg 0
  have cg1 : _ = some (Value.slice B m d) := blk_cell kg 1
  have cg2 : _ = some (Value.slice D q r) := blk_cell kg 2
  clear kg hb1
  generalize w.alloc (.cells #[.int .i64 (a : Int), .slice B m d, .slice D q r] 68) = W0 at KG HB0 cg0 cg1 cg2 ⊢
  obtain ⟨g3, hg3⟩ : ∃ g, w.heap.size = g := ⟨_, rfl⟩
  rw [show Value.pointer (some ⟨w.heap.size, 0, none⟩) = Value.pointer (some ⟨g3, 0, none⟩) from by rw [hg3]]
  rw [hg3] at KG cg0 cg1 cg2
  clear hg3
  go_upto_region 3 with (first
    | (go_at_call 59; (with_reducible refine (CS1.out _ HB0.out).mono ?_); rintro e wz ⟨rfl, rfl⟩)
    | (go_at_call 59; (with_reducible refine (CS2.out _ HB0.out).mono ?_); rintro e wz ⟨rfl, rfl⟩))
  go_wp2
  go_loopw [6] (fun v6 wr => ∃ i : Nat, v6 = .int .i64 (i : Int) ∧ i ≤ m ∧ Aside0 (Below W0.heap.size W0 wr)) (fun v6 _ => m - (intOf v6).toNat)
  case atStart => exact ⟨0, rfl, Nat.zero_le _, ⟨Below.refl _ _⟩⟩
  case round =>
    obtain ⟨i, rfl, hi, HBr⟩ := hrel
    have dg0 := (HBr.out.cell (World.block_lt_of_cell? _ _ cg0)).trans cg0
    have dg1 := (HBr.out.cell (World.block_lt_of_cell? _ _ cg1)).trans cg1
    have dg2 := (HBr.out.cell (World.block_lt_of_cell? _ _ cg2)).trans cg2
    by_cases hlt : i < m
    · have hlt' : (i : Int) < (m : Int) := by omega
      obtain ⟨ad, rfl, hx1⟩ := rune_read (hT.out.below (below_step HB0.out HBr.out)).hC hT.out.hn (a + i) (by omega)
      obtain ⟨ad2, rfl, hx2⟩ := rune_read (hX.out.g.below (below_step HB0.out HBr.out)).hC hX.out.g.hn i hlt
      rw [hS.out i hlt] at hx1
      obtain ⟨y, hy⟩ : ∃ y, x.gone.getD i 0 = y := ⟨_, rfl⟩
      rw [hy] at hx1 hx2
      clear hy
      go_wp2
      go_quiet (fail)
      go_wp2
      go_roundw
      case measure => simp [intOf]; omega
      case rel => exact ⟨i + 1, by go_num, by omega, ⟨pw_below_drewN HBr.out nq⟩⟩
    · obtain rfl : i = m := by omega
      have CP1 := Aside0.mk (CP.out _ (below_step HB0.out HBr.out))
      go_wp2_with (go_at_call 81; (with_reducible refine CP1.out.mono ?_); rintro e w5 ⟨A5, n5, c5, rfl, s5, hb5⟩; have S5 := Aside0.mk s5; have HB5 := Aside0.mk (below_step (below_step HB0.out HBr.out) hb5); have hn5 : (n5 : Int) ≤ 4096 := (by have := s5.hn; omega); clear s5 hb5)
      go_ret2
      exact ⟨A5, n5, c5, rfl, S5.out, HB5.out⟩
end Go.Proofs.YtenjldfflkinkaaDoor.Sav

namespace Go.Proofs.YtenjldfflkinkaaDoor.Sav
set_option linter.unusedVariables false
set_option linter.unusedSimpArgs false
open Go.RowKit Go.Proofs.YtenjldfflkinkaaDoor.F Go.Proofs.YtenjldfflkinkaaDoorW.PrintWords Go.Proofs.YtenjldfflkinkaaDoorW.PrintLast Go.Proofs.YtenjldfflkinkaaDoorW.PrintMore
open Go.Proofs.YtenjldfflkinkaaDoor.Rop (Sl Ch ChV CV ChAt Rc SV SP StOk rightE scl fitsB doneT goesT dn)
set_option linter.unusedSectionVars false
variable [Coe Unit Nat]
theorem step_some {back : Bool} {t : List Int} {x : Ch} {xs : List Ch} (h : (goesT back t (x :: xs)).isSome = true) : fitsB t (x.way back) = true ∧ (∀ r ∈ (x.way back).gone, scal r) ∧ (∀ r ∈ (x.way back).came, scal r) ∧ (doneT t (x.way back)).length ≤ 4096 ∧ (goesT back (doneT t (x.way back)) xs).isSome = true := by
  simp only [goesT] at h
  unfold Go.Proofs.YtenjldfflkinkaaDoor.Rop.stepT at h
  split at h
  · rename_i hc
    exact ⟨hc.1, scal_all hc.2.1, scal_all hc.2.2.1, hc.2.2.2, h⟩
  · cases h
theorem right_0 {v : SV} {s : SP} (h : rightE v s = 0) : (goesT true s.text ((dn v.n1 (Nat.le_refl _)).map fun j => s.x1 j.1)).isSome = true ∧ (goesT false s.text ((dn v.n2 (Nat.le_refl _)).map fun j => s.x2 j.1)).isSome = true := by
  unfold rightE at h
  split at h
  · cases h
  · split at h
    · cases h
    · split at h
      · cases h
      · rename_i h3
        constructor
        · cases hh : (goesT true s.text ((dn v.n1 (Nat.le_refl _)).map fun j => s.x1 j.1)).isSome with
          | true => rfl
          | false => exact absurd (.inl hh) h3
        · cases hh : (goesT false s.text ((dn v.n2 (Nat.le_refl _)).map fun j => s.x2 j.1)).isSome with
          | true => rfl
          | false => exact absurd (.inr hh) h3
/-- the changes ahead of place k, from the last one down -/
def ahead (xs : Nat → Ch) : Nat → List Ch
  | 0 => []
  | k + 1 => xs k :: ahead xs k
theorem ahead_dn (xs : Nat → Ch) {n : Nat} : ∀ (k : Nat) (h : k ≤ n), (dn k h).map (fun j => xs j.1) = ahead xs k
  | 0, _ => rfl
  | k + 1, h => by
    unfold dn ahead
    rw [List.map_cons, ahead_dn xs k]
set_option maxRecDepth 100000 in
set_option maxHeartbeats 8000000 in
theorem RRight_calls {w : World} {v : SV} {s : SP} (h : StOk w v s) (hr : rightE v s = 0) : Calls Tryd.prog 27 #[v.val] w fun e w' => e = .returned (.int .i64 0) ∧ Below w.heap.size w w' := by
  have hrt := Rt.of hr
  obtain ⟨hg1, hg2⟩ := right_0 hr
  obtain ⟨A, n, c, A1, n1, c1, A2, n2, c2, v1, v2⟩ := v
  dsimp only [SV.val]
  dsimp only at hg1 hg2
  rw [ahead_dn] at hg1 hg2
  have HT := Aside0.mk h
  have bn : n ≤ 4096 := hrt.n
  have b12 : n1 + n2 ≤ 16 := hrt.n12
  have i0 : (n : Int) ≤ 4096 := by omega
  have i1 : (n1 : Int) ≤ 16 := by omega
  have i2 : (n2 : Int) ≤ 16 := by omega
  have d0 : (4096 < (n : Int)) = False := eq_false (by omega)
  have d1 : (16 < (n1 : Int) + (n2 : Int)) = False := eq_false (by omega)
  have CS := Aside0.mk (fun W (hb : Below w.heap.size w W) => Rscalars_calls (h.t.below hb) (by show n ≤ 100000; omega) hrt.t)
  have HG1 := Aside0.mk hg1
  have HG2 := Aside0.mk hg2
  clear h hr hrt hg1 hg2
  go_enter Tryd.func27, Tryd.ntmps27
  go_upto_region 1 with (fail)
  have kg := World.alloc_heap_new w (.cells #[.slice A n c, .slice A1 n1 c1, .slice A2 n2 c2] 34)
  have hb1 := below_alloc (Below.refl _ w) (.cells #[.slice A n c, .slice A1 n1 c1, .slice A2 n2 c2] 34)
  have HB0 := Aside0.mk hb1
  have cg0 : _ = some (Value.slice A n c) := blk_cell kg 0
  have cg1 : _ = some (Value.slice A1 n1 c1) := blk_cell kg 1
  have cg2 : _ = some (Value.slice A2 n2 c2) := blk_cell kg 2
  clear kg hb1
  generalize w.alloc (.cells #[.slice A n c, .slice A1 n1 c1, .slice A2 n2 c2] 34) = W0 at HB0 cg0 cg1 cg2 ⊢
  obtain ⟨g1, hg1⟩ : ∃ g, w.heap.size = g := ⟨_, rfl⟩
  rw [show Value.pointer (some ⟨w.heap.size, 0, none⟩) = Value.pointer (some ⟨g1, 0, none⟩) from by rw [hg1]]
  rw [hg1] at cg0 cg1 cg2
  clear hg1
  go_upto_region 5 with (go_at_call 59; (with_reducible refine (CS.out _ HB0.out).mono ?_); rintro e wz ⟨rfl, rfl⟩)
  go_wp2
  go_loopw [3, 4, 5] (fun v3 v4 v5 wr => ∃ (k : Nat) (t : List Int) (A' : Option Addr) (n' c' : Nat), v3 = .slice A' n' c' ∧ v4 = .bool true ∧ v5 = .int .i64 ((k : Int) - 1) ∧ k ≤ n1 ∧ n' ≤ 4096 ∧ Aside0 (Sl wr A' n' c' t) ∧ Aside0 ((goesT true t (ahead s.x1 k)).isSome = true) ∧ Aside0 (Below W0.heap.size W0 wr)) (fun _ _ v5 _ => (intOf v5 + 1).toNat)
  case atStart => exact ⟨n1, s.text, A, n, c, rfl, rfl, by first | rfl | go_num, Nat.le_refl _, bn, ⟨HT.out.t.below HB0.out⟩, HG1, ⟨Below.refl _ _⟩⟩
  case round =>
    obtain ⟨k, t, A', n', c', rfl, rfl, rfl, hk, hn', HS, HG, HBr⟩ := hrel
    have dg0 := (HBr.out.cell (World.block_lt_of_cell? _ _ cg0)).trans cg0
    have dg1 := (HBr.out.cell (World.block_lt_of_cell? _ _ cg1)).trans cg1
    have dg2 := (HBr.out.cell (World.block_lt_of_cell? _ _ cg2)).trans cg2
    cases k with
    | zero =>
      have e0 : ((0 : Nat) : Int) - 1 = -1 := rfl
      rw [e0]
      have HBz := HBr
      clear HG HS HBr dg0 dg1 dg2
      generalize wr = wz at HBz ⊢
      have dg0 := (HBz.out.cell (World.block_lt_of_cell? _ _ cg0)).trans cg0
      have dg2 := (HBz.out.cell (World.block_lt_of_cell? _ _ cg2)).trans cg2
      go_wp2
      go_loopw [3, 4, 6] (fun v3 v4 v6 wr => ∃ (k : Nat) (t : List Int) (A' : Option Addr) (n' c' : Nat), v3 = .slice A' n' c' ∧ v4 = .bool true ∧ v6 = .int .i64 ((k : Int) - 1) ∧ k ≤ n2 ∧ n' ≤ 4096 ∧ Aside0 (Sl wr A' n' c' t) ∧ Aside0 ((goesT false t (ahead s.x2 k)).isSome = true) ∧ Aside0 (Below W0.heap.size W0 wr)) (fun _ _ v6 _ => (intOf v6 + 1).toNat)
      case atStart => exact ⟨n2, s.text, A, n, c, rfl, rfl, by first | rfl | go_num, Nat.le_refl _, bn, ⟨HT.out.t.below (below_step HB0.out HBz.out)⟩, HG2, HBz⟩
      case round =>
        clear dg0 dg2
        obtain ⟨k, t, A', n', c', rfl, rfl, rfl, hk, hn', HS, HG, HBr⟩ := hrel
        have dg0 := (HBr.out.cell (World.block_lt_of_cell? _ _ cg0)).trans cg0
        have dg1 := (HBr.out.cell (World.block_lt_of_cell? _ _ cg1)).trans cg1
        have dg2 := (HBr.out.cell (World.block_lt_of_cell? _ _ cg2)).trans cg2
        cases k with
        | zero =>
          go_wp2
          go_ret
          exact ⟨rfl, below_step HB0.out HBr.out⟩
        | succ k =>
          have hk1 : ((k + 1 : Nat) : Int) - 1 = (k : Int) := by omega
          rw [hk1]
          have hlt' : (k : Int) < (n2 : Int) := by omega
          obtain ⟨hs1, hs2, hs3, hs4, hs5⟩ := step_some (show (goesT false t (s.x2 k :: ahead s.x2 k)).isSome = true from HG.out)
          obtain ⟨ad, ha1, hat0⟩ := (HT.out.r.below (below_step HB0.out HBr.out)).at_ k (by show k < n2; omega)
          dsimp only at ha1
          subst ha1
          have k0 := hat0.c0
          have k1 := hat0.c1
          have k2 := hat0.c2
          have hV := hat0.h
          have hsz : (v2 k).n ≤ 5000 ∧ (v2 k).m ≤ 5000 := HT.out.s2 k (by show k < n2; omega)
          dsimp only at k0 k1 k2 hV
          obtain ⟨x, hx⟩ : ∃ x, s.x2 k = x := ⟨_, rfl⟩
          obtain ⟨cv, hcv⟩ : ∃ cv, v2 k = cv := ⟨_, rfl⟩
          rw [hx] at hs1 hs2 hs3 hs4 hs5 hV
          rw [hcv] at k0 k1 k2 hV hsz
          obtain ⟨p, A5, n5, c5, B5, m5, d5⟩ := cv
          dsimp only at k0 k1 k2 hV hsz
          clear hat0 hx hcv
          have hgl := hV.g.hn
          have hkl := hV.k.hn
          have CDn := Aside0.mk (Done_calls HS.out hV hs1 ⟨hs2, hs3⟩ (by omega) (by omega) (by omega) hs4)
          have HS4 := Aside0.mk hs4
          have HS5 := Aside0.mk hs5
          clear hs1 hs2 hs3 hs4 hs5 hV
          go_wp2_with (go_at_call 60; (with_reducible refine CDn.out.mono ?_); rintro e w6 ⟨A7, n7, c7, rfl, s7, hb6⟩; have S7 := Aside0.mk s7; have HB6 := Aside0.mk (below_step HBr.out hb6); have hn7 := s7.hn; clear s7 hb6)
          go_roundw
          case measure => first | (simp [intOf]; done) | (simp [intOf]; omega)
          case rel => exact ⟨k, _, A7, n7, c7, rfl, rfl, by first | rfl | go_num, by omega, by have := HS4.out; have e : (x.way false) = x := rfl; rw [e] at this; omega, S7, HS5, HB6⟩
    | succ k =>
      have hk1 : ((k + 1 : Nat) : Int) - 1 = (k : Int) := by omega
      rw [hk1]
      have hlt' : (k : Int) < (n1 : Int) := by omega
      obtain ⟨hs1, hs2, hs3, hs4, hs5⟩ := step_some (show (goesT true t (s.x1 k :: ahead s.x1 k)).isSome = true from HG.out)
      obtain ⟨ad, ha1, hat0⟩ := (HT.out.u.below (below_step HB0.out HBr.out)).at_ k (by show k < n1; omega)
      dsimp only at ha1
      subst ha1
      have k0 := hat0.c0
      have k1 := hat0.c1
      have k2 := hat0.c2
      have hV := hat0.h
      have hsz : (v1 k).n ≤ 5000 ∧ (v1 k).m ≤ 5000 := HT.out.s1 k (by show k < n1; omega)
      dsimp only at k0 k1 k2 hV
      obtain ⟨x, hx⟩ : ∃ x, s.x1 k = x := ⟨_, rfl⟩
      obtain ⟨cv, hcv⟩ : ∃ cv, v1 k = cv := ⟨_, rfl⟩
      rw [hx] at hs1 hs2 hs3 hs4 hs5 hV
      rw [hcv] at k0 k1 k2 hV hsz
      obtain ⟨p, A5, n5, c5, B5, m5, d5⟩ := cv
      dsimp only at k0 k1 k2 hV hsz
      clear hat0 hx hcv
      have CT := Aside0.mk (Turned_calls hV (by omega) (by omega))
      have hgl := hV.g.hn
      have hkl := hV.k.hn
      have HDO := Aside0.mk (fun W (hb : Below wr.heap.size wr W) (p' : Int) (A6 : Option Addr) (n6 c6 : Nat) (B6 : Option Addr) (m6 d6 : Nat) (hh : ChV W p' A6 n6 c6 B6 m6 d6 x.inv) => Done_calls (HS.out.below hb) hh hs1 ⟨hs2, hs3⟩ (by omega) (by have := hh.g.hn; have h2 : x.inv.gone.length = x.came.length := rfl; omega) (by have := hh.k.hn; have h2 : x.inv.came.length = x.gone.length := rfl; omega) hs4)
      have HS4 := Aside0.mk hs4
      have HS5 := Aside0.mk hs5
      clear hs1 hs2 hs3 hs4 hs5 hV
      go_wp2_with (first
        | (go_at_call 61; (with_reducible refine CT.out.mono ?_); rintro e w5 ⟨p6, A6, n6, c6, B6, m6, d6, rfl, hch, hb5⟩; have CDn := Aside0.mk (HDO.out _ hb5 _ _ _ _ _ _ _ hch); have HB5 := Aside0.mk (below_step HBr.out hb5); clear hch hb5)
        | (go_at_call 60; (with_reducible refine CDn.out.mono ?_); rintro e w6 ⟨A7, n7, c7, rfl, s7, hb6⟩; have S7 := Aside0.mk s7; have HB6 := Aside0.mk (below_step HB5.out hb6); have hn7 := s7.hn; clear s7 hb6))
      go_roundw
      case measure => first | (simp [intOf]; done) | (simp [intOf]; omega)
      case rel => exact ⟨k, _, A7, n7, c7, rfl, rfl, by first | rfl | go_num, by omega, by have := HS4.out; have e : (x.way true) = x.inv := rfl; rw [e] at this; omega, S7, HS5, HB6⟩
end Go.Proofs.YtenjldfflkinkaaDoor.Sav
