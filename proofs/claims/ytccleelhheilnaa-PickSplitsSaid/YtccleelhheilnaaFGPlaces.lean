/- pick.Places by its contract: the places of columns, sorted. -/
import Derived.Shelf.Lay
import Derived.Shelf.Sort.Plain
import Derived.Shelf.Slices.In.SortNone
import Derived.Ground.Names2Prog
import Derived.Sort.OwnSortedInts
import Derived.Test.YtccleelhheilnaaFGPRuns
import Derived.Test.YtccleelhheilnaaFGCols
import Derived.WalkSpells
import Derived.WalkLawsBesides
namespace Go.Proofs
open Go.Shelf
shelf_lay Lays.n189 Nm 189 at Try as Ytccleelhheilnaa.lays189
end Go.Proofs
namespace Go.Proofs.Ytccleelhheilnaa.F
set_option linter.unusedVariables false
set_option linter.unusedSimpArgs false
open Go.RowKit Go.Shelf Go.Sort Go.Proofs.YtccleelhheilnaaW.PrintWords Go.Proofs.YtccleelhheilnaaW.PrintLast Go.Proofs.YtccleelhheilnaaW.PrintMore

/-! ### the places of runs, over lists -/
def fitR (n : Nat) : Int → List S45 → Bool
  | _, [] => true
  | e, x :: r => if x.f0 < e ∨ x.f1 ≤ x.f0 ∨ (n : Int) < x.f1 then false else fitR n x.f1 r
def cutsF (l : List Int) (r : List S45) : List Int := r.flatMap fun x => (l.drop x.f0.toNat).take (x.f1.toNat - x.f0.toNat)
theorem cutsF_snoc (l : List Int) (r : List S45) (x : S45) : cutsF l (r ++ [x]) = cutsF l r ++ (l.drop x.f0.toNat).take (x.f1.toNat - x.f0.toNat) := by simp [cutsF]
def sortI (l : List Int) : List Int := l.mergeSort fun x y => decide (x ≤ y)
/-- where the runs end -/
def endR : Int → List S45 → Int
  | e, [] => e
  | _, x :: r => endR x.f1 r
theorem endR_snoc : ∀ (r : List S45) (e : Int) (x : S45), endR e (r ++ [x]) = x.f1
  | [], e, x => rfl
  | y :: r, e, x => endR_snoc r _ x
theorem fitR_app (n : Nat) : ∀ (r q : List S45) (e : Int), fitR n e (r ++ q) = (fitR n e r && fitR n (endR e r) q)
  | [], q, e => by simp [fitR, endR]
  | x :: r, q, e => by
    simp only [List.cons_append, fitR, endR]
    split
    · rfl
    · exact fitR_app n r q _
def pick_Places.f (l0 : List Int) (l1 : List S45) : Option (List Int × Int) := if l0.length ≤ 17592186043904 then (if l0.all fineB = true then (if fitR (ordered l0).length 0 l1 = true then some (sortI (cutsF (ordered l0) l1), 0) else some ([], 50)) else some ([], 2)) else none

theorem Boxed2.new (W : World) (t : TypeId) (x y : Value) : (W.alloc (.cells #[x, y] t)).heap[W.heap.size]? = some (.cells #[x, y] t (0, 0)) := heap_alloc_new _ _

set_option maxRecDepth 100000 in
set_option maxHeartbeats 8000000 in
theorem pick_Places.calls (A0 : Option Addr) (c0 : Nat) (l0 : List Int) (A1 : Option Addr) (c1 : Nat) (l1 : List S45) (r1 : List Int) (r2 : Int) (w : World) (hr0 : Kd.C (Kd.int .i64) w A0 l0.length l0) (hc0 : l0.length ≤ c0) (hr1 : Kd.C k45 w A1 l1.length l1) (hc1 : l1.length ≤ c1) (h : pick_Places.f l0 l1 = some (r1, r2)) :
    Calls Try.prog 56 #[.slice A0 l0.length c0, .slice A1 l1.length c1] w fun e w' => ∃ v0_ : Value, e = .returned (.tuple #[v0_, .int .i64 r2]) ∧ Kd.R (Kd.int .i64) 3 w' w.heap.size (fun _ => True) v0_ r1 ∧ Below w.heap.size w w' := by
  unfold pick_Places.f at h
  by_cases hlen : l0.length ≤ 17592186043904
  · rw [if_pos hlen] at h
    by_cases hf : l0.all fineB = true
    · rw [if_pos hf] at h
      have hord : order_Order.f l0 = some (ordered l0, 0) := by
        unfold order_Order.f
        rw [if_pos (by omega), if_pos hf]
      have HORD := Aside0.mk hord
      clear hord hf
      have hol : (ordered l0).length ≤ 17592186043904 := by
        rw [Go.Proofs.Ytccleelhheilnaa.Pure.ordered_len]
        exact Nat.le_trans (seen_len _ _) hlen
      obtain ⟨P, hP⟩ : ∃ P, ordered l0 = P := ⟨_, rfl⟩
      rw [hP] at h hol HORD
      have H := Aside0.mk h
      clear h hP
      have hlm := Kd.C_max hr1
      go_enter Try.func56, Try.ntmps56
      go_wp2_with (go_at_call 43; refine (order_Order.calls A0 c0 l0 P 0 w hr0 hc0 HORD.out).mono ?_; rintro e w1 ⟨v0, rfl, ho, hb⟩; obtain ⟨Ap, cp, rfl⟩ := Kd.R_slice ho; have hcp := (Kd.R_reads' ho).2.1; have HRD := Aside0.mk (Kd.R_reads' ho).2.2; have HB1 := Aside0.mk hb; clear ho hb)
      go_loopw [8, 9, 22] (fun v e i wr => ∃ k : Nat, k ≤ l1.length ∧ i = .int .i64 k ∧ e = .int .i64 (endR 0 (l1.take k)) ∧ Aside0 (fitR P.length 0 (l1.take k) = true) ∧ 0 ≤ endR 0 (l1.take k) ∧ endR 0 (l1.take k) ≤ (P.length : Int) ∧ Aside0 (((cutsF P (l1.take k)).length : Int) ≤ endR 0 (l1.take k)) ∧ Aside0 (Kd.R (Kd.int .i64) 3 wr w1.heap.size (fun _ => True) v (cutsF P (l1.take k))) ∧ Aside0 (Below w1.heap.size w1 wr))
        (fun _ _ i _ => l1.length - (intOf i).toNat)
      case atStart => exact ⟨0, Nat.zero_le _, rfl, rfl, ⟨rfl⟩, Int.le_refl _, by simp [endR], ⟨by simp [endR, cutsF]⟩, ⟨Kd.R_nil _ _ _ _ _⟩, ⟨Below.refl _ _⟩⟩
      case round =>
        obtain ⟨k, hk, rfl, rfl, HF, he0, he1, HL, HR, HB⟩ := hrel
        by_cases hlt : k < l1.length
        · obtain ⟨ad, rfl, hx0, hx1⟩ := at_T45 (Kd.C_below (Kd.C_below hr1 HB1.out) HB.out) (k : Int) (by omega) (by omega)
          rw [Int.toNat_natCast] at hx0 hx1
          obtain ⟨x0, hq0⟩ : ∃ x0, (rd_T45 l1 (k : Int)).f0 = x0 := ⟨_, rfl⟩
          obtain ⟨x1, hq1⟩ : ∃ x1, (rd_T45 l1 (k : Int)).f1 = x1 := ⟨_, rfl⟩
          rw [hq0] at hx0
          rw [hq1] at hx1
          have hel : l1[k] = (⟨x0, x1⟩ : S45) := by
            have e : rd_T45 l1 (k : Int) = l1[k] := by simp only [rd_T45, Int.toNat_natCast, List.getD_eq_getElem?_getD, List.getElem?_eq_getElem hlt, Option.getD_some]
            rw [← e, ← hq0, ← hq1]
          have hsn : l1.take (k + 1) = l1.take k ++ [⟨x0, x1⟩] := by rw [List.take_succ_eq_append_getElem hlt, hel]
          have hsp : l1 = l1.take k ++ ⟨x0, x1⟩ :: l1.drop (k + 1) := by rw [← hel, ← List.drop_eq_getElem_cons hlt, List.take_append_drop]
          have HSN := Aside0.mk hsn
          have HSP := Aside0.mk hsp
          clear hq0 hq1 hel hsn hsp
          obtain ⟨E, hE⟩ : ∃ E, endR 0 (l1.take k) = E := ⟨_, rfl⟩
          rw [hE] at he0 he1 HL ⊢
          have HEE := Aside0.mk hE
          clear hE
          have hkm : k ≤ 9223372036854775806 := by omega
          have bad : (x0 < E ∨ x1 ≤ x0 ∨ (P.length : Int) < x1) → r1 = [] ∧ r2 = 50 := fun hb => by
            have h1 := H.out
            rw [if_neg (by rw [HSP.out, fitR_app, HEE.out]; simp only [fitR]; rw [if_pos hb]; simp)] at h1
            obtain ⟨h2, h3⟩ := Prod.mk.inj (Option.some.inj h1)
            exact ⟨h2.symm, h3.symm⟩
          have BAD := Aside0.mk bad
          clear bad
          by_cases b1 : x0 < E
          · obtain ⟨rfl, rfl⟩ := BAD.out (.inl b1)
            clear BAD
            go_wp2
            go_ret2
            exact ⟨_, rfl, Kd.R_nil _ _ _ _ _, (HB1.out.trans (HB.out.mono HB1.out.size)).alloc (Nat.le_trans HB1.out.size HB.out.size) _⟩
          · by_cases b2 : x1 ≤ x0
            · obtain ⟨rfl, rfl⟩ := BAD.out (.inr (.inl b2))
              clear BAD
              go_wp2
              go_ret2
              exact ⟨_, rfl, Kd.R_nil _ _ _ _ _, (HB1.out.trans (HB.out.mono HB1.out.size)).alloc (Nat.le_trans HB1.out.size HB.out.size) _⟩
            · by_cases b3 : (P.length : Int) < x1
              · obtain ⟨rfl, rfl⟩ := BAD.out (.inr (.inr b3))
                clear BAD
                go_wp2
                go_ret2
                exact ⟨_, rfl, Kd.R_nil _ _ _ _ _, (HB1.out.trans (HB.out.mono HB1.out.size)).alloc (Nat.le_trans HB1.out.size HB.out.size) _⟩
              · obtain ⟨m0, rfl⟩ : ∃ m0 : Nat, x0 = m0 := ⟨x0.toNat, by omega⟩
                obtain ⟨m1, rfl⟩ : ∃ m1 : Nat, x1 = m1 := ⟨x1.toNat, by omega⟩
                clear BAD
                have q1 : m0 < m1 := by omega
                have q2 : m1 ≤ P.length := by omega
                have q3 : ¬ cp = m0 := by omega
                have q4 : m0 ≤ cp := by omega
                have q5 : m1 ≤ cp := by omega
                have q6 : m1 ≤ 17592186043904 := by omega
                have q7 : (cutsF P (l1.take k)).length ≤ m0 := by have := HL.out; omega
                have Q7 := Aside0.mk q7
                clear q7
                have hmid := Kd.C_mid (lo := m0) (hi := m1) HRD.out (by omega) q2 hcp
                rw [if_neg q3] at hmid
                obtain ⟨adp, rfl, -⟩ := num_read64 HRD.out (m0 : Int) (by omega) (by omega)
                have hlen2 : ((P.take m1).drop m0).length = m1 - m0 := by simp; omega
                rw [hlen2] at hmid
                have hmid2 : Kd.C (Kd.int .i64) w1 (some (adp.add m0)) (m1 - m0) ((P.take m1).drop m0) := by
                  have e : m0 * (Kd.int .i64).sz = m0 := Nat.mul_one m0
                  rw [Option.map_some, e] at hmid
                  exact hmid
                have HM := Aside0.mk hmid2
                clear hmid hmid2 hlen2
                obtain ⟨ys, hys⟩ : ∃ ys, (P.take m1).drop m0 = ys := ⟨_, rfl⟩
                rw [hys] at HM
                have HYS := Aside0.mk hys
                clear hys
                obtain ⟨XS, hXS⟩ : ∃ XS, cutsF P (l1.take k) = XS := ⟨_, rfl⟩
                rw [hXS] at HR Q7
                have HXS := Aside0.mk hXS
                clear hXS HL
                have HBA := Aside0.mk (HB.out.alloc HB.out.size (.cells #[.int .i64 (m0 : Int), .int .i64 (m1 : Int)] 45))
                have hne : some wr.heap.size ≠ u8.ownBlock := fun e => by
                  have := own_lt (Kd.own_of_R HR.out) wr.heap.size e.symm
                  omega
                have HNE := Aside0.mk hne
                clear hne
                go_wp2_with ((with_reducible refine gate_builtin (b := .append) (xs := #[.tmp 44, .tmp 50]) rfl ?_); at_builtin; refine Kd.R_append_rows (Kd.int .i64) (w0 := w1) w1.heap.size rfl (.tmp 44) (.tmp 50) 22 3 (.int .i64 0) 8 rfl Try.underlying22 info3 rfl (by decide) (by omega) u8 XS ys _ _ _ (fun _ => True) (fun _ => False) rfl rfl (Kd.R_alloc HR.out _) (Kd.C_below HM.out HBA.out) (fun _ _ h => h) (fun _ h => h.elim) (fun _ _ => trivial) HBA.out HBA.out.size (by have := Q7.out; omega) ?_; intro v2 w2 ho2 hb2 hg2 hn2; have hbox := cell_of_heap (j := 1) (v := .int .i64 (m1 : Int)) ((hg2.block wr.heap.size (by simp) HNE.out).trans (Boxed2.new wr 45 (.int .i64 (m0 : Int)) (.int .i64 (m1 : Int)))) rfl; have HO2 := Aside0.mk ho2; have HB2 := Aside0.mk hb2; clear hg2 hn2 ho2 hb2)
                have hend : endR 0 (l1.take (k + 1)) = (m1 : Int) := by rw [HSN.out, endR_snoc]
                have hy2 : (P.drop m0).take (m1 - m0) = ys := by rw [← HYS.out, List.drop_take]
                have hcut : cutsF P (l1.take (k + 1)) = XS ++ ys := by
                  rw [HSN.out, cutsF_snoc, HXS.out]
                  show XS ++ (P.drop ((m0 : Int)).toNat).take (((m1 : Int)).toNat - ((m0 : Int)).toNat) = _
                  rw [Int.toNat_natCast, Int.toNat_natCast, hy2]
                have hyl : ys.length = m1 - m0 := by rw [← HYS.out]; simp; omega
                refine ⟨⟨k + 1, by omega, by go_num, by rw [hend], ⟨?_⟩, by rw [hend]; omega, by rw [hend]; omega, ⟨?_⟩, ⟨by rw [hcut]; exact HO2.out⟩, HB2⟩, by simp [intOf] <;> omega⟩
                · rw [HSN.out, fitR_app, HF.out, HEE.out, Bool.true_and, fitR, if_neg (by show ¬ ((m0 : Int) < E ∨ (m1 : Int) ≤ (m0 : Int) ∨ (P.length : Int) < (m1 : Int)); omega)]
                  rfl
                · have := Q7.out
                  rw [hcut, hend, List.length_append, hyl]
                  omega
        · have HK : Aside0 (l1.take k = l1) := ⟨List.take_of_length_le (by omega)⟩
          have HE : Aside0 (r1 = sortI (cutsF P l1) ∧ r2 = 0) := ⟨by
            have h1 := H.out
            have h2 := HF.out
            rw [HK.out] at h2
            rw [if_pos h2] at h1
            obtain ⟨h3, h4⟩ := Prod.mk.inj (Option.some.inj h1)
            exact ⟨h3.symm, h4.symm⟩⟩
          have hge : l1.length ≤ k := by omega
          have hclen : (cutsF P (l1.take k)).length ≤ P.length := by have := HL.out; omega
          have HCL := Aside0.mk hclen
          clear hclen
          rw [HK.out] at HR HCL HL
          obtain ⟨XS, hXS⟩ : ∃ XS, cutsF P l1 = XS := ⟨_, rfl⟩
          rw [hXS] at HR HE HCL HL
          obtain ⟨As, cs, rfl⟩ := Kd.R_slice HR.out
          by_cases h0 : XS = []
          · subst h0
            go_wp2_with (go_at_call 71; refine (Any.slices_Sort_int_none Ytccleelhheilnaa.lays189 As cs _).mono ?_; rintro e w2 ⟨rfl, rfl⟩)
            go_ret2
            obtain ⟨rfl, rfl⟩ := HE.out
            refine ⟨_, rfl, ?_, HB1.out.trans (HB.out.mono HB1.out.size)⟩
            have e : sortI [] = [] := by simp [sortI]
            rw [e]
            exact Kd.R_lower HR.out HB1.out.size
          · have hpos : 0 < XS.length := List.length_pos_iff.2 h0
            obtain ⟨g, cap, hv, hbase, hglt, -⟩ := Kd.R_form HR.out hpos
            cases hv
            obtain ⟨-, hn1, hn2, T, hT, hheap⟩ := row_ofR HR.out
            have hH : Holds (Value.int .i64) wr g 0 XS.toArray := holds_of_blockI hheap (by simp)
            have hsl : (sortI XS).length = XS.length := List.length_mergeSort XS
            have HHP := Aside0.mk hheap
            have hx63 : XS.length < 4611686018427387904 := by have := HCL.out; omega
            have hsort := Any.slices_Sort_int Ytccleelhheilnaa.lays189 g 0 cs XS wr hH hglt hx63
            have HSO := Aside0.mk hsort
            clear hsort hheap hH
            go_wp2_with (go_at_call 71; refine HSO.out.mono ?_; rintro e w2 ⟨rfl, nn, os, rfl⟩)
            go_ret2
            obtain ⟨rfl, rfl⟩ := HE.out
            have hg := grownBy_sortedI (w := wr) (g := g) (n := nn) (os := os) (sortI XS).toArray
            have hro := ownsRow_sortedI (n := nn) (os := os) (ts := sortI XS) hsl (Nat.le_trans HB1.out.size hbase) HHP.out hn1 hn2 (by simp; omega)
            refine ⟨_, rfl, ?_, (HB1.out.trans (HB.out.mono HB1.out.size)).grown hg (Nat.le_trans HB1.out.size HB.out.size) (fun k e => by cases e; exact Nat.le_trans HB1.out.size hbase)⟩
            exact Kd.R_of_own (xs := sortI XS) (by rw [hsl]; exact hro) fun _ _ => trivial
    · rw [if_neg hf] at h
      obtain ⟨rfl, rfl⟩ := Prod.mk.inj (Option.some.inj h)
      have hord : order_Order.f l0 = some ([], 2) := by
        unfold order_Order.f
        rw [if_pos (by omega), if_neg hf]
      have HORD := Aside0.mk hord
      clear hord hf h
      go_enter Try.func56, Try.ntmps56
      go_wp2_with (go_at_call 43; refine (order_Order.calls A0 c0 l0 [] 2 w hr0 hc0 HORD.out).mono ?_; rintro e w1 ⟨v0, rfl, ho, hb⟩; have HB1 := Aside0.mk hb; clear ho hb)
      go_ret2
      exact ⟨_, rfl, Kd.R_nil _ _ _ _ _, HB1.out⟩
  · rw [if_neg hlen] at h
    cases h
end Go.Proofs.Ytccleelhheilnaa.F
