/- ParaEdits, over lists alone, lengths bounded: what an edit leaves is found where Move says. -/
import Derived.Test.YtddhhncjfcolcaaUptoWParaEdits
import Derived.OpenShut
namespace Go.Proofs.Ytddhhncjfcolcaa.Pure
set_option linter.unusedVariables false
open Go.RowKit Go.Proofs.Ytddhhncjfcolcaa.F Go.Proofs.YtddhhncjfcolcaaW.PrintWords Go.Proofs.YtddhhncjfcolcaaW.PrintLast

theorem works_ed : colophonlaw05_works.f = some true := by decide +kernel
theorem ew1 {i : Nat} (h : i ≤ 281474976710656) : wrap64 ((i : Int) + 1) = ((i + 1 : Nat) : Int) := by unfold wrap64; omega
theorem erd {l : List Int} {i : Nat} (h : i < l.length) : rd l (i : Int) = l[i] := by
  simp only [rd, Int.toNat_natCast, List.getD_eq_getElem?_getD, List.getElem?_eq_getElem h, Option.getD_some]
theorem wsum (a g : Nat) (h : a + g ≤ 1048576) : wrap64 ((a : Int) + (g : Int)) = ((a + g : Nat) : Int) := by unfold wrap64; omega
theorem edits_loop (l more now : List Int) (at_ gn : Nat) (hl : l.length ≤ 1048576) (hm : more.length ≤ 1048576) (hag : at_ + gn ≤ l.length) (hnow : now = l.take at_ ++ (more ++ l.drop (at_ + gn))) :
    ∀ (d k i : Nat), l.length - i = d → i ≤ l.length → 3 * d + 5 ≤ k → colophonlaw05_ParaEdits.l0 k l more (at_ : Int) (gn : Int) now (i : Int) = some true := by
  have hnl : now.length = at_ + (more.length + (l.length - (at_ + gn))) := by rw [hnow]; simp only [List.length_append, List.length_take, List.length_drop]; omega
  have ok : ∀ i : Nat, i ≤ l.length → okp (i : Int) ∧ okp (at_ : Int) ∧ okp (gn : Int) ∧ okp (more.length : Int) := fun i hi => by unfold okp; omega
  intro d
  induction d with
  | zero =>
    intro k i hd hi hk
    obtain ⟨k, rfl⟩ : ∃ m, k = m + 1 := ⟨k - 1, by omega⟩
    obtain rfl : i = l.length := by omega
    simp only [colophonlaw05_ParaEdits.l0, para_Move.f]
    rw [if_neg (by omega), mv_behind (ok _ (Nat.le_refl _)) (by omega) (by omega)]
    simp only [Option.bind_some]
    rw [if_pos trivial, hnl]
    congr 1
    simp
    omega
  | succ d ih =>
    intro k i hd hi hk
    obtain ⟨k, rfl⟩ : ∃ m, k = m + 3 := ⟨k - 3, by omega⟩
    have hlt : i < l.length := by omega
    have hnext := ih k (i + 1) (by omega) (by omega) (by omega)
    rw [show k + 3 = (k + 2) + 1 from rfl, colophonlaw05_ParaEdits.l0]
    simp only [para_Move.f]
    rw [if_pos (by omega)]
    have fin : ∀ (v : Nat), v < now.length → now[v]? = some l[i] → colophonlaw05_ParaEdits.j2 (k + 1) l more (at_ : Int) (gn : Int) now (i : Int) (v : Int) false = some true := by
      intro v hv he
      have hr : rd now (v : Int) = l[i] := by
        rw [erd hv]
        rw [List.getElem?_eq_getElem hv] at he
        exact Option.some.inj he
      rw [colophonlaw05_ParaEdits.j2, if_neg (by decide), if_neg (by omega), if_pos (by omega), if_pos (by omega), if_pos (by omega), if_pos (by omega), hr, erd hlt, if_pos rfl, ew1 (by omega)]
      exact hnext
    by_cases h1 : i < at_
    · rw [mv_ahead (ok i hi) (by omega)]
      simp only [Option.bind_some]
      rw [if_pos trivial, if_neg (by omega), decide_eq_false (by omega), show k + 2 = (k + 1) + 1 from rfl, colophonlaw05_ParaEdits.j1, if_neg (by decide), if_neg (by omega)]
      refine fin i (by omega) ?_
      rw [hnow, List.getElem?_append_left (by rw [List.length_take]; omega), List.getElem?_take_of_lt h1, List.getElem?_eq_getElem hlt]
    · by_cases h2 : i < at_ + gn
      · rw [mv_gone (ok i hi) (by omega) (by omega)]
        simp only [Option.bind_some]
        rw [if_pos trivial, if_neg (by omega), decide_eq_false (by omega), show k + 2 = (k + 1) + 1 from rfl, colophonlaw05_ParaEdits.j1, if_neg (by decide), if_pos (by omega), wsum at_ gn (by omega), decide_eq_true (by omega), colophonlaw05_ParaEdits.j2, if_pos rfl, if_pos rfl, ew1 (by omega)]
        exact hnext
      · rw [mv_behind (ok i hi) (by omega) (by omega)]
        simp only [Option.bind_some]
        have hv : (i : Int) - (gn : Int) + (more.length : Int) = ((i - gn + more.length : Nat) : Int) := by omega
        rw [hv, if_pos trivial, if_neg (by omega), decide_eq_false (by omega), show k + 2 = (k + 1) + 1 from rfl, colophonlaw05_ParaEdits.j1, if_neg (by decide), if_pos (by omega), wsum at_ gn (by omega), decide_eq_false (by omega)]
        refine fin (i - gn + more.length) (by omega) ?_
        rw [hnow, List.getElem?_append_right (by rw [List.length_take]; omega), List.getElem?_append_right (by rw [List.length_take]; omega), List.getElem?_drop, List.length_take, Nat.min_eq_left (by omega)]
        have e : at_ + gn + (i - gn + more.length - at_ - more.length) = i := by omega
        rw [e, List.getElem?_eq_getElem hlt]

theorem u64_small {x : Int} (h0 : 0 ≤ x) (h1 : x < 18446744073709551616) : IntKind.u64.wrap x = x := by
  have e : IntKind.u64.wrap x = x % 18446744073709551616 := by rfl
  rw [e]
  exact Int.emod_eq_of_lt h0 h1
theorem u64_at (n : Nat) (hn : n ≤ 1048576) : IntKind.u64.wrap (wrap64 ((n : Int) + 1)) = ((n + 1 : Nat) : Int) := by
  rw [ew1 (by omega)]
  exact u64_small (by omega) (by omega)
theorem wrap_small {t : Int} {n : Nat} (hn : n ≤ 1048576) (h0 : 0 ≤ t) (h1 : t < ((n + 1 : Nat) : Int)) : ∃ v : Nat, v ≤ n ∧ wrap64 t = (v : Int) := by
  refine ⟨t.toNat, by omega, ?_⟩
  unfold wrap64
  omega
theorem idx_of (a : Int) (n : Nat) (hn : n ≤ 1048576) : ∃ v : Nat, v ≤ n ∧ wrap64 (Int.tmod (IntKind.u64.wrap a) (IntKind.u64.wrap (wrap64 ((n : Int) + 1)))) = (v : Int) := by
  rw [u64_at n hn]
  exact wrap_small hn (Int.tmod_nonneg _ (bounds_u64 (wf_wrap .u64 a)).1) (Int.tmod_lt_of_pos _ (by omega))
theorem u64_ne (n : Nat) (hn : n ≤ 1048576) : ¬ IntKind.u64.wrap (wrap64 ((n : Int) + 1)) = 0 := by
  rw [u64_at n hn]
  omega
theorem UParaEdits : UptoW.paraEditsPureU := by
  intro l a1 a2 more _ _ _ _ _ _ _ _ b0 b3
  refine ⟨3 * l.length + 10, ?_⟩
  unfold colophonlaw05_ParaEdits.f
  obtain ⟨v, hv, ev⟩ := idx_of a1 l.length b0
  obtain ⟨u, hu, eu⟩ := idx_of a2 (l.length - v) (by clear ev; omega)
  have q1 : l.length - v ≤ 1048576 := by clear ev eu; omega
  have q2 : v + u ≤ l.length := by clear ev eu; omega
  have q3 : v + u ≤ 1048576 := by clear ev eu; omega
  have e1 : wrap64 ((l.length : Int) - (v : Int)) = ((l.length - v : Nat) : Int) := by clear ev eu; unfold wrap64; omega
  have n1 := u64_ne _ b0
  have n2 := u64_ne _ q1
  have e2 := wsum v u q3
  rw [ev, e1, eu, e2, works_ed, Option.bind_some, if_pos rfl, if_neg n1, if_neg n2]
  clear e1 eu ev e2 n1 n2
  rw [Option.bind_some, if_pos (by omega), if_pos (by omega), if_pos (by simp only [List.length_nil, List.length_take, Int.toNat_natCast]; omega), Option.bind_some, if_pos (by simp only [List.length_append, List.length_nil, List.length_take, Int.toNat_natCast]; omega), Option.bind_some, if_pos (by omega), if_pos (by omega), if_pos (by simp only [List.length_append, List.length_nil, List.length_take, List.length_drop, Int.toNat_natCast]; omega)]
  exact edits_loop l more _ v u b0 b3 q2 (by simp only [List.nil_append, Int.toNat_natCast, List.append_assoc]) l.length (3 * l.length + 10) 0 (by omega) (by omega) (by omega)
end Go.Proofs.Ytddhhncjfcolcaa.Pure
