/- ucd.table and the reference's ranges by their contracts: a literal of 147 rows, without a walk of each row. -/
import Derived.Test.YtenjldfflkinkaaFx0
import Derived.WalkSpells
namespace Go.Proofs.Ytenjldfflkinkaa.F
set_option linter.unusedVariables false
set_option linter.unusedSimpArgs false
open Go.RowKit Go.Proofs.YtenjldfflkinkaaW.PrintWords Go.Proofs.YtenjldfflkinkaaW.PrintLast Go.Proofs.YtenjldfflkinkaaW.PrintMore

/-! ### A run of builds of constants -/
def bldOp (T : TypeId) (k0 k1 k2 : IntKind) (x : Int × Int × Int) : Op := .build T #[(0, .const (.int k0 x.1)), (1, .const (.int k1 x.2.1)), (2, .const (.int k2 x.2.2))]
def bldVal (k0 k1 k2 : IntKind) (x : Int × Int × Int) : Value := .agg #[.int k0 x.1, .int k1 x.2.1, .int k2 x.2.2]
def bldTold (T : TypeId) (k0 k1 k2 : IntKind) : Nat → List (Int × Int × Int) → List (Option (Nat × Bool) × Option Tmp × Op)
  | _, [] => []
  | n, x :: xs => (none, some n, bldOp T k0 k1 k2 x) :: bldTold T k0 k1 k2 (n + 1) xs
def told (o : Oper) : Option (Nat × Bool) × Option Tmp × Op := (o.guard, o.dst, o.op)
def putAll : Nat → List Value → Act → Act
  | _, [], a => a
  | n, v :: vs, a => putAll (n + 1) vs (a.put (some n) v)
theorem wpList_blds {P : Program} {ops : Array Oper} {Q : Exit → Act → World → Prop} {rest : List Oper} {T : TypeId} {k0 k1 k2 : IntKind}
    (hrun : ∀ (x : Int × Int × Int) (w : World), (Instr.build T #[(0, .int k0 x.1), (1, .int k1 x.2.1), (2, .int k2 x.2.2)]).run P w = .ok (bldVal k0 k1 k2 x) w) :
    ∀ (xs : List (Int × Int × Int)) (n : Nat) (l : List Oper) (a : Act) (w : World), l.map told = bldTold T k0 k1 k2 n xs →
      wpList P ops Q rest (putAll n (xs.map (bldVal k0 k1 k2)) a) w → wpList P ops Q (l ++ rest) a w
  | [], n, [], a, w, _, h => h
  | [], n, o :: l, a, w, hl, h => by simp [bldTold] at hl
  | x :: xs, n, [], a, w, hl, h => by simp [bldTold] at hl
  | x :: xs, n, o :: l, a, w, hl, h => by
    simp only [List.map_cons, bldTold, List.cons.injEq, told, Prod.mk.injEq] at hl
    obtain ⟨⟨h1, h2, h3⟩, h4⟩ := hl
    refine wpList_plain h1 fun K hK => ?_
    unfold Oper.wp
    have hr : (execOp a.eval o).run P w = .ok (.value (bldVal k0 k1 k2 x)) w := by
      unfold execOp
      rw [h3]
      simp only [bldOp, List.map_toArray, List.map_cons, List.map_nil, Act.eval]
      have := hrun x w
      simp only [Sem.run_bind, this, Result.andThen_ok, Sem.run_pure]
    rw [hr]
    simp only [Oper.upon]
    refine hK _ _ ?_
    rw [h2]
    exact wpList_blds hrun xs (n + 1) l _ w h4 h

def tabRows : List (Int × Int × Int) := [
  (0, 8, 10), (9, 9, 12), (10, 10, 11), (11, 11, 12), (12, 12, 13), (13, 13, 11), (14, 27, 10), (28, 30, 11), (31, 31, 12), (32, 32, 13), (33, 34, 14), (35, 37, 6), 
  (38, 42, 14), (43, 43, 5), (44, 44, 8), (45, 45, 5), (46, 47, 8), (48, 57, 4), (58, 58, 8), (59, 64, 14), (91, 96, 14), (123, 126, 14), (127, 132, 10), (133, 133, 11), 
  (134, 159, 10), (160, 160, 8), (161, 161, 14), (162, 165, 6), (166, 169, 14), (171, 172, 14), (173, 173, 10), (174, 175, 14), (176, 177, 6), (178, 179, 4), 
  (180, 180, 14), (182, 184, 14), (185, 185, 4), (187, 191, 14), (215, 215, 14), (247, 247, 14), (768, 879, 9), (1155, 1161, 9), (1424, 1424, 2), (1425, 1469, 9), 
  (1470, 1470, 2), (1471, 1471, 9), (1472, 1472, 2), (1473, 1474, 9), (1475, 1475, 2), (1476, 1477, 9), (1478, 1478, 2), (1479, 1479, 9), (1480, 1535, 2), 
  (1536, 1541, 7), (1542, 1543, 14), (1544, 1544, 3), (1545, 1546, 6), (1547, 1547, 3), (1548, 1548, 8), (1549, 1549, 3), (1550, 1551, 14), (1552, 1562, 9), 
  (1563, 1610, 3), (1611, 1631, 9), (1632, 1641, 7), (1642, 1642, 6), (1643, 1644, 7), (1645, 1647, 3), (1648, 1648, 9), (1649, 1749, 3), (1750, 1756, 9), 
  (1757, 1757, 7), (1758, 1758, 14), (1759, 1764, 9), (1765, 1766, 3), (1767, 1768, 9), (1769, 1769, 14), (1770, 1773, 9), (1774, 1775, 3), (1776, 1785, 4), 
  (1786, 1808, 3), (1809, 1809, 9), (1810, 1839, 3), (1840, 1866, 9), (1867, 1957, 3), (1958, 1968, 9), (1969, 1983, 3), (1984, 2026, 2), (2027, 2035, 9), 
  (2036, 2037, 2), (2038, 2041, 14), (2042, 2143, 2), (8192, 8202, 13), (8203, 8205, 10), (8207, 8207, 2), (8208, 8231, 14), (8232, 8232, 13), (8233, 8233, 11), 
  (8234, 8234, 15), (8235, 8235, 17), (8236, 8236, 19), (8237, 8237, 16), (8238, 8238, 18), (8239, 8239, 8), (8240, 8244, 6), (8245, 8259, 14), (8260, 8260, 8), 
  (8261, 8286, 14), (8287, 8287, 13), (8288, 8293, 10), (8294, 8294, 20), (8295, 8295, 21), (8296, 8296, 22), (8297, 8297, 23), (8298, 8303, 10), (8304, 8304, 4), 
  (8308, 8313, 4), (8314, 8315, 5), (8316, 8318, 14), (8320, 8329, 4), (8330, 8331, 5), (8332, 8334, 14), (8352, 8399, 6), (8400, 8432, 9), (8592, 8721, 14), 
  (8722, 8722, 5), (8723, 8723, 6), (8724, 9013, 14), (9472, 9899, 14), (10214, 10223, 14), (12288, 12288, 13), (12289, 12292, 14), (12296, 12320, 14), (64285, 64285, 2), 
  (64286, 64286, 9), (64287, 64296, 2), (64297, 64297, 5), (64298, 64335, 2), (64336, 65023, 3), (65024, 65039, 9), (65136, 65278, 3), (65279, 65279, 10), 
  (67584, 69631, 2), (120782, 120831, 4), (124928, 126463, 2), (126464, 126719, 3), (917760, 917999, 9) ]

def regionOf : Option Code → Array Oper
  | some (.seq _ (.seq (.region _ ops _) _)) => ops
  | _ => #[]
def headOf : Option Code → Code
  | some (.seq c _) => c
  | _ => .skip
def bldParts : Array (Nat × Operand) := ((List.range 147).map fun i => (i, Operand.tmp (i + 1))).toArray

theorem two_ops {l : List Oper} {x y : Option (Nat × Bool) × Option Tmp × Op} (h : l.map told = [x, y]) : ∃ o1 o2, l = [o1, o2] ∧ told o1 = x ∧ told o2 = y := by
  rcases l with _ | ⟨o1, _ | ⟨o2, _ | ⟨o3, l⟩⟩⟩
  · simp only [List.map_nil] at h; cases h
  · simp only [List.map_cons, List.map_nil, List.cons.injEq] at h; cases h.2
  · simp only [List.map_cons, List.map_nil, List.cons.injEq] at h; exact ⟨o1, o2, rfl, h.1, h.2.1⟩
  · simp only [List.map_cons, List.cons.injEq] at h; cases h.2.2
theorem told_op {o : Oper} {g : Option (Nat × Bool)} {d : Option Tmp} {p : Op} (h : told o = (g, d, p)) : o.guard = g ∧ o.dst = d ∧ o.op = p := by
  simp only [told, Prod.mk.injEq] at h; exact h
/-! ### ucd_table -/
theorem build_ucd_table (x : Int × Int × Int) (w : World) : (Instr.build 128 #[(0, .int .i32 x.1), (1, .int .i32 x.2.1), (2, .int .i64 x.2.2)]).run Try.prog w = .ok (bldVal .i32 .i32 .i64 x) w := by
  obtain ⟨x0, x1, x2⟩ := x
  have h : ∀ (x0 x1 x2 : Int) (w : World), (Instr.build 128 #[(0, .int .i32 x0), (1, .int .i32 x1), (2, .int .i64 x2)]).run Try.prog w = .ok (.agg #[.int .i32 x0, .int .i32 x1, .int .i64 x2]) w := fun x0 x1 x2 w => by kernel_rfl
  exact h x0 x1 x2 w
def rows_ucd_table : List S128 := tabRows.map fun x => ⟨x.1, x.2.1, x.2.2⟩
def cells_ucd_table : List (Int × Int × Int) → List Value
  | [] => []
  | x :: xs => .int .i32 x.1 :: .int .i32 x.2.1 :: .int .i64 x.2.2 :: cells_ucd_table xs
theorem reps_ucd_table (w : World) (base : Nat) (ok : Nat → Prop) : ∀ xs : List (Int × Int × Int), Reps (k128.M w base ok) k128.sz (xs.map fun x => (⟨x.1, x.2.1, x.2.2⟩ : S128)) (cells_ucd_table xs)
  | [] => Reps.none _ _
  | x :: xs => Reps.c3 (k128_mkM w base ok ⟨x.1, x.2.1, x.2.2⟩) (reps_ucd_table w base ok xs)
theorem told_ucd_table : ((regionOf Try.f77.body).toList.take 147).map told = bldTold 128 .i32 .i32 .i64 1 tabRows := by kernel_rfl
theorem last_ucd_table : ((regionOf Try.f77.body).toList.drop 147).map told = [(none, some 148, .buildSlice 124 147 bldParts), (none, some 0, .assign (.tmp 148))] := by kernel_rfl
theorem body_ucd_table : Try.f77.body = some (.seq (headOf Try.f77.body) (.seq (.region 1 (regionOf Try.f77.body) false) .ret)) := by kernel_rfl
theorem head_ucd_table : ∃ o, headOf Try.f77.body = .region 0 #[o] false ∧ told o = (none, some 0, .assign (.const (.slice none 0 0))) := ⟨_, rfl, rfl⟩

def ucd_table.f : Option (List S128) := some rows_ucd_table
theorem size_ucd_table : (putAll 1 (tabRows.map (bldVal .i32 .i32 .i64)) { tmps := #[.slice none 0 0] ++ Array.replicate 148 undef, defers := [] }).tmps.size = 149 := by kernel_rfl
theorem defers_ucd_table : (putAll 1 (tabRows.map (bldVal .i32 .i32 .i64)) { tmps := #[.slice none 0 0] ++ Array.replicate 148 undef, defers := [] }).defers = [] := by kernel_rfl
theorem run_ucd_table (w : World) : (Instr.buildSlice 124 147 (bldParts.map fun (i, x) => (i, (putAll 1 (tabRows.map (bldVal .i32 .i32 .i64)) { tmps := #[.slice none 0 0] ++ Array.replicate 148 undef, defers := [] }).eval x))).run Try.prog w = .ok (.slice (some ⟨w.heap.size, 0, none⟩) 147 147) (w.alloc (.cells (cells_ucd_table tabRows).toArray 128)) := by kernel_rfl
set_option maxRecDepth 100000 in
theorem ucd_table.calls (r : List S128) (w : World) (h : ucd_table.f = some r) :
    Calls Try.prog 77 #[] w fun e w' => ∃ v0_ : Value, e = .returned (v0_) ∧ Kd.R k128 128 w' w.heap.size (fun _ => True) v0_ r ∧ Below w.heap.size w w' := by
  obtain rfl := Option.some.inj h
  refine calls_of_wp Try.func77 body_ucd_table ?_
  obtain ⟨o0, e0, t0⟩ := head_ucd_table
  obtain ⟨g0, d0, p0⟩ := told_op t0
  rw [e0]
  refine wp_seq ?_
  refine wp_region_lit (l := [o0]) ?_
  refine wpList_plain g0 fun K hK => ?_
  unfold Oper.wp execOp
  rw [p0]
  simp only [Act.eval, Sem.run_bind, Sem.run_pure, Result.andThen_ok, Oper.upon, d0]
  refine hK _ _ ?_
  refine wpList_nil ?_
  simp only [Exit.then]
  refine wp_seq ?_
  refine wp_region_list ?_
  rw [← List.take_append_drop 147 (regionOf Try.f77.body).toList]
  refine wpList_blds build_ucd_table tabRows 1 _ _ _ told_ucd_table ?_
  obtain ⟨o1, o2, el, t1, t2⟩ := two_ops last_ucd_table
  obtain ⟨g1, d1, p1⟩ := told_op t1
  obtain ⟨g2, d2, p2⟩ := told_op t2
  rw [el]
  have ea : (({ tmps := #[] ++ Array.replicate (Try.f77.ntmps - 0) undef, defers := [] } : Act).put (some 0) (.slice none 0 0)) = { tmps := #[.slice none 0 0] ++ Array.replicate 148 undef, defers := [] } := by kernel_rfl
  rw [show ({ tmps := #[] ++ Array.replicate (Try.f77.ntmps - #[].size) undef, defers := [] } : Act).put (some 0) (.slice none 0 0) = { tmps := #[.slice none 0 0] ++ Array.replicate 148 undef, defers := [] } from ea]
  refine Kd.R_lit k128 w.heap.size 128 g1 (N := 148) d1 (xs := rows_ucd_table) (inner := cells_ucd_table tabRows) (okp := fun _ => True) ?hrun (reps_ucd_table _ _ _ tabRows) (fun _ _ => trivial) trivial (Below.refl _ _) (Nat.le_refl _) (by decide) ?_
  case hrun =>
    unfold execOp
    rw [p1]
    have := run_ucd_table w
    simp only [Sem.run_bind, this, Result.andThen_ok, Sem.run_pure]
    rfl
  intro v1 w1 hR hB _ _
  refine wpList_plain g2 fun K hK => ?_
  unfold Oper.wp execOp
  rw [p2, d1]
  have hs := size_ucd_table
  have hd := defers_ucd_table
  revert hs hd
  generalize putAll 1 (tabRows.map (bldVal .i32 .i32 .i64)) { tmps := #[.slice none 0 0] ++ Array.replicate 148 undef, defers := [] } = A0
  intro hs hd
  simp only [Sem.run_pure, Oper.upon]
  refine hK _ _ ?_
  refine wpList_nil ?_
  simp only [Exit.then]
  refine wp_ret ?_
  have e1 : (A0.put (some 148) v1).eval (.tmp 148) = v1 := by
    simp [Act.eval, Act.put, hs]
  rw [d2, e1]
  have e2 : (((A0.put (some 148) v1).put (some 0) v1).tmps.getD 0 undef) = v1 := by
    simp [Act.put, hs]
  refine bodyPost_ret (results_tmp (t := 0) rfl _ _ _) (by simpa [Act.put] using hd) ?_
  rw [e2]
  exact ⟨v1, rfl, hR, hB⟩
/-! ### colophonref03_ranges -/
theorem build_colophonref03_ranges (x : Int × Int × Int) (w : World) : (Instr.build 133 #[(0, .int .i64 x.1), (1, .int .i64 x.2.1), (2, .int .i64 x.2.2)]).run Try.prog w = .ok (bldVal .i64 .i64 .i64 x) w := by
  obtain ⟨x0, x1, x2⟩ := x
  have h : ∀ (x0 x1 x2 : Int) (w : World), (Instr.build 133 #[(0, .int .i64 x0), (1, .int .i64 x1), (2, .int .i64 x2)]).run Try.prog w = .ok (.agg #[.int .i64 x0, .int .i64 x1, .int .i64 x2]) w := fun x0 x1 x2 w => by kernel_rfl
  exact h x0 x1 x2 w
def rows_colophonref03_ranges : List S133 := tabRows.map fun x => ⟨x.1, x.2.1, x.2.2⟩
def cells_colophonref03_ranges : List (Int × Int × Int) → List Value
  | [] => []
  | x :: xs => .int .i64 x.1 :: .int .i64 x.2.1 :: .int .i64 x.2.2 :: cells_colophonref03_ranges xs
theorem reps_colophonref03_ranges (w : World) (base : Nat) (ok : Nat → Prop) : ∀ xs : List (Int × Int × Int), Reps (k133.M w base ok) k133.sz (xs.map fun x => (⟨x.1, x.2.1, x.2.2⟩ : S133)) (cells_colophonref03_ranges xs)
  | [] => Reps.none _ _
  | x :: xs => Reps.c3 (k133_mkM w base ok ⟨x.1, x.2.1, x.2.2⟩) (reps_colophonref03_ranges w base ok xs)
theorem told_colophonref03_ranges : ((regionOf Try.f84.body).toList.take 147).map told = bldTold 133 .i64 .i64 .i64 1 tabRows := by kernel_rfl
theorem last_colophonref03_ranges : ((regionOf Try.f84.body).toList.drop 147).map told = [(none, some 148, .buildSlice 131 147 bldParts), (none, some 0, .assign (.tmp 148))] := by kernel_rfl
theorem body_colophonref03_ranges : Try.f84.body = some (.seq (headOf Try.f84.body) (.seq (.region 1 (regionOf Try.f84.body) false) .ret)) := by kernel_rfl
theorem head_colophonref03_ranges : ∃ o, headOf Try.f84.body = .region 0 #[o] false ∧ told o = (none, some 0, .assign (.const (.slice none 0 0))) := ⟨_, rfl, rfl⟩

def colophonref03_ranges.f : Option (List S133) := some rows_colophonref03_ranges
theorem size_colophonref03_ranges : (putAll 1 (tabRows.map (bldVal .i64 .i64 .i64)) { tmps := #[.slice none 0 0] ++ Array.replicate 148 undef, defers := [] }).tmps.size = 149 := by kernel_rfl
theorem defers_colophonref03_ranges : (putAll 1 (tabRows.map (bldVal .i64 .i64 .i64)) { tmps := #[.slice none 0 0] ++ Array.replicate 148 undef, defers := [] }).defers = [] := by kernel_rfl
theorem run_colophonref03_ranges (w : World) : (Instr.buildSlice 131 147 (bldParts.map fun (i, x) => (i, (putAll 1 (tabRows.map (bldVal .i64 .i64 .i64)) { tmps := #[.slice none 0 0] ++ Array.replicate 148 undef, defers := [] }).eval x))).run Try.prog w = .ok (.slice (some ⟨w.heap.size, 0, none⟩) 147 147) (w.alloc (.cells (cells_colophonref03_ranges tabRows).toArray 133)) := by kernel_rfl
set_option maxRecDepth 100000 in
theorem colophonref03_ranges.calls (r : List S133) (w : World) (h : colophonref03_ranges.f = some r) :
    Calls Try.prog 84 #[] w fun e w' => ∃ v0_ : Value, e = .returned (v0_) ∧ Kd.R k133 133 w' w.heap.size (fun _ => True) v0_ r ∧ Below w.heap.size w w' := by
  obtain rfl := Option.some.inj h
  refine calls_of_wp Try.func84 body_colophonref03_ranges ?_
  obtain ⟨o0, e0, t0⟩ := head_colophonref03_ranges
  obtain ⟨g0, d0, p0⟩ := told_op t0
  rw [e0]
  refine wp_seq ?_
  refine wp_region_lit (l := [o0]) ?_
  refine wpList_plain g0 fun K hK => ?_
  unfold Oper.wp execOp
  rw [p0]
  simp only [Act.eval, Sem.run_bind, Sem.run_pure, Result.andThen_ok, Oper.upon, d0]
  refine hK _ _ ?_
  refine wpList_nil ?_
  simp only [Exit.then]
  refine wp_seq ?_
  refine wp_region_list ?_
  rw [← List.take_append_drop 147 (regionOf Try.f84.body).toList]
  refine wpList_blds build_colophonref03_ranges tabRows 1 _ _ _ told_colophonref03_ranges ?_
  obtain ⟨o1, o2, el, t1, t2⟩ := two_ops last_colophonref03_ranges
  obtain ⟨g1, d1, p1⟩ := told_op t1
  obtain ⟨g2, d2, p2⟩ := told_op t2
  rw [el]
  have ea : (({ tmps := #[] ++ Array.replicate (Try.f84.ntmps - 0) undef, defers := [] } : Act).put (some 0) (.slice none 0 0)) = { tmps := #[.slice none 0 0] ++ Array.replicate 148 undef, defers := [] } := by kernel_rfl
  rw [show ({ tmps := #[] ++ Array.replicate (Try.f84.ntmps - #[].size) undef, defers := [] } : Act).put (some 0) (.slice none 0 0) = { tmps := #[.slice none 0 0] ++ Array.replicate 148 undef, defers := [] } from ea]
  refine Kd.R_lit k133 w.heap.size 133 g1 (N := 148) d1 (xs := rows_colophonref03_ranges) (inner := cells_colophonref03_ranges tabRows) (okp := fun _ => True) ?hrun (reps_colophonref03_ranges _ _ _ tabRows) (fun _ _ => trivial) trivial (Below.refl _ _) (Nat.le_refl _) (by decide) ?_
  case hrun =>
    unfold execOp
    rw [p1]
    have := run_colophonref03_ranges w
    simp only [Sem.run_bind, this, Result.andThen_ok, Sem.run_pure]
    rfl
  intro v1 w1 hR hB _ _
  refine wpList_plain g2 fun K hK => ?_
  unfold Oper.wp execOp
  rw [p2, d1]
  have hs := size_colophonref03_ranges
  have hd := defers_colophonref03_ranges
  revert hs hd
  generalize putAll 1 (tabRows.map (bldVal .i64 .i64 .i64)) { tmps := #[.slice none 0 0] ++ Array.replicate 148 undef, defers := [] } = A0
  intro hs hd
  simp only [Sem.run_pure, Oper.upon]
  refine hK _ _ ?_
  refine wpList_nil ?_
  simp only [Exit.then]
  refine wp_ret ?_
  have e1 : (A0.put (some 148) v1).eval (.tmp 148) = v1 := by
    simp [Act.eval, Act.put, hs]
  rw [d2, e1]
  have e2 : (((A0.put (some 148) v1).put (some 0) v1).tmps.getD 0 undef) = v1 := by
    simp [Act.put, hs]
  refine bodyPost_ret (results_tmp (t := 0) rfl _ _ _) (by simpa [Act.put] using hd) ?_
  rw [e2]
  exact ⟨v1, rfl, hR, hB⟩

end Go.Proofs.Ytenjldfflkinkaa.F
