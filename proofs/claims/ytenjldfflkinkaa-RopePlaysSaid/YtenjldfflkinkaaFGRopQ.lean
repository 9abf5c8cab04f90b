/- The law RopeBalanced: what it takes, and its calls. -/
import Derived.Test.YtenjldfflkinkaaFGRopP
namespace Go.Proofs.Ytenjldfflkinkaa.Rop
set_option linter.unusedVariables false
set_option linter.unusedSimpArgs false
open Go.RowKit Go.Proofs.Ytenjldfflkinkaa.F Go.Proofs.YtenjldfflkinkaaW.PrintWords Go.Proofs.YtenjldfflkinkaaW.PrintLast Go.Proofs.YtenjldfflkinkaaW.PrintMore
/-- Call i of a list of calls: its four cells, and its text. -/
structure ActAt (W : World) (ad : Addr) (i : Nat) (k f t : Int) (A : Option Addr) (z : List Int) (c : Nat) : Prop where
  c0 : W.cell? (ad.add (i * 4)) = some (.int .i64 k)
  c1 : W.cell? ⟨(ad.add (i * 4)).block, (ad.add (i * 4)).off + 1, none⟩ = some (.int .i64 f)
  c2 : W.cell? ⟨(ad.add (i * 4)).block, (ad.add (i * 4)).off + 2, none⟩ = some (.int .i64 t)
  c3 : W.cell? ⟨(ad.add (i * 4)).block, (ad.add (i * 4)).off + 3, none⟩ = some (.slice A z.length c)
  hk : -9223372036854775808 ≤ k ∧ k ≤ 9223372036854775807
  hf : -9223372036854775808 ≤ f ∧ f ≤ 9223372036854775807
  ht : -9223372036854775808 ≤ t ∧ t ≤ 9223372036854775807
  hC : Kd.C (Kd.int .i32) W A z.length z
  hc : z.length ≤ c
  hm : c ≤ 9223372036854775807
theorem ActAt.below {W W' : World} {ad : Addr} {i : Nat} {k f t : Int} {A : Option Addr} {z : List Int} {c : Nat} (h : ActAt W ad i k f t A z c) (hb : Below W.heap.size W W') : ActAt W' ad i k f t A z c :=
  ⟨(hb.cell (p := ad.add (i * 4)) (World.block_lt_of_cell? W _ h.c0)).trans h.c0, (hb.cell (p := ⟨(ad.add (i * 4)).block, (ad.add (i * 4)).off + 1, none⟩) (World.block_lt_of_cell? W _ h.c1)).trans h.c1, (hb.cell (p := ⟨(ad.add (i * 4)).block, (ad.add (i * 4)).off + 2, none⟩) (World.block_lt_of_cell? W _ h.c2)).trans h.c2, (hb.cell (p := ⟨(ad.add (i * 4)).block, (ad.add (i * 4)).off + 3, none⟩) (World.block_lt_of_cell? W _ h.c3)).trans h.c3, h.hk, h.hf, h.ht, Kd.C_below h.hC hb, h.hc, h.hm⟩
/-- What a row of the statement says of a []Act. -/
def ActRow (W : World) (a : Option Addr) (len cap : Nat) : Prop :=
  (a = none ∧ len = 0 ∧ cap = 0) ∨ ∃ ad, a = some ad ∧ len ≤ cap ∧ cap ≤ 9223372036854775807 ∧ ∀ i, i < len → ∃ k f t A z c, ActAt W ad i k f t A z c
/-- among, told. -/
def am (x : Int) (n : Nat) : Nat := (Int.tmod x (n : Int) + n).toNat % n
theorem am_lt (x : Int) {n : Nat} (h : 0 < n) : am x n < n := Nat.mod_lt _ h
theorem am_calls {w : World} (x : Int) (n : Nat) (h0 : 0 < n) (h1 : n ≤ 1000000) (hx : -9223372036854775808 ≤ x ∧ x ≤ 9223372036854775807) : Calls Try.prog 22 #[.int .i64 x, .int .i64 (n : Int)] w fun e w' => e = .returned (.int .i64 (am x n : Int)) ∧ w = w' := by
  have hn0 : ((n : Int) == 0) = false := by simp; omega
  have hn1 : ¬ (n : Int) = 0 := by omega
  obtain ⟨y, hy⟩ : ∃ y, Int.tmod x (n : Int) = y := ⟨_, rfl⟩
  have b1 : -(n : Int) < y ∧ y < (n : Int) := by
    rw [← hy]
    have h2 := Int.natAbs_tmod x (n : Int)
    have h3 : x.natAbs % (n : Int).natAbs < (n : Int).natAbs := Nat.mod_lt _ (by omega)
    omega
  obtain ⟨z, hz⟩ : ∃ z : Nat, y + (n : Int) = (z : Int) := ⟨(y + (n : Int)).toNat, by omega⟩
  have ham : am x n = z % n := by unfold am; rw [hy, hz]; rfl
  have hz2 : Int.tmod (z : Int) (n : Int) = ((z % n : Nat) : Int) := by rw [Int.tmod_eq_emod_of_nonneg (by omega)]; rfl
  have hyb : -1000000 < y ∧ y < 1000000 := by omega
  have hw1 : wrap64 y = y := by unfold wrap64; omega
  have hfin : (wrap64 (z : Int)).tmod (n : Int) = (z : Int) % (n : Int) := by
    have e : wrap64 (z : Int) = (z : Int) := by unfold wrap64; omega
    rw [e, Int.tmod_eq_emod_of_nonneg (by omega)]
  rw [ham]
  have HF := Aside0.mk hfin
  clear h1 hx hfin ham
  go_enter Try.func22, Try.ntmps22
  go_wp2
  go_ret
  exact ⟨by first | rfl | (simp [*, HF.out]), rfl⟩
theorem am_q {w : World} {n : Nat} (x : Int) (m : Nat) (h0 : 0 < m) (h1 : m ≤ 1000000) (hx : -9223372036854775808 ≤ x ∧ x ≤ 9223372036854775807) : Calls Try.prog 22 #[.int .i64 x, .int .i64 (m : Int)] (w.drewN n) fun e w'' => e = .returned (.int .i64 (am x m : Int)) ∧ ∃ k, w'' = w.drewN k :=
  (am_calls x m h0 h1 hx).mono fun _ _ ⟨he, hw⟩ => ⟨he, n, hw.symm⟩
theorem RL.drewN {w : World} {b : Nat} {l : List Int} (h : RL w b l) (n : Nat) : RL (w.drewN n) b l := h.below (pw_below_drewN (Below.refl _ _) n)
theorem Len_q {w : World} {b n : Nat} {l : List Int} (h : RL w b l) : Calls Try.prog 17 #[.pointer (some ⟨b, 0, none⟩)] (w.drewN n) fun e w'' => e = .returned (.int .i64 (l.length : Int)) ∧ ∃ k, w'' = w.drewN k :=
  (Len_L (h.drewN n)).mono fun _ _ ⟨he, hw⟩ => ⟨he, n, hw.symm⟩
theorem wrap_small {x : Int} (h : -9223372036854775808 ≤ x ∧ x ≤ 9223372036854775807) : IntKind.i64.wrap x = x := by
  rw [IntKind.wrap_i64]
  omega
theorem new_cell {W : World} {cs : Array Value} {t j : Nat} : (W.alloc (.cells cs t)).cell? ⟨W.heap.size, j, none⟩ = cs[j]? := by
  simp only [World.cell?]
  rw [World.alloc_heap_new]
  rfl
theorem pow_wrap {q : Nat} (hq : q ≤ 10) : wrap64 (2 ^ q) = ((2 ^ q : Nat) : Int) := by
  have h1 : 2 ^ q ≤ 2 ^ 10 := Nat.pow_le_pow_right (by decide) hq
  have h2 : ((2 : Int) ^ q) = ((2 ^ q : Nat) : Int) := by simp
  rw [h2]
  generalize 2 ^ q = p at h1
  have h3 : p ≤ 1024 := h1
  unfold wrap64
  omega
theorem pow_le {q n : Nat} (hq : q ≤ 10) (h : 2 ^ q ≤ n + 1) : ¬ (n : Int) + 1 < wrap64 (2 ^ q) := by
  rw [pow_wrap hq]
  omega
theorem pow_le2 {q n : Nat} (hq : q ≤ 10) (h : 2 ^ q ≤ n + 1) : wrap64 (2 ^ q) ≤ (n : Int) + 1 := by
  rw [pow_wrap hq]
  omega
def DeepQ (nl : Nat) (w : World) (e : Ending) (w' : World) : Prop := ∃ d q : Nat, e = .returned (.int .i64 (d : Int)) ∧ (d = 0 ↔ nl = 0) ∧ d / 2 = q ∧ q ≤ 10 ∧ 2 ^ q ≤ nl + 1 ∧ d ≤ 1700 ∧ w = w'
theorem Deep_Q {w : World} {b nl : Nat} {l : List Int} (h : RL w b l) (hnl : l.length = nl) (hb : nl ≤ 1700) : Calls Try.prog 25 #[.pointer (some ⟨b, 0, none⟩)] w (DeepQ nl w) :=
  (Deep_L h).mono fun e w' ⟨d, he, h1, h2, h3, hw⟩ => by
    rw [hnl] at h1 h2 h3
    refine ⟨d, d / 2, he, h1, rfl, ?_, h2, by omega, hw⟩
    rcases Nat.lt_or_ge 10 (d / 2) with h | h
    · have := Nat.pow_le_pow_right (n := 2) (by decide) (show 11 ≤ d / 2 from h)
      omega
    · exact h
theorem Len_Q {w : World} {b nl : Nat} {l : List Int} (h : RL w b l) (hnl : l.length = nl) : Calls Try.prog 17 #[.pointer (some ⟨b, 0, none⟩)] w fun e w' => e = .returned (.int .i64 (nl : Int)) ∧ w = w' := by
  have := Len_L h
  rw [hnl] at this
  exact this
theorem bal_big {w : World} {A0 A1 : Option Addr} {n0 c0 n1 c1 : Nat} (h : 1000 < n0) :
    Calls Try.prog 6 #[.slice A0 n0 c0, .slice A1 n1 c1] w fun e w' => e = .returned (.bool true) ∧ Below w.heap.size w w' := by
  have h0' : (1000 : Int) < (n0 : Int) := by omega
  go_enter Try.func6, Try.ntmps6
  go_wp2_with (go_at_call 20; refine (works_calls _).mono ?_; rintro e w1 ⟨rfl, hb1⟩)
  go_ret
  exact ⟨rfl, hb1⟩
set_option maxRecDepth 100000 in
set_option maxHeartbeats 8000000 in
theorem bal_small {w : World} {A0 A1 : Option Addr} {l0 : List Int} {c0 n1 c1 : Nat} (hC0 : Kd.C (Kd.int .i32) w A0 l0.length l0) (hc0 : l0.length ≤ c0) (hm0 : c0 ≤ 9223372036854775807)
    (h0 : l0.length ≤ 1000) (hA : ActRow w A1 n1 c1) :
    Calls Try.prog 6 #[.slice A0 l0.length c0, .slice A1 n1 c1] w fun e w' => e = .returned (.bool true) ∧ Below w.heap.size w w' := by
  obtain ⟨n, hn⟩ : ∃ n, l0.length = n := ⟨_, rfl⟩
  have CNew := Aside0.mk (fun W (h : Kd.C (Kd.int .i32) W A0 l0.length l0) => (by have := New_L (c := c0) h hc0 hm0 (by omega); rw [hn] at this; exact this : Calls Try.prog 10 #[.slice A0 n c0] W (OneR l0 W)))
  have HC0 := Aside0.mk hC0
  have HA := Aside0.mk hA
  have h0' : ¬ (1000 : Int) < (n : Int) := by omega
  have HL0 := Aside0.mk (show l0.length ≤ 1700 by omega)
  rw [hn]
  clear hC0 hn hc0 hm0 hA h0
  go_enter Try.func6, Try.ntmps6
  go_wp2_with (first
    | (go_at_call 20; refine (works_calls _).mono ?_; rintro e w0 ⟨rfl, hb⟩; have L0 := Aside0.mk (Kd.C_below HC0.out hb); have B0 := Aside0.mk hb; clear hb)
    | (go_at_call 10; (with_reducible refine (CNew.out _ L0.out).mono ?_); rintro e w1 ⟨bt, rfl, ht, hb⟩; have T1 := Aside0.mk ht; have B1 := Aside0.mk (below_step B0.out hb); clear ht hb))
  go_loopw [5, 6] (fun vt vi wr => ∃ (b i : Nat) (l : List Int), vt = .pointer (some ⟨b, 0, none⟩) ∧ vi = .int .i64 (i : Int) ∧ i ≤ 60 ∧ Aside0 (l.length ≤ 1700) ∧ Aside0 (Below w.heap.size w wr) ∧ Aside0 (RL wr b l)) (fun _ i _ => 60 - (intOf i).toNat)
  case atStart => exact ⟨bt, 0, l0, rfl, rfl, by omega, HL0, B1, T1⟩
  case round =>
    obtain ⟨b, i, l, rfl, rfl, hi, HL, HW, HT⟩ := hrel
    obtain ⟨nl, hnl⟩ : ∃ nl, l.length = nl := ⟨_, rfl⟩
    have hnlb : nl ≤ 1700 := by have := HL.out; omega
    have HNL := Aside0.mk hnl
    clear hnl
    by_cases hin : i < n1 ∧ i < 60
    · obtain ⟨hin1, hin2⟩ := hin
      have hin1' : (i : Int) < (n1 : Int) := by omega
      have hin2' : (i : Int) < 60 := by omega
      obtain ⟨ad, rfl, hlc, hcm, hact⟩ : ∃ ad, A1 = some ad ∧ n1 ≤ c1 ∧ c1 ≤ 9223372036854775807 ∧ ∃ k f t A z c, ActAt wr ad i k f t A z c := by
        rcases HA.out with ⟨_, h, _⟩ | ⟨ad, h1, h2, h3, h4⟩
        · omega
        · obtain ⟨k, f, t, A, z, c, ha⟩ := h4 i hin1
          exact ⟨ad, h1, h2, h3, k, f, t, A, z, c, ha.below HW.out⟩
      obtain ⟨ka, fa, ta, A, z, cz, ha⟩ := hact
      have HACT := Aside0.mk ha
      obtain ⟨k0, k1, k2, k3, _, _, _, _, _, _⟩ := ha
      obtain ⟨nz, hnz⟩ : ∃ nz, z.length = nz := ⟨_, rfl⟩
      rw [hnz] at k3
      go_wp2_with (first
        | (go_at_call 25; (with_reducible refine (Deep_Q HT.out HNL.out hnlb).mono ?_); rintro e w' ⟨d, q, rfl, hd0, hdq, hq10, hqp, hdb, rfl⟩; have hz : ((d : Int) == 0) = ((nl : Int) == 0) := (by rw [Bool.eq_iff_iff]; simp; omega); have hd1 : decide ((d : Int) < 0) = false := decide_eq_false (by omega); have hd2 : (d : Int) / 2 = (q : Int) := (by omega); have hd3 : decide (30 < (q : Int)) = false := decide_eq_false (by omega); have hq0 : (0 : Int) ≤ (q : Int) := (by omega); have hsh : decide ((nl : Int) + 1 < wrap64 (2 ^ q)) = false := decide_eq_false (pow_le hq10 hqp))
        | (go_at_call 17; (with_reducible refine (Len_Q HT.out HNL.out).mono ?_); rintro e w' ⟨rfl, rfl⟩))
      all_goals
        obtain ⟨Wd, hWd⟩ : ∃ Wd, wr.alloc (Obj.cells #[Value.int IntKind.i64 ka, Value.int IntKind.i64 fa, Value.int IntKind.i64 ta, Value.slice A nz cz] 60) = Wd := ⟨_, rfl⟩
        have m0 : Wd.cell? ⟨wr.heap.size, 0, none⟩ = some (.int .i64 ka) := by rw [← hWd, new_cell]; rfl
        have m1 : Wd.cell? ⟨wr.heap.size, 1, none⟩ = some (.int .i64 fa) := by rw [← hWd, new_cell]; rfl
        have m2 : Wd.cell? ⟨wr.heap.size, 2, none⟩ = some (.int .i64 ta) := by rw [← hWd, new_cell]; rfl
        have m3 : Wd.cell? ⟨wr.heap.size, 3, none⟩ = some (.slice A nz cz) := by rw [← hWd, new_cell]; rfl
        have hbd : Below wr.heap.size wr Wd := by rw [← hWd]; exact (Below.refl _ _).alloc (Nat.le_refl _) _
        have TD := Aside0.mk (HT.out.below hbd)
        have ZD := Aside0.mk (show Kd.C (Kd.int .i32) Wd A z.length z from Kd.C_below HACT.out.hC hbd)
        have BD := Aside0.mk (below_step HW.out hbd)
        have ZH := Aside0.mk (show z.length ≤ cz ∧ cz ≤ 9223372036854775807 from ⟨HACT.out.hc, HACT.out.hm⟩)
        have RF_ := Aside0.mk HACT.out.hf
        have RT_ := Aside0.mk HACT.out.ht
        have RK_ := Aside0.mk HACT.out.hk
        have NZ := Aside0.mk hnz
        rw [hWd]
        generalize wr.heap.size = g at m0 m1 m2 m3 ⊢
        clear hWd hnz hbd HACT HW HT k0 k1 k2 k3 hd0 hdq hqp hz hd1 hd2 hd3 hsh hq0 hq10 hdb hlc hcm hin1 hin2
      · have HAM := Aside0.mk (am_lt fa (n := nl + 1) (by omega))
        obtain ⟨at_, hat⟩ : ∃ m, am fa (nl + 1) = m := ⟨_, rfl⟩
        have CAm := Aside0.mk (fun (W : World) (k : Nat) => (by have := am_q (w := W) (n := k) fa (nl + 1) (by omega) (by omega) RF_.out; rw [hat, Int.natCast_add] at this; exact this : Calls Try.prog 22 #[.int .i64 fa, .int .i64 ((nl : Int) + 1)] (W.drewN k) fun e w'' => e = .returned (.int .i64 (at_ : Int)) ∧ ∃ k, w'' = W.drewN k))
        have CLq := Aside0.mk (fun (k : Nat) => (by have := Len_q (n := k) TD.out; rw [HNL.out] at this; exact this : Calls Try.prog 17 #[.pointer (some ⟨b, 0, none⟩)] (Wd.drewN k) fun e w'' => e = .returned (.int .i64 (nl : Int)) ∧ ∃ k, w'' = Wd.drewN k))
        have HAT := Aside0.mk hat
        have hatb : at_ ≤ nl := by have := HAM.out; omega
        clear hat
        by_cases h15 : 1500 < nl
        · have h15' : (1500 : Int) < (nl : Int) := by omega
          go_wp2_with (first
            | (go_at_call 25; (with_reducible refine (Deep_Q TD.out HNL.out hnlb).mono ?_); rintro e w' ⟨d2, q2, rfl, he0, hdq2, hq102, hqp2, hdb2, rfl⟩; have hd22 : (d2 : Int) / 2 = (q2 : Int) := (by omega); have hd33 : decide ((q2 : Int) ≤ 30) = true := decide_eq_true (by omega); have hq02 : (0 : Int) ≤ (q2 : Int) := (by omega); have hsh2 : decide (wrap64 (2 ^ q2) ≤ (nl : Int) + 1) = true := decide_eq_true (pow_le2 hq102 hqp2); clear he0 hdq2 hqp2 hdb2)
            | (go_at_call 17; (with_reducible refine (Len_Q TD.out HNL.out).mono ?_); rintro e w' ⟨rfl, rfl⟩))
          go_ret
          exact ⟨rfl, BD.out⟩
        · have h15' : ¬ (1500 : Int) < (nl : Int) := by omega
          go_wp2_with (first
            | (go_at_call 25; (with_reducible refine (Deep_Q TD.out HNL.out hnlb).mono ?_); rintro e w' ⟨d2, q2, rfl, he0, hdq2, hq102, hqp2, hdb2, rfl⟩; have hd22 : (d2 : Int) / 2 = (q2 : Int) := (by omega); have hd33 : decide ((q2 : Int) ≤ 30) = true := decide_eq_true (by omega); have hq02 : (0 : Int) ≤ (q2 : Int) := (by omega); have hsh2 : decide (wrap64 (2 ^ q2) ≤ (nl : Int) + 1) = true := decide_eq_true (pow_le2 hq102 hqp2); clear he0 hdq2 hqp2 hdb2)
            | (go_at_call 17; (with_reducible refine (Len_Q TD.out HNL.out).mono ?_); rintro e w' ⟨rfl, rfl⟩))
          go_quiet (first
            | (go_at_call 17; exact CLq.out _)
            | (go_at_call 22; exact CAm.out _ _))
          have hbx := pw_below_drewN (Below.refl Wd.heap.size Wd) nq
          have hgl := World.block_lt_of_cell? Wd _ m0
          have p1 := (hbx.cell (p := ⟨g, 1, none⟩) hgl).trans m1
          have p2 := (hbx.cell (p := ⟨g, 2, none⟩) hgl).trans m2
          have p3 := (hbx.cell (p := ⟨g, 3, none⟩) hgl).trans m3
          have p0 := (hbx.cell (p := ⟨g, 0, none⟩) hgl).trans m0
          have TX := Aside0.mk (TD.out.below hbx)
          have ZX := Aside0.mk (Kd.C_below ZD.out hbx)
          have BX := Aside0.mk (below_step BD.out hbx)
          have hgx : g < (Wd.drewN nq).heap.size := Nat.lt_of_lt_of_le hgl hbx.size
          generalize Wd.drewN nq = Wx at p0 p1 p2 p3 TX ZX BX hgx ⊢
          clear hbx hgl m0 m1 m2 m3 TD ZD BD CLq CAm h15'
          have hk4 := am_lt ka (n := 4) (by decide)
          obtain ⟨kk, hkk⟩ : ∃ m, am ka 4 = m := ⟨_, rfl⟩
          have CK := Aside0.mk (fun W => (by have := am_calls (w := W) ka 4 (by decide) (by decide) RK_.out; rw [hkk] at this; exact this : Calls Try.prog 22 #[.int .i64 ka, .int .i64 4] W fun e w' => e = .returned (.int .i64 (kk : Int)) ∧ W = w'))
          rw [hkk] at hk4
          clear hkk
          have CIns := Aside0.mk (by have := Insert_L (c := cz) TX.out ZX.out ZH.out.1 ZH.out.2 at_ (by rw [HNL.out]; omega) (by rw [HNL.out, NZ.out]; omega); rw [NZ.out] at this; exact this : Calls Try.prog 14 #[.pointer (some ⟨b, 0, none⟩), .int .i64 (at_ : Int), .slice A nz cz] Wx (OneE (l.take at_ ++ z ++ l.drop at_) Wx))
          have CNz := Aside0.mk (by have := New_L (c := cz) ZX.out ZH.out.1 ZH.out.2 (by rw [NZ.out]; omega); rw [NZ.out] at this; exact this : Calls Try.prog 10 #[.slice A nz cz] Wx (OneR z Wx))
          have CCa := Aside0.mk (fun W b2 (h : RL W b l) (h2 : RL W b2 z) => (Concat_L h h2 (by rw [HNL.out, NZ.out]; omega)))
          have CSp := Aside0.mk (Split_L TX.out at_ (by rw [HNL.out]; omega) (by rw [HNL.out]; omega))
          have CCb := Aside0.mk (fun W b2 b3 (h : RL W b2 (l.drop at_)) (h2 : RL W b3 (l.take at_)) => (Concat_L h h2 (by simp; rw [HNL.out]; omega)))
          have N1 := Aside0.mk (show (l.take at_ ++ z ++ l.drop at_).length ≤ 1700 by simp; rw [HNL.out, NZ.out]; omega)
          have N2 := Aside0.mk (show (l ++ z).length ≤ 1700 by simp; rw [HNL.out, NZ.out]; omega)
          have N3 := Aside0.mk (show (l.drop at_ ++ l.take at_).length ≤ 1700 by simp; rw [HNL.out]; omega)
          obtain rfl | rfl | rfl | rfl : kk = 0 ∨ kk = 1 ∨ kk = 2 ∨ kk = 3 := by omega
          · go_wp2_with (first
              | (go_at_call 22; (with_reducible refine (CK.out _).mono ?_); rintro e w' ⟨rfl, rfl⟩)
              | (go_at_call 14; (with_reducible refine CIns.out.mono ?_); rintro e w2 ⟨b2, rfl, ht, hb⟩; have T2 := Aside0.mk ht; have B2 := Aside0.mk (below_step BX.out hb); clear ht hb))
            go_roundw
            case rel => exact ⟨b2, i + 1, _, rfl, by go_num, by omega, N1, B2, T2⟩
            case measure => simp [intOf]; omega
          · obtain ⟨r_, hr_⟩ : ∃ m, am ta (nl + 1) = m := ⟨_, rfl⟩
            have hrb : r_ < nl + 1 := by rw [← hr_]; exact am_lt ta (by omega)
            have CAt := Aside0.mk (fun W => (by have := am_calls (w := W) ta (nl + 1) (by omega) (by omega) RT_.out; rw [hr_, Int.natCast_add] at this; exact this : Calls Try.prog 22 #[.int .i64 ta, .int .i64 ((nl : Int) + 1)] W fun e w' => e = .returned (.int .i64 (r_ : Int)) ∧ W = w'))
            have CLx := Aside0.mk (fun W (h : Below Wx.heap.size Wx W) => Len_Q (TX.out.below h) HNL.out)
            have hwr : IntKind.i64.wrap ((nl : Int) + 1) = (nl : Int) + 1 := wrap_small (by omega)
            clear hr_
            go_wp2_with (go_at_call 22; (with_reducible refine (CK.out _).mono ?_); rintro e w' ⟨rfl, rfl⟩)
            obtain ⟨lo, hi_, hlh, hhb, hcase⟩ : ∃ lo hi : Nat, lo ≤ hi ∧ hi ≤ nl ∧ ((at_ < r_ ∧ lo = at_ ∧ hi = r_) ∨ (at_ = r_ ∧ lo = at_ ∧ hi = at_) ∨ (r_ < at_ ∧ lo = r_ ∧ hi = at_)) := by
              rcases Nat.lt_trichotomy at_ r_ with h | h | h
              · exact ⟨at_, r_, by omega, by omega, .inl ⟨h, rfl, rfl⟩⟩
              · exact ⟨at_, at_, by omega, by omega, .inr (.inl ⟨h, rfl, rfl⟩)⟩
              · exact ⟨r_, at_, by omega, by omega, .inr (.inr ⟨h, rfl, rfl⟩)⟩
            have CDl := Aside0.mk (fun W (h : Below Wx.heap.size Wx W) => Delete_L (TX.out.below h) lo hi_ hlh (by rw [HNL.out]; omega) (by rw [HNL.out]; omega))
            have N4 := Aside0.mk (show (l.take lo ++ l.drop hi_).length ≤ 1700 by simp; rw [HNL.out]; omega)
            rcases hcase with ⟨hc1, rfl, rfl⟩ | ⟨rfl, rfl, rfl⟩ | ⟨hc1, rfl, rfl⟩
            all_goals (try have hc2 := (show ¬ _ < _ from Nat.not_lt_of_lt hc1))
            all_goals go_region_held3 (fun W' => W'.cell? ⟨g, 2, none⟩ = some (.int .i64 ta) ∧ Below Wx.heap.size Wx W')
              (((try dsimp only); (repeat' apply And.intro); all_goals (first | assumption | exact Below.refl _ _ | exact below_drew1 (Below.refl _ _) | exact below_drew1 (pw_below_drewN (Below.refl _ _) _) | exact below_drew1 (by assumption) | exact below_step (by assumption) (by assumption) | go_keep)))
              (first
                | (go_at_call 22; (try rw [hwr]); (with_reducible refine (CAt.out _).mono ?_); rintro e w' ⟨rfl, rfl⟩)
                | (go_at_call 17; (with_reducible refine (CLx.out _ (by (first | assumption | exact Below.refl _ _ | exact pw_below_drewN (Below.refl _ _) _ | exact below_drew1 (pw_below_drewN (Below.refl _ _) _) | exact below_drew1 (Below.refl _ _) | exact pw_below_drewN (by assumption) _ | exact below_drew1 (by assumption)))).mono ?_); rintro e w' ⟨rfl, rfl⟩)
                | (go_at_call 13; (with_reducible refine (CDl.out _ (by (first | assumption | exact Below.refl _ _ | exact pw_below_drewN (Below.refl _ _) _ | exact below_drew1 (pw_below_drewN (Below.refl _ _) _) | exact below_drew1 (Below.refl _ _) | exact pw_below_drewN (by assumption) _ | exact below_drew1 (by assumption)))).mono ?_); rintro e w3 ⟨b3, rfl, ht, hb⟩; have T3 := Aside0.mk ht; have hb3 := below_step (w := Wx) (by (first | assumption | exact Below.refl _ _ | exact pw_below_drewN (Below.refl _ _) _ | exact below_drew1 (pw_below_drewN (Below.refl _ _) _) | exact below_drew1 (Below.refl _ _) | exact pw_below_drewN (by assumption) _ | exact below_drew1 (by assumption))) hb; have q3 := (hb3.cell (p := ⟨g, 2, none⟩) hgx).trans p2; clear ht hb))
            all_goals
              go_wp2
              go_roundw
              case rel => exact ⟨b3, i + 1, _, rfl, by go_num, by omega, N4, Aside0.mk (below_step BX.out hb3), T3⟩
              case measure => simp [intOf]; omega
          · go_wp2_with (first
              | (go_at_call 22; (with_reducible refine (CK.out _).mono ?_); rintro e w' ⟨rfl, rfl⟩)
              | (go_at_call 10; (with_reducible refine CNz.out.mono ?_); rintro e w2 ⟨b2, rfl, ht, hb⟩; have T2 := Aside0.mk ht; have X2 := Aside0.mk (TX.out.below hb); have B2 := Aside0.mk (below_step BX.out hb); clear ht hb)
              | (go_at_call 26; (with_reducible refine (CCa.out _ _ X2.out T2.out).mono ?_); rintro e w3 ⟨b3, rfl, ht, hb⟩; have T3 := Aside0.mk ht; have B3 := Aside0.mk (below_step B2.out hb); clear ht hb))
            go_roundw
            case rel => exact ⟨b3, i + 1, _, rfl, by go_num, by omega, N2, B3, T3⟩
            case measure => simp [intOf]; omega
          · go_wp2_with (first
              | (go_at_call 22; (with_reducible refine (CK.out _).mono ?_); rintro e w' ⟨rfl, rfl⟩)
              | (go_at_call 27; (with_reducible refine CSp.out.mono ?_); rintro e w2 ⟨b2, b3, rfl, ht, ht2, hb⟩; have T2 := Aside0.mk ht; have X2 := Aside0.mk ht2; have B2 := Aside0.mk (below_step BX.out hb); clear ht ht2 hb)
              | (go_at_call 26; (with_reducible refine (CCb.out _ _ _ X2.out T2.out).mono ?_); rintro e w3 ⟨b4, rfl, ht, hb⟩; have T3 := Aside0.mk ht; have B3 := Aside0.mk (below_step B2.out hb); clear ht hb))
            go_roundw
            case rel => exact ⟨b4, i + 1, _, rfl, by go_num, by omega, N3, B3, T3⟩
            case measure => simp [intOf]; omega
      · go_wp2_with (first
          | (go_at_call 25; (with_reducible refine (Deep_Q TD.out HNL.out hnlb).mono ?_); rintro e w' ⟨d2, q2, rfl, he0, hdq2, hq102, hqp2, hdb2, rfl⟩; have hd22 : (d2 : Int) / 2 = (q2 : Int) := (by omega); have hd33 : decide ((q2 : Int) ≤ 30) = true := decide_eq_true (by omega); have hq02 : (0 : Int) ≤ (q2 : Int) := (by omega); have hsh2 : decide (wrap64 (2 ^ q2) ≤ (nl : Int) + 1) = true := decide_eq_true (pow_le2 hq102 hqp2); clear he0 hdq2 hqp2 hdb2)
          | (go_at_call 17; (with_reducible refine (Len_Q TD.out HNL.out).mono ?_); rintro e w' ⟨rfl, rfl⟩))
        go_ret
        exact ⟨rfl, BD.out⟩
    · have hend : ((i : Int) < (n1 : Int)) → decide ((i : Int) < 60) = false := fun h => decide_eq_false (by omega)
      by_cases hin1 : i < n1
      · have hin1' : (i : Int) < (n1 : Int) := by omega
        have hin2' : decide ((i : Int) < 60) = false := hend hin1'
        clear hend hin
        go_wp2_with (first
          | (go_at_call 25; (with_reducible refine (Deep_Q HT.out HNL.out hnlb).mono ?_); rintro e w' ⟨d2, q2, rfl, he0, hdq2, hq102, hqp2, hdb2, rfl⟩; have hd22 : (d2 : Int) / 2 = (q2 : Int) := (by omega); have hd33 : decide ((q2 : Int) ≤ 30) = true := decide_eq_true (by omega); have hq02 : (0 : Int) ≤ (q2 : Int) := (by omega); have hsh2 : decide (wrap64 (2 ^ q2) ≤ (nl : Int) + 1) = true := decide_eq_true (pow_le2 hq102 hqp2); clear he0 hdq2 hqp2 hdb2)
          | (go_at_call 17; (with_reducible refine (Len_Q HT.out HNL.out).mono ?_); rintro e w' ⟨rfl, rfl⟩))
        go_ret
        exact ⟨rfl, HW.out⟩
      · have hin1' : ¬ (i : Int) < (n1 : Int) := by omega
        clear hend hin
        go_wp2_with (first
          | (go_at_call 25; (with_reducible refine (Deep_Q HT.out HNL.out hnlb).mono ?_); rintro e w' ⟨d2, q2, rfl, he0, hdq2, hq102, hqp2, hdb2, rfl⟩; have hd22 : (d2 : Int) / 2 = (q2 : Int) := (by omega); have hd33 : decide ((q2 : Int) ≤ 30) = true := decide_eq_true (by omega); have hq02 : (0 : Int) ≤ (q2 : Int) := (by omega); have hsh2 : decide (wrap64 (2 ^ q2) ≤ (nl : Int) + 1) = true := decide_eq_true (pow_le2 hq102 hqp2); clear he0 hdq2 hqp2 hdb2)
          | (go_at_call 17; (with_reducible refine (Len_Q HT.out HNL.out).mono ?_); rintro e w' ⟨rfl, rfl⟩))
        go_ret
        exact ⟨rfl, HW.out⟩
theorem walk_RopeBalanced {W : World} {a0 a1 : Option Addr} {len0 cap0 len1 cap1 : Nat} {z0 : List Int} (w0 : InRow W a0 len0 cap0 z0) (y0 : len0 * 4 ≤ 140737488351232) (w1 : ActRow W a1 len1 cap1) :
    Calls Try.prog 6 #[.slice a0 len0 cap0, .slice a1 len1 cap1] W fun e w' => e = .returned (.bool true) ∧ Below W.heap.size W w' := by
  obtain ⟨l, rfl, hC0, hc0, hm0, _⟩ := w0.list
  by_cases h : 1000 < l.length
  · exact bal_big h
  · exact bal_small hC0 hc0 hm0 (by omega) w1
end Go.Proofs.Ytenjldfflkinkaa.Rop
