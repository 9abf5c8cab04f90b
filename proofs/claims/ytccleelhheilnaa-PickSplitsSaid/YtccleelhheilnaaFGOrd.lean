/- order.turn and order.Order by their contracts: the stretches turned about, level by level. -/
import Derived.Test.YtccleelhheilnaaFx0
import Derived.Test.YtccleelhheilnaaFx2
import Derived.WalkSpells
import Derived.WalkLawsBesides
import Derived.Shelf.Lay
import Derived.Shelf.Slices.Cells
import Derived.Ground.NamesProg
namespace Go.Proofs
open Go.Shelf
shelf_lay Lays.n112 Nm 112 at Try as Ytccleelhheilnaa.lays112
end Go.Proofs
namespace Go.Proofs.Ytccleelhheilnaa.F
set_option linter.unusedVariables false
set_option linter.unusedSimpArgs false
open Go.RowKit Go.Proofs.YtccleelhheilnaaW.PrintWords Go.Proofs.YtccleelhheilnaaW.PrintLast Go.Proofs.YtccleelhheilnaaW.PrintMore

/-! ### turning about, over lists -/
/-- each longest stretch of what p holds of, turned about; acc: the stretch at hand, turned about -/
def turnF (p : Int → Bool) : List Int → List Int → List Int
  | [], acc => acc
  | x :: l, acc => if p x = true then turnF p l (x :: acc) else acc ++ x :: turnF p l []
def atLeast (L : List Int) (n : Int) (x : Int) : Bool := decide (rd L x ≥ n)
def turn (L : List Int) (n : Int) (out : List Int) : List Int := turnF (atLeast L n) out []
theorem turnF_run (p : Int → Bool) : ∀ (run rest acc : List Int), (∀ x ∈ run, p x = true) → turnF p (run ++ rest) acc = turnF p rest (run.reverse ++ acc)
  | [], rest, acc, _ => rfl
  | x :: run, rest, acc, h => by
    rw [List.cons_append, turnF, if_pos (h x (by simp)), turnF_run p run rest _ (fun y hy => h y (by simp [hy]))]
    simp
theorem turnF_mem (p : Int → Bool) : ∀ (l acc : List Int) (x : Int), x ∈ turnF p l acc ↔ x ∈ l ∨ x ∈ acc
  | [], acc, x => by simp [turnF]
  | y :: l, acc, x => by
    unfold turnF
    split
    · rw [turnF_mem p l (y :: acc) x]
      simp only [List.mem_cons]
      constructor
      · rintro (h | h | h) <;> simp [h]
      · rintro ((h | h) | h) <;> simp [h]
    · rw [List.mem_append, List.mem_cons, turnF_mem p l [] x]
      simp only [List.mem_cons, List.not_mem_nil, or_false]
      constructor
      · rintro (h | h | h) <;> simp [h]
      · rintro ((h | h) | h) <;> simp [h]
theorem turnF_len (p : Int → Bool) : ∀ (l acc : List Int), (turnF p l acc).length = l.length + acc.length
  | [], acc => by simp [turnF]
  | y :: l, acc => by
    unfold turnF
    split
    · rw [turnF_len p l (y :: acc)]; simp; omega
    · rw [List.length_append, List.length_cons, turnF_len p l []]; simp; omega

/-- A stretch of an owned row written anew. -/
theorem R_puts {e base cap g : Nat} {ok : Nat → Prop} : ∀ (vs mid pre post : List Int) (W : World), vs.length = mid.length →
    Kd.R (Kd.int .i64) e W base ok (.slice (some ⟨g, 0, none⟩) (pre ++ (mid ++ post)).length cap) (pre ++ (mid ++ post)) →
    Kd.R (Kd.int .i64) e (W.setCells g pre.length (vs.map (Value.int .i64))) base ok (.slice (some ⟨g, 0, none⟩) (pre ++ (mid ++ post)).length cap) (pre ++ (vs ++ post))
  | [], [], pre, post, W, _, h => h
  | [], _ :: _, pre, post, W, h, _ => by simp at h
  | _ :: _, [], pre, post, W, h, _ => by simp at h
  | v :: vs, m :: mid, pre, post, W, hl, h => by
    have h1 := (Kd.R_put h (pre.length : Int) v).1
    have e1 : (pre ++ (m :: mid ++ post)).set ((pre.length : Int)).toNat v = (pre ++ [v]) ++ (mid ++ post) := by
      rw [Int.toNat_natCast, List.set_append_right _ _ (Nat.le_refl _), Nat.sub_self]
      simp
    rw [e1] at h1
    have e2 : (pre ++ (m :: mid ++ post)).length = ((pre ++ [v]) ++ (mid ++ post)).length := by simp
    rw [e2] at h1 ⊢
    have h2 := R_puts vs mid (pre ++ [v]) post _ (by simpa using hl) h1
    have e3 : (pre ++ [v]).length = pre.length + 1 := by simp
    rw [e3] at h2
    have e4 : (pre ++ [v]) ++ (vs ++ post) = pre ++ (v :: vs ++ post) := by simp
    rw [e4] at h2
    exact h2
theorem below_puts {B g : Nat} {w : World} (hg : B ≤ g) : ∀ (vs : List Value) (o : Nat) (W : World), Below B w W → Below B w (W.setCells g o vs)
  | [], o, W, h => h
  | v :: vs, o, W, h => below_puts hg vs (o + 1) _ (h.setCell (p := ⟨g, o, none⟩) hg v)

theorem num_read64 {w : World} {A : Option Addr} {zs : List Int} (h : Kd.C (Kd.int .i64) w A zs.length zs) (x : Int) (h0 : 0 ≤ x) (h1 : x < (zs.length : Int)) : ∃ ad, A = some ad ∧ w.cell? (ad.add x.toNat) = some (.int .i64 (rd zs x)) := by
  obtain ⟨ad, c, e, hc1, hK, hc0⟩ := Kd.C_get h 0 x h0 h1
  have hK' : c = [.int .i64 (zs.getD x.toNat 0)] := hK
  subst hK'
  have := hc0 0 _ rfl
  refine ⟨ad, e, ?_⟩
  have h1 : x.toNat * (Kd.int .i64).sz + 0 = x.toNat := by show x.toNat * 1 + 0 = x.toNat; omega
  rw [h1] at this
  exact this

theorem reverse_at (g cap c1 k : Nat) (a : Option Addr) (pre run post : List Int) (w0 W : World) (hk : k = run.length) (hbig : k ≤ 9223372036854775807) (ha : k = 0 ∨ a = some ⟨g, pre.length, none⟩) (hg : w0.heap.size ≤ g) (hB : Below w0.heap.size w0 W)
    (ho : Kd.R (Kd.int .i64) 3 W w0.heap.size (fun _ => True) (.slice (some ⟨g, 0, none⟩) (pre ++ (run ++ post)).length cap) (pre ++ (run ++ post))) :
    Calls Try.prog 81 #[.slice a k c1] W fun e w' => e = .returned (.tuple #[]) ∧ Kd.R (Kd.int .i64) 3 w' w0.heap.size (fun _ => True) (.slice (some ⟨g, 0, none⟩) (pre ++ (run ++ post)).length cap) (pre ++ (run.reverse ++ post)) ∧ Below w0.heap.size w0 w' := by
  by_cases h0 : k = 0
  · subst h0
    obtain rfl : run = [] := List.eq_nil_of_length_eq_zero hk.symm
    refine (Any.slices_Reverse_int_empty Ytccleelhheilnaa.lays112 a c1 W).mono ?_
    rintro e w' ⟨rfl, rfl⟩
    exact ⟨rfl, ho, hB⟩
  · obtain rfl : a = some ⟨g, pre.length, none⟩ := ha.resolve_left h0
    have hcell : ∀ j, j < run.length → W.cell? ⟨g, pre.length + j, none⟩ = some (.int .i64 (run.getD j 0)) ∧ W.frozen? ⟨g, pre.length + j, none⟩ = false := by
      intro j hj
      have h1 := Kd.R_cell 0 ho ((pre.length + j : Nat) : Int) (by omega) (by simp only [List.length_append]; omega)
      have h2 : (pre ++ (run ++ post)).getD (pre.length + j) 0 = run.getD j 0 := by
        rw [List.getD_eq_getElem?_getD, List.getElem?_append_right (by omega), List.getElem?_append_left (by omega), List.getD_eq_getElem?_getD]
        congr 2
        omega
      refine ⟨?_, h1.2⟩
      rw [← h2]
      exact h1.1
    subst hk
    refine (Any.slices_Reverse_int_cells Ytccleelhheilnaa.lays112 g pre.length run.length c1 run W (Nat.le_refl _) hbig (fun j hj => (hcell j hj).1) (fun j hj => (hcell j hj).2)).mono ?_
    rintro e w' ⟨rfl, q, rfl⟩
    rw [List.take_length]
    exact ⟨rfl, R_puts run.reverse run pre post _ (by simp) (Kd.R_drewN ho q), below_puts hg _ _ _ (pw_below_drewN hB q)⟩

set_option maxRecDepth 100000 in
set_option maxHeartbeats 4000000 in
theorem order_turn.calls (A0 : Option Addr) (c0 : Nat) (L out : List Int) (n : Int) (v : Value) (w0 w : World) (hC : Kd.C (Kd.int .i64) w0 A0 L.length L) (hc : L.length ≤ c0) (hB : Below w0.heap.size w0 w) (ho : Kd.R (Kd.int .i64) 3 w w0.heap.size (fun _ => True) v out)
    (hin : ∀ x ∈ out, 0 ≤ x ∧ x < (L.length : Int)) (hlen : out.length ≤ 281474976710656) :
    Calls Try.prog 63 #[v, .slice A0 L.length c0, .int .i64 n] w fun e w' => e = .returned (.tuple #[]) ∧ Kd.R (Kd.int .i64) 3 w' w0.heap.size (fun _ => True) v (turn L n out) ∧ Below w0.heap.size w0 w' := by
  by_cases hne : out = []
  · subst hne
    obtain ⟨A, c, rfl⟩ := Kd.R_slice ho
    go_enter Try.func63, Try.ntmps63
    go_wp2
    go_loopw [6] (fun i wr => i = .int .i64 0 ∧ wr = w) (fun _ _ => 0)
    case atStart => exact ⟨rfl, rfl⟩
    case round =>
      obtain ⟨rfl, rfl⟩ := hrel
      go_wp2
      go_end0
      exact ⟨rfl, ho, hB⟩
  · have hpos : 0 < out.length := List.length_pos_iff.2 hne
    obtain ⟨g, cap, rfl, hbase, hlt, cells, hcells⟩ := Kd.R_form ho hpos
    have hcap : out.length ≤ cap := (Kd.R_reads' ho).2.1
    have HB := Aside0.mk hB
    have HO := Aside0.mk ho
    have HIN := Aside0.mk hin
    clear hB ho hin hne
    go_enter Try.func63, Try.ntmps63
    go_wp2
    go_loopw [6] (fun i wr => ∃ (dn rest : List Int) (j : Nat), i = .int .i64 (j : Int) ∧ j ≤ out.length + 1 ∧ Aside0 (j < out.length → j = dn.length) ∧ Aside0 (out.length ≤ j → rest = []) ∧ Aside0 ((dn ++ rest).length = out.length) ∧ Aside0 (turn L n out = dn ++ turnF (atLeast L n) rest []) ∧ Aside0 (∀ x ∈ rest, 0 ≤ x ∧ x < (L.length : Int)) ∧ Aside0 (Kd.R (Kd.int .i64) 3 wr w0.heap.size (fun _ => True) (.slice (some ⟨g, 0, none⟩) out.length cap) (dn ++ rest)) ∧ Aside0 (Below w0.heap.size w0 wr))
      (fun i _ => out.length - (intOf i).toNat)
    case atStart => exact ⟨[], out, 0, rfl, Nat.zero_le _, ⟨fun _ => rfl⟩, ⟨fun h => absurd h (by omega)⟩, ⟨rfl⟩, ⟨rfl⟩, HIN, HO, HB⟩
    case round =>
      obtain ⟨dn, rest, j, rfl, hle, KJ, KR, K1, K2, K3, K4, K5⟩ := hrel
      by_cases hlt2 : j < out.length
      · obtain rfl := KJ.out hlt2
        go_wp2
        go_loopw [6] (fun i wr2 => ∃ (run rest2 : List Int) (m : Nat), i = .int .i64 (m : Int) ∧ Aside0 (m = dn.length + run.length) ∧ m ≤ out.length ∧ dn.length ≤ m ∧ wr2 = wr ∧ Aside0 (rest = run ++ rest2) ∧ Aside0 (∀ x ∈ run, atLeast L n x = true))
          (fun i _ => out.length - (intOf i).toNat)
        case atStart => exact ⟨[], rest, dn.length, rfl, ⟨rfl⟩, by omega, Nat.le_refl _, rfl, ⟨rfl⟩, ⟨fun x hx => by simp at hx⟩⟩
        case round =>
          obtain ⟨run, rest2, m, rfl, HM, hmle, hdm, rfl, R1, R2⟩ := hrel
          have hmc : m ≤ cap := by omega
          have hdc : dn.length ≤ cap := by omega
          have hmax : m ≤ 281474976710656 := by omega
          by_cases hm2 : m < out.length
          · obtain ⟨x, rest3, hr2⟩ : ∃ x rest3, rest2 = x :: rest3 := by
              cases rest2 with
              | nil =>
                have h1 := K1.out
                have h2 := HM.out
                rw [R1.out] at h1
                simp only [List.append_nil, List.length_append] at h1
                omega
              | cons x r => exact ⟨x, r, rfl⟩
            subst hr2
            have hx := K3.out x (by rw [R1.out]; simp)
            have hxm : (dn ++ rest).getD m 0 = x := by
              rw [R1.out, HM.out, List.getD_eq_getElem?_getD, List.getElem?_append_right (by omega), List.getElem?_append_right (by omega)]
              have : dn.length + run.length - dn.length - run.length = 0 := by omega
              rw [this]
              rfl
            have hcx : wr.cell? ⟨g, m, none⟩ = some (.int .i64 x) := by
              have h1 := K4.out
              rw [← K1.out] at h1
              have := (Kd.R_cell 0 h1 (m : Int) (by omega) (by rw [K1.out]; omega)).1
              rw [← hxm]
              exact this
            obtain ⟨ad, rfl, hcl⟩ := num_read64 (Kd.C_below hC K5.out) x hx.1 hx.2
            obtain ⟨y, hy⟩ : ∃ y, rd L x = y := ⟨_, rfl⟩
            rw [hy] at hcl
            have hx1 := hx.1
            have hx2 := hx.2
            clear hx hxm
            have HY := Aside0.mk hy
            clear hy
            by_cases hp : y ≥ n
            · have hpx : atLeast L n x = true := by unfold atLeast; rw [HY.out]; exact decide_eq_true hp
              go_wp2
              go_roundw
              case rel => exact ⟨run ++ [x], rest3, m + 1, by go_num, ⟨by rw [HM.out]; simp; omega⟩, by omega, by omega, trivial, ⟨by rw [R1.out]; simp⟩, ⟨fun z hz => (List.mem_append.1 hz).elim (R2.out z) (fun e => by simp at e; subst e; exact hpx)⟩⟩
              case measure => simp [intOf]; omega
            · have hpx : atLeast L n x = false := by unfold atLeast; rw [HY.out]; exact decide_eq_false hp
              have hcd : ¬ cap = dn.length := by omega
              have K4' : Kd.R (Kd.int .i64) 3 wr w0.heap.size (fun _ => True) (.slice (some ⟨g, 0, none⟩) (dn ++ (run ++ x :: rest3)).length cap) (dn ++ (run ++ x :: rest3)) := by
                have h1 := K4.out
                have h2 := K1.out
                rw [R1.out] at h1 h2
                rw [h2]
                exact h1
              have KK := Aside0.mk K4'
              clear K4'
              go_wp2_with (go_at_call 81; refine (reverse_at g cap _ _ _ dn run (x :: rest3) w0 wr (by have := HM.out; omega) (by omega) (.inr rfl) hbase K5.out KK.out).mono ?_; rintro e w' ⟨rfl, ho', hB'⟩; have HO' := Aside0.mk ho'; have HB' := Aside0.mk hB'; clear ho' hB')
              go_roundw
              case rel =>
                have h2 := K1.out
                rw [R1.out] at h2
                have h3 := HM.out
                refine ⟨dn ++ run.reverse ++ [x], rest3, m + 1, by go_num, by omega, ⟨fun _ => by simp; omega⟩, ⟨fun h => ?_⟩, ⟨?_⟩, ⟨?_⟩, ⟨fun z hz => K3.out z (by rw [R1.out]; simp [hz])⟩, ⟨?_⟩, HB'⟩
                · simp only [List.length_append, List.length_cons] at h2
                  exact List.eq_nil_of_length_eq_zero (by omega)
                · simp only [List.length_append, List.length_cons, List.length_reverse, List.length_nil] at h2 ⊢
                  omega
                · rw [K2.out, R1.out, turnF_run _ run _ _ R2.out, turnF, if_neg (by rw [hpx]; decide)]
                  simp
                · have h1 := HO'.out
                  rw [h2] at h1
                  simpa using h1
              case measure => simp [intOf]; omega
          · have HM3 : Aside0 (out.length = m) := ⟨by omega⟩
            have hcd : ¬ cap = dn.length := by omega
            obtain rfl : rest2 = [] := by
              have h1 := K1.out
              have h2 := HM.out
              have h3 := HM3.out
              rw [R1.out] at h1
              simp only [List.length_append] at h1
              exact List.eq_nil_of_length_eq_zero (by omega)
            have K4' : Kd.R (Kd.int .i64) 3 wr w0.heap.size (fun _ => True) (.slice (some ⟨g, 0, none⟩) (dn ++ (run ++ [])).length cap) (dn ++ (run ++ [])) := by
              have h1 := K4.out
              have h2 := K1.out
              rw [R1.out] at h1 h2
              rw [h2]
              exact h1
            have KK := Aside0.mk K4'
            clear K4'
            go_wp2_with (go_at_call 81; refine (reverse_at g cap _ _ _ dn run [] w0 wr (by have := HM.out; omega) (by omega) (.inr rfl) hbase K5.out KK.out).mono ?_; rintro e w' ⟨rfl, ho', hB'⟩; have HO' := Aside0.mk ho'; have HB' := Aside0.mk hB'; clear ho' hB')
            go_roundw
            case rel =>
              have h2 := K1.out
              rw [R1.out] at h2
              have h3 := HM.out
              have hm3 := HM3.out
              refine ⟨dn ++ run.reverse, [], m + 1, by go_num, by omega, ⟨fun h => by omega⟩, ⟨fun h => rfl⟩, ⟨?_⟩, ⟨?_⟩, ⟨fun z hz => by simp at hz⟩, ⟨?_⟩, HB'⟩
              · simp only [List.length_append, List.length_nil, List.length_reverse] at h2 ⊢
                omega
              · rw [K2.out, R1.out, turnF_run _ run _ _ R2.out]
                simp [turnF]
              · have h1 := HO'.out
                rw [h2] at h1
                simpa using h1
            case measure => simp [intOf]; omega
      · have hr : rest = [] := KR.out (by omega)
        go_wp2
        go_end0
        refine ⟨rfl, ?_, K5.out⟩
        have h1 := K4.out
        have h2 := K2.out
        subst hr
        rw [h2]
        simp only [turnF]
        exact h1

/-! ### order.Order -/
def fineB (n : Int) : Bool := decide (-1 ≤ n ∧ n ≤ 127)
theorem formed_loop (L : List Int) (hl : L.length ≤ 281474976710656) : ∀ (d k i : Nat), L.length - i = d → i ≤ L.length → d < k → order_formed.l0 k L (L.length : Int) (i : Int) = some ((L.drop i).all fineB) := by
  intro d
  induction d with
  | zero =>
    intro k i hd hi hk
    obtain ⟨k, rfl⟩ : ∃ m, k = m + 1 := ⟨k - 1, by omega⟩
    simp only [order_formed.l0]
    rw [if_neg (by omega), List.drop_eq_nil_of_le (by omega)]
    rfl
  | succ d ih =>
    intro k i hd hi hk
    obtain ⟨k, rfl⟩ : ∃ m, k = m + 1 := ⟨k - 1, by omega⟩
    have hlt : i < L.length := by omega
    have hr : rd L (i : Int) = L[i] := by
      simp only [rd, Int.toNat_natCast, List.getD_eq_getElem?_getD, List.getElem?_eq_getElem hlt, Option.getD_some]
    simp only [order_formed.l0, hr]
    rw [if_pos (by omega), if_pos (by omega), if_pos (by omega), List.drop_eq_getElem_cons hlt, List.all_cons, show wrap64 ((i : Int) + 1) = ((i + 1 : Nat) : Int) from by unfold wrap64; omega]
    by_cases h1 : L[i] < -1
    · rw [if_pos h1, show fineB L[i] = false from by simp only [fineB, decide_eq_false_iff_not]; omega]
      rfl
    · rw [if_neg h1]
      by_cases h2 : L[i] > 127
      · rw [if_pos h2, show fineB L[i] = false from by simp only [fineB, decide_eq_false_iff_not]; omega]
        rfl
      · rw [if_neg h2, show fineB L[i] = true from by simp only [fineB, decide_eq_true_eq]; omega, Bool.true_and]
        exact ih k (i + 1) (by omega) (by omega) (by omega)
theorem formed_is (L : List Int) (hl : L.length ≤ 281474976710656) : order_formed.f (L.length + 1) L = some (L.all fineB) := by
  have := formed_loop L hl L.length (L.length + 1) 0 (by omega) (by omega) (by omega)
  simpa [order_formed.f] using this

/-- the places that are seen among the first k -/
def seenAt (L : List Int) (k : Nat) : List Int := ((List.range k).filter fun i => decide (0 ≤ L.getD i 0)).map fun i : Nat => (i : Int)
/-- does the level j stand among the first k? -/
def thereAt (L : List Int) (k : Nat) (j : Nat) : Bool := (L.take k).any fun n => decide (n = (j : Int))
def tabOf (f : Nat → Bool) : Array Value := ((List.range 128).map fun i => Value.bool (f i)).toArray
def leastFrom (f : Nat → Bool) : Nat → Nat → Nat
  | 0, n => n
  | k + 1, n => if n ≤ 127 ∧ f n = false then leastFrom f k (n + 2) else n
def greatestFrom (f : Nat → Bool) : Nat → Nat
  | 0 => 0
  | n + 1 => if f (n + 1) = false then greatestFrom f n else n + 1
/-- turned about at n, n - 1, .., least -/
def turnsFrom (L : List Int) (least : Nat) : Nat → List Int → List Int
  | 0, out => out
  | n + 1, out => if least ≤ n + 1 then turnsFrom L least n (turn L ((n + 1 : Nat) : Int) out) else out
def ordered (L : List Int) : List Int := turnsFrom L (leastFrom (thereAt L L.length) 64 1) (greatestFrom (thereAt L L.length) 127) (seenAt L L.length)
theorem seen_hit {L : List Int} {k : Nat} (h : 0 ≤ rd L (k : Int)) : seenAt L (k + 1) = seenAt L k ++ [(k : Int)] := by
  have h' : 0 ≤ L.getD k 0 := h
  unfold seenAt
  rw [List.range_succ, List.filter_append, List.map_append]
  simp only [List.filter_cons, List.filter_nil, decide_eq_true h']
  rfl
theorem seen_miss {L : List Int} {k : Nat} (h : ¬ 0 ≤ rd L (k : Int)) : seenAt L (k + 1) = seenAt L k := by
  have h' : ¬ 0 ≤ L.getD k 0 := h
  unfold seenAt
  rw [List.range_succ, List.filter_append, List.map_append]
  simp only [List.filter_cons, List.filter_nil, decide_eq_false h']
  simp
theorem seen_len (L : List Int) (k : Nat) : (seenAt L k).length ≤ k := by
  unfold seenAt
  rw [List.length_map]
  exact Nat.le_trans (List.length_filter_le _ _) (by simp)
theorem seen_mem {L : List Int} {k : Nat} {x : Int} : x ∈ seenAt L k ↔ ∃ i : Nat, x = (i : Int) ∧ i < k ∧ 0 ≤ L.getD i 0 := by
  unfold seenAt
  simp only [List.mem_map, List.mem_filter, List.mem_range, decide_eq_true_eq]
  constructor
  · rintro ⟨i, ⟨h1, h2⟩, rfl⟩; exact ⟨i, rfl, h1, h2⟩
  · rintro ⟨i, rfl, h1, h2⟩; exact ⟨i, ⟨h1, h2⟩, rfl⟩
theorem there_zero (L : List Int) : thereAt L 0 = fun _ => false := by funext j; rfl
theorem there_succ {L : List Int} {k : Nat} (hk : k < L.length) : thereAt L (k + 1) = fun j => thereAt L k j || decide (rd L (k : Int) = (j : Int)) := by
  funext j
  have hr : rd L (k : Int) = L[k] := by
    simp only [rd, Int.toNat_natCast, List.getD_eq_getElem?_getD, List.getElem?_eq_getElem hk, Option.getD_some]
  unfold thereAt
  rw [List.take_succ_eq_append_getElem hk, List.any_append, hr]
  simp
theorem tab_get (f : Nat → Bool) {i : Nat} (h : i < 128) : (tabOf f)[i]? = some (.bool (f i)) := by
  unfold tabOf
  rw [List.getElem?_toArray, List.getElem?_map, List.getElem?_range h]
  rfl
theorem tab_set (f : Nat → Bool) {i : Nat} (h : i < 128) (g : Nat → Bool) (h1 : g i = true) (h2 : ∀ j, j ≠ i → g j = f j) : (tabOf f).setIfInBounds i (.bool true) = tabOf g := by
  apply Array.ext_getElem?
  intro j
  rw [Array.getElem?_setIfInBounds]
  have hs : (tabOf f).size = 128 := by simp [tabOf]
  by_cases hj : j < 128
  · rw [tab_get g hj]
    by_cases hij : i = j
    · subst hij
      rw [if_pos rfl, if_pos (by omega), h1]
    · rw [if_neg hij, tab_get f hj, h2 j (fun e => hij e.symm)]
  · have e1 : (tabOf f)[j]? = none := Array.getElem?_eq_none (by omega)
    have e2 : (tabOf g)[j]? = none := Array.getElem?_eq_none (by simp [tabOf]; omega)
    rw [e1, e2]
    by_cases hij : i = j
    · rw [if_pos hij, if_neg (by omega)]
    · rw [if_neg hij]
theorem least_ge (f : Nat → Bool) : ∀ (k n : Nat), n ≤ leastFrom f k n
  | 0, n => Nat.le_refl _
  | k + 1, n => by
    unfold leastFrom
    split
    · exact Nat.le_trans (by omega) (least_ge f k (n + 2))
    · exact Nat.le_refl _
theorem turns_stop (L : List Int) {least n : Nat} (h : n < least) (out : List Int) : turnsFrom L least n out = out := by
  cases n with
  | zero => rfl
  | succ n => rw [turnsFrom, if_neg (by omega)]

def order_Order.f (L : List Int) : Option (List Int × Int) := if L.length < 17592186044416 then (if L.all fineB = true then some (ordered L, 0) else some ([], 2)) else none

set_option maxRecDepth 100000 in
set_option maxHeartbeats 4000000 in
theorem order_Order.calls (A0 : Option Addr) (c0 : Nat) (L : List Int) (r1 : List Int) (r2 : Int) (w : World) (hr0 : Kd.C (Kd.int .i64) w A0 L.length L) (hc0 : L.length ≤ c0) (h : order_Order.f L = some (r1, r2)) :
    Calls Try.prog 43 #[.slice A0 L.length c0] w fun e w' => ∃ v0_ : Value, e = .returned (.tuple #[v0_, .int .i64 r2]) ∧ Kd.R (Kd.int .i64) 3 w' w.heap.size (fun _ => True) v0_ r1 ∧ Below w.heap.size w w' := by
  unfold order_Order.f at h
  by_cases hlen : L.length < 17592186044416
  · rw [if_pos hlen] at h
    have hfo := formed_is L (by omega)
    obtain ⟨b, hb⟩ : ∃ b, L.all fineB = b := ⟨_, rfl⟩
    rw [hb] at h hfo
    have HF := Aside0.mk hfo
    have HR := Aside0.mk hr0
    clear hfo hr0
    cases b with
    | false =>
      obtain ⟨rfl, rfl⟩ := Prod.mk.inj (Option.some.inj h)
      clear h
      go_enter Try.func43, Try.ntmps43
      go_wp2_with (go_at_call 62; refine (order_formed.calls _ A0 c0 L false w HR.out hc0 HF.out).mono ?_; rintro e w' ⟨rfl, ⟨nd, rfl⟩⟩)
      go_ret2
      exact ⟨_, rfl, Kd.R_nil _ _ _ _ _, pw_below_drewN (Below.refl _ _) nd⟩
    | true =>
      obtain ⟨h1, rfl⟩ := Prod.mk.inj (Option.some.inj h)
      clear h
      have H1 := Aside0.mk h1
      clear h1
      go_enter Try.func43, Try.ntmps43
      go_wp2_with (go_at_call 62; refine (order_formed.calls _ A0 c0 L true w HR.out hc0 HF.out).mono ?_; rintro e w' ⟨rfl, ⟨nd, rfl⟩⟩)
      have hT0 : ((w.drewN nd).alloc (.cells Try.zeroCells90 90)).heap[w.heap.size]? = some (.cells (tabOf fun _ => false) 90 (0, 0)) := by
        have := blk_new (w.drewN nd) (.cells Try.zeroCells90 90)
        rw [show tabOf (fun _ => false) = Try.zeroCells90 from by kernel_rfl]
        exact this
      have hB0 : Below w.heap.size w ((w.drewN nd).alloc (.cells Try.zeroCells90 90)) := below_alloc (pw_below_drewN (Below.refl _ _) nd) _
      obtain ⟨W0, hW0⟩ : ∃ W0, (w.drewN nd).alloc (.cells Try.zeroCells90 90) = W0 := ⟨_, rfl⟩
      rw [hW0] at hT0 hB0 ⊢
      have HT0 := Aside0.mk hT0
      have HB0 := Aside0.mk hB0
      clear hT0 hB0 hW0
      go_loopw [4, 16] (fun v i wr => ∃ k : Nat, i = .int .i64 (k : Int) ∧ k ≤ L.length ∧ Aside0 (Kd.R (Kd.int .i64) 3 wr w.heap.size (fun _ => True) v (seenAt L k)) ∧ Aside0 (wr.heap[w.heap.size]? = some (.cells (tabOf (thereAt L k)) 90 (0, 0))) ∧ Aside0 (Below w.heap.size w wr))
        (fun _ i _ => L.length - (intOf i).toNat)
      case atStart => exact ⟨0, rfl, Nat.zero_le _, ⟨Kd.R_nil _ _ _ _ _⟩, HT0, HB0⟩
      case round =>
        obtain ⟨k, rfl, hk, KO, KT, KB⟩ := hrel
        by_cases hlt : k < L.length
        · obtain ⟨ad, rfl, hcx⟩ := num_read64 (Kd.C_below HR.out KB.out) (k : Int) (by omega) (by omega)
          obtain ⟨x, hx⟩ : ∃ x, rd L (k : Int) = x := ⟨_, rfl⟩
          rw [hx, Int.toNat_natCast] at hcx
          by_cases h0 : 0 ≤ x
          · have hsl := seen_len L k
            have hx7 : x ≤ 127 := by
              have h1 := List.all_eq_true.1 hb L[k] (List.getElem_mem hlt)
              have h2 : rd L (k : Int) = L[k] := by
                simp only [rd, Int.toNat_natCast, List.getD_eq_getElem?_getD, List.getElem?_eq_getElem hlt, Option.getD_some]
              simp only [fineB, decide_eq_true_eq] at h1
              omega
            have hx9 : x.toNat < 128 := by omega
            have HX := Aside0.mk hx
            clear hx
            go_wp2_with ((with_reducible refine gate_builtin (b := .append) (xs := #[.tmp 23, .tmp 25]) rfl ?_); at_builtin; refine Kd.R_append (Kd.int .i64) (w0 := w) w.heap.size rfl (.tmp 23) (.tmp 25) 22 3 (.int .i64 0) 8 rfl Try.underlying22 info3 rfl (by decide) (by omega) _ (seenAt L k) (k : Int) [.int .i64 (k : Int)] (fun _ => True) (fun _ => False) rfl rfl rfl (fun _ hk => hk.elim) (fun _ _ => trivial) KO.out KB.out (below_size KB.out) (by omega) ?_; intro v1 w1 ho1 hb1 hg1 hat1; have KO1 := Aside0.mk ho1; have KB1 := Aside0.mk hb1; have KT1 := Aside0.mk (blk_grown KT.out hg1 (Kd.R_ne KO.out KT.out (by decide))); clear ho1 hb1 hg1 hat1; have hc1 := (blk_cell KT1.out x.toNat).trans (tab_get _ hx9); have hf1 := blk_frozen KT1.out x.toNat)
            go_roundw
            case rel =>
              refine ⟨k + 1, by go_num, by omega, ⟨?_⟩, ⟨?_⟩, ⟨KB1.out.setCell (p := ⟨w.heap.size, _, none⟩) (Nat.le_refl _) _⟩⟩
              · rw [seen_hit (by rw [HX.out]; exact h0)]
                exact Kd.R_set KO1.out KT1.out (by decide) _ _
              · refine blk_put KT1.out x.toNat _ (tab_set _ hx9 _ ?_ ?_)
                · rw [there_succ hlt, HX.out]
                  simp; omega
                · intro j hj
                  rw [there_succ hlt, HX.out]
                  dsimp only
                  rw [decide_eq_false (by omega), Bool.or_false]
            case measure => simp [intOf]; omega
          · have HX := Aside0.mk hx
            clear hx
            go_wp2
            go_roundw
            case rel =>
              have e1 : thereAt L (k + 1) = thereAt L k := by
                rw [there_succ hlt, HX.out]
                funext j
                rw [decide_eq_false (by omega), Bool.or_false]
              refine ⟨k + 1, by go_num, by omega, ⟨?_⟩, ⟨?_⟩, KB⟩
              · rw [seen_miss (by rw [HX.out]; exact h0)]
                exact KO.out
              · rw [e1]
                exact KT.out
            case measure => simp [intOf]; omega
        · obtain rfl : k = L.length := by omega
          obtain ⟨f, hf⟩ : ∃ f, thereAt L L.length = f := ⟨_, rfl⟩
          have KT' := KT.out
          rw [hf] at KT'
          have KF := Aside0.mk KT'
          have H2 : Aside0 (turnsFrom L (leastFrom f 64 1) (greatestFrom f 127) (seenAt L L.length) = r1) := ⟨by have := H1.out; unfold ordered at this; rwa [hf] at this⟩
          clear KT KT' hf H1 hk hlt HT0 HB0
          go_wp2
          go_loopw [8] (fun i w2 => ∃ (n fuel : Nat), i = .int .i64 (n : Int) ∧ n + 2 * fuel = 129 ∧ 1 ≤ n ∧ w2 = wr ∧ Aside0 (leastFrom f fuel n = leastFrom f 64 1)) (fun i _ => 129 - (intOf i).toNat)
          case atStart => exact ⟨1, 64, rfl, rfl, Nat.le_refl _, rfl, ⟨rfl⟩⟩
          case round =>
            obtain ⟨n, fuel, rfl, hnf, hn1, rfl, LF⟩ := hrel
            -- behind the loop: at either way out n is the least
            by_cases hn : n ≤ 127
            · have hcn := (blk_cell KF.out n).trans (tab_get f (by omega))
              obtain ⟨b, hbn⟩ : ∃ b, f n = b := ⟨_, rfl⟩
              rw [hbn] at hcn
              have HBN := Aside0.mk hbn
              clear hbn
              cases b with
              | false =>
                go_wp2
                go_roundw
                case rel =>
                  refine ⟨n + 2, fuel - 1, by go_num, by omega, by omega, trivial, ⟨?_⟩⟩
                  have := LF.out
                  obtain ⟨fl, rfl⟩ : ∃ fl, fuel = fl + 1 := ⟨fuel - 1, by omega⟩
                  rw [leastFrom, if_pos ⟨hn, HBN.out⟩] at this
                  exact this
                case measure => simp [intOf] <;> omega
              | true =>
                have HL : Aside0 (leastFrom f 64 1 = n) := ⟨by
                  have := LF.out
                  obtain ⟨fl, rfl⟩ : ∃ fl, fuel = fl + 1 := ⟨fuel - 1, by omega⟩
                  rw [leastFrom, if_neg (fun h => by rw [HBN.out] at h; exact absurd h.2 (by decide))] at this
                  exact this.symm⟩
                clear HBN LF
                go_wp2
                go_loopw [9] (fun i w2 => ∃ m : Nat, i = .int .i64 (m : Int) ∧ m ≤ 127 ∧ w2 = wr ∧ Aside0 (greatestFrom f m = greatestFrom f 127)) (fun i _ => (intOf i).toNat)
                case atStart => exact ⟨127, rfl, Nat.le_refl _, rfl, ⟨rfl⟩⟩
                case round =>
                  obtain ⟨m, rfl, hm, rfl, GF⟩ := hrel
                  by_cases hm0 : m = 0
                  · have HG : Aside0 (greatestFrom f 127 = m) := ⟨by
                      have := GF.out
                      rw [hm0] at this ⊢
                      exact this.symm⟩
                    have HM0 := Aside0.mk hm0
                    have hm1 : ¬ 0 < m := by omega
                    clear GF hm0
                    go_wp2
                    go_loopw [10] (fun i w2 => ∃ (q : Nat) (out : List Int), i = .int .i64 (q : Int) ∧ q ≤ 127 ∧ Aside0 (turnsFrom L n q out = r1) ∧ Aside0 (Kd.R (Kd.int .i64) 3 w2 w.heap.size (fun _ => True) u4 out) ∧ Aside0 (Below w.heap.size w w2) ∧ Aside0 (∀ x ∈ out, 0 ≤ x ∧ x < (L.length : Int)) ∧ Aside0 (out.length ≤ L.length))
                      (fun i _ => (intOf i + 1).toNat)
                    case atStart =>
                      refine ⟨m, seenAt L L.length, rfl, hm, ⟨?_⟩, KO, KB, ⟨fun x hx => ?_⟩, ⟨seen_len _ _⟩⟩
                      · have := H2.out
                        rw [HL.out, HG.out] at this
                        exact this
                      · obtain ⟨i, rfl, h1, -⟩ := seen_mem.1 hx
                        omega
                    case round =>
                      obtain ⟨q, out, rfl, hq, KQ, KO2, KB2, KI, KL⟩ := hrel
                      by_cases hnq : n ≤ q
                      · go_wp2_with (go_at_call 63; refine (order_turn.calls A0 c0 L out (q : Int) u4 w _ HR.out hc0 KB2.out KO2.out KI.out (by have := KL.out; omega)).mono ?_; rintro e w' ⟨rfl, ho', hb'⟩; have HO' := Aside0.mk ho'; have HB' := Aside0.mk hb'; clear ho' hb')
                        go_roundw
                        case rel =>
                          refine ⟨q - 1, turn L (q : Int) out, by congr 1; omega, by omega, ⟨?_⟩, HO', HB', ⟨fun x hx => KI.out x ?_⟩, ⟨?_⟩⟩
                          · have := KQ.out
                            obtain ⟨q', rfl⟩ : ∃ q', q = q' + 1 := ⟨q - 1, by omega⟩
                            rw [turnsFrom, if_pos hnq] at this
                            exact this
                          · have := (turnF_mem _ _ _ _).1 hx
                            simpa using this
                          · have := turnF_len (atLeast L (q : Int)) out []
                            have h2 := KL.out
                            unfold turn
                            rw [this]
                            simpa using h2
                        case measure => simp [intOf] <;> omega
                      · go_wp2
                        go_ret2
                        refine ⟨_, rfl, ?_, KB2.out⟩
                        have := KQ.out
                        rw [turns_stop L (by omega)] at this
                        rw [← this]
                        exact KO2.out
                  · have hm1 : 0 < m := by omega
                    have hcm := (blk_cell KF.out m).trans (tab_get f (by omega))
                    obtain ⟨b, hbm⟩ : ∃ b, f m = b := ⟨_, rfl⟩
                    rw [hbm] at hcm
                    have HBM := Aside0.mk hbm
                    clear hbm
                    cases b with
                    | false =>
                      go_wp2
                      go_roundw
                      case rel =>
                        refine ⟨m - 1, by congr 1; omega, by omega, trivial, ⟨?_⟩⟩
                        have := GF.out
                        obtain ⟨m', rfl⟩ : ∃ m', m = m' + 1 := ⟨m - 1, by omega⟩
                        rw [greatestFrom, if_pos HBM.out] at this
                        exact this
                      case measure => simp [intOf] <;> omega
                    | true =>
                      have HG : Aside0 (greatestFrom f 127 = m) := ⟨by
                        have := GF.out
                        obtain ⟨m', rfl⟩ : ∃ m', m = m' + 1 := ⟨m - 1, by omega⟩
                        rw [greatestFrom, if_neg (by rw [HBM.out]; decide)] at this
                        exact this.symm⟩
                      clear GF HBM
                      go_wp2
                      go_loopw [10] (fun i w2 => ∃ (q : Nat) (out : List Int), i = .int .i64 (q : Int) ∧ q ≤ 127 ∧ Aside0 (turnsFrom L n q out = r1) ∧ Aside0 (Kd.R (Kd.int .i64) 3 w2 w.heap.size (fun _ => True) u4 out) ∧ Aside0 (Below w.heap.size w w2) ∧ Aside0 (∀ x ∈ out, 0 ≤ x ∧ x < (L.length : Int)) ∧ Aside0 (out.length ≤ L.length))
                        (fun i _ => (intOf i + 1).toNat)
                      case atStart =>
                        refine ⟨m, seenAt L L.length, rfl, hm, ⟨?_⟩, KO, KB, ⟨fun x hx => ?_⟩, ⟨seen_len _ _⟩⟩
                        · have := H2.out
                          rw [HL.out, HG.out] at this
                          exact this
                        · obtain ⟨i, rfl, h1, -⟩ := seen_mem.1 hx
                          omega
                      case round =>
                        obtain ⟨q, out, rfl, hq, KQ, KO2, KB2, KI, KL⟩ := hrel
                        by_cases hnq : n ≤ q
                        · go_wp2_with (go_at_call 63; refine (order_turn.calls A0 c0 L out (q : Int) u4 w _ HR.out hc0 KB2.out KO2.out KI.out (by have := KL.out; omega)).mono ?_; rintro e w' ⟨rfl, ho', hb'⟩; have HO' := Aside0.mk ho'; have HB' := Aside0.mk hb'; clear ho' hb')
                          go_roundw
                          case rel =>
                            refine ⟨q - 1, turn L (q : Int) out, by congr 1; omega, by omega, ⟨?_⟩, HO', HB', ⟨fun x hx => KI.out x ?_⟩, ⟨?_⟩⟩
                            · have := KQ.out
                              obtain ⟨q', rfl⟩ : ∃ q', q = q' + 1 := ⟨q - 1, by omega⟩
                              rw [turnsFrom, if_pos hnq] at this
                              exact this
                            · have := (turnF_mem _ _ _ _).1 hx
                              simpa using this
                            · have := turnF_len (atLeast L (q : Int)) out []
                              have h2 := KL.out
                              unfold turn
                              rw [this]
                              simpa using h2
                          case measure => simp [intOf] <;> omega
                        · go_wp2
                          go_ret2
                          refine ⟨_, rfl, ?_, KB2.out⟩
                          have := KQ.out
                          rw [turns_stop L (by omega)] at this
                          rw [← this]
                          exact KO2.out
            · have HL : Aside0 (leastFrom f 64 1 = n) := ⟨by
                have := LF.out
                obtain rfl : fuel = 0 := by omega
                exact this.symm⟩
              clear LF
              go_wp2
              go_loopw [9] (fun i w2 => ∃ m : Nat, i = .int .i64 (m : Int) ∧ m ≤ 127 ∧ w2 = wr ∧ Aside0 (greatestFrom f m = greatestFrom f 127)) (fun i _ => (intOf i).toNat)
              case atStart => exact ⟨127, rfl, Nat.le_refl _, rfl, ⟨rfl⟩⟩
              case round =>
                obtain ⟨m, rfl, hm, rfl, GF⟩ := hrel
                by_cases hm0 : m = 0
                · have HG : Aside0 (greatestFrom f 127 = m) := ⟨by
                    have := GF.out
                    rw [hm0] at this ⊢
                    exact this.symm⟩
                  have HM0 := Aside0.mk hm0
                  have hm1 : ¬ 0 < m := by omega
                  clear GF hm0
                  go_wp2
                  go_loopw [10] (fun i w2 => ∃ (q : Nat) (out : List Int), i = .int .i64 (q : Int) ∧ q ≤ 127 ∧ Aside0 (turnsFrom L n q out = r1) ∧ Aside0 (Kd.R (Kd.int .i64) 3 w2 w.heap.size (fun _ => True) u4 out) ∧ Aside0 (Below w.heap.size w w2) ∧ Aside0 (∀ x ∈ out, 0 ≤ x ∧ x < (L.length : Int)) ∧ Aside0 (out.length ≤ L.length))
                    (fun i _ => (intOf i + 1).toNat)
                  case atStart =>
                    refine ⟨m, seenAt L L.length, rfl, hm, ⟨?_⟩, KO, KB, ⟨fun x hx => ?_⟩, ⟨seen_len _ _⟩⟩
                    · have := H2.out
                      rw [HL.out, HG.out] at this
                      exact this
                    · obtain ⟨i, rfl, h1, -⟩ := seen_mem.1 hx
                      omega
                  case round =>
                    obtain ⟨q, out, rfl, hq, KQ, KO2, KB2, KI, KL⟩ := hrel
                    by_cases hnq : n ≤ q
                    · go_wp2_with (go_at_call 63; refine (order_turn.calls A0 c0 L out (q : Int) u4 w _ HR.out hc0 KB2.out KO2.out KI.out (by have := KL.out; omega)).mono ?_; rintro e w' ⟨rfl, ho', hb'⟩; have HO' := Aside0.mk ho'; have HB' := Aside0.mk hb'; clear ho' hb')
                      go_roundw
                      case rel =>
                        refine ⟨q - 1, turn L (q : Int) out, by congr 1; omega, by omega, ⟨?_⟩, HO', HB', ⟨fun x hx => KI.out x ?_⟩, ⟨?_⟩⟩
                        · have := KQ.out
                          obtain ⟨q', rfl⟩ : ∃ q', q = q' + 1 := ⟨q - 1, by omega⟩
                          rw [turnsFrom, if_pos hnq] at this
                          exact this
                        · have := (turnF_mem _ _ _ _).1 hx
                          simpa using this
                        · have := turnF_len (atLeast L (q : Int)) out []
                          have h2 := KL.out
                          unfold turn
                          rw [this]
                          simpa using h2
                      case measure => simp [intOf] <;> omega
                    · go_wp2
                      go_ret2
                      refine ⟨_, rfl, ?_, KB2.out⟩
                      have := KQ.out
                      rw [turns_stop L (by omega)] at this
                      rw [← this]
                      exact KO2.out
                · have hm1 : 0 < m := by omega
                  have hcm := (blk_cell KF.out m).trans (tab_get f (by omega))
                  obtain ⟨b, hbm⟩ : ∃ b, f m = b := ⟨_, rfl⟩
                  rw [hbm] at hcm
                  have HBM := Aside0.mk hbm
                  clear hbm
                  cases b with
                  | false =>
                    go_wp2
                    go_roundw
                    case rel =>
                      refine ⟨m - 1, by congr 1; omega, by omega, trivial, ⟨?_⟩⟩
                      have := GF.out
                      obtain ⟨m', rfl⟩ : ∃ m', m = m' + 1 := ⟨m - 1, by omega⟩
                      rw [greatestFrom, if_pos HBM.out] at this
                      exact this
                    case measure => simp [intOf] <;> omega
                  | true =>
                    have HG : Aside0 (greatestFrom f 127 = m) := ⟨by
                      have := GF.out
                      obtain ⟨m', rfl⟩ : ∃ m', m = m' + 1 := ⟨m - 1, by omega⟩
                      rw [greatestFrom, if_neg (by rw [HBM.out]; decide)] at this
                      exact this.symm⟩
                    clear GF HBM
                    go_wp2
                    go_loopw [10] (fun i w2 => ∃ (q : Nat) (out : List Int), i = .int .i64 (q : Int) ∧ q ≤ 127 ∧ Aside0 (turnsFrom L n q out = r1) ∧ Aside0 (Kd.R (Kd.int .i64) 3 w2 w.heap.size (fun _ => True) u4 out) ∧ Aside0 (Below w.heap.size w w2) ∧ Aside0 (∀ x ∈ out, 0 ≤ x ∧ x < (L.length : Int)) ∧ Aside0 (out.length ≤ L.length))
                      (fun i _ => (intOf i + 1).toNat)
                    case atStart =>
                      refine ⟨m, seenAt L L.length, rfl, hm, ⟨?_⟩, KO, KB, ⟨fun x hx => ?_⟩, ⟨seen_len _ _⟩⟩
                      · have := H2.out
                        rw [HL.out, HG.out] at this
                        exact this
                      · obtain ⟨i, rfl, h1, -⟩ := seen_mem.1 hx
                        omega
                    case round =>
                      obtain ⟨q, out, rfl, hq, KQ, KO2, KB2, KI, KL⟩ := hrel
                      by_cases hnq : n ≤ q
                      · go_wp2_with (go_at_call 63; refine (order_turn.calls A0 c0 L out (q : Int) u4 w _ HR.out hc0 KB2.out KO2.out KI.out (by have := KL.out; omega)).mono ?_; rintro e w' ⟨rfl, ho', hb'⟩; have HO' := Aside0.mk ho'; have HB' := Aside0.mk hb'; clear ho' hb')
                        go_roundw
                        case rel =>
                          refine ⟨q - 1, turn L (q : Int) out, by congr 1; omega, by omega, ⟨?_⟩, HO', HB', ⟨fun x hx => KI.out x ?_⟩, ⟨?_⟩⟩
                          · have := KQ.out
                            obtain ⟨q', rfl⟩ : ∃ q', q = q' + 1 := ⟨q - 1, by omega⟩
                            rw [turnsFrom, if_pos hnq] at this
                            exact this
                          · have := (turnF_mem _ _ _ _).1 hx
                            simpa using this
                          · have := turnF_len (atLeast L (q : Int)) out []
                            have h2 := KL.out
                            unfold turn
                            rw [this]
                            simpa using h2
                        case measure => simp [intOf] <;> omega
                      · go_wp2
                        go_ret2
                        refine ⟨_, rfl, ?_, KB2.out⟩
                        have := KQ.out
                        rw [turns_stop L (by omega)] at this
                        rw [← this]
                        exact KO2.out
  · rw [if_neg hlen] at h
    cases h
end Go.Proofs.Ytccleelhheilnaa.F
