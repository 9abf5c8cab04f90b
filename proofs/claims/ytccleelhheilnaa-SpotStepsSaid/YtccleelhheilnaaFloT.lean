/- Floats that stand for whole numbers within +-2^52: sums, differences and comparisons of them are exact. -/
import Derived.Laws.ComplexArith
import Derived.KernelRfl
namespace Go.Proofs.Ytccleelhheilnaa.Flo
open Go
/-- both lie strictly within +-2^52 -/
def smA (x y : Int) : Bool := decide (-4503599627370496 < x) && decide (x < 4503599627370496) && (decide (-4503599627370496 < y) && decide (y < 4503599627370496))
theorem smA_iff {x y : Int} : smA x y = true ↔ (-4503599627370496 < x ∧ x < 4503599627370496) ∧ (-4503599627370496 < y ∧ y < 4503599627370496) := by
  simp [smA]

theorem pow_split {a b : Nat} (h : a ≤ b) : (2 : Nat) ^ b = 2 ^ a * 2 ^ (b - a) := by
  rw [← Nat.pow_add]
  congr 1
  omega
theorem cut_whole (neg : Bool) (q d : Nat) (hd : d ≤ (q * 2 ^ d).log2 + 2) : Ieee.Toward.even.cut neg (q * 2 ^ d) d = q := by
  unfold Ieee.Toward.cut
  have e : min d ((q * 2 ^ d).log2 + 2) = d := Nat.min_eq_left hd
  have p : 0 < 2 ^ d := Nat.two_pow_pos d
  rw [e, Nat.one_shiftLeft]
  dsimp only
  rw [Nat.mul_div_cancel _ p, Nat.mul_mod_left]

  simp
theorem log2_mul_pow {n : Nat} (hn : n ≠ 0) (e : Nat) : (n * 2 ^ e).log2 = n.log2 + e := by
  have h1 := (Nat.log2_eq_iff hn).1 rfl
  have p : 0 < 2 ^ e := Nat.two_pow_pos e
  have hne : n * 2 ^ e ≠ 0 := by
    have := Nat.mul_pos (Nat.pos_of_ne_zero hn) p
    omega
  refine (Nat.log2_eq_iff hne).2 ⟨?_, ?_⟩
  · rw [Nat.pow_add]
    exact Nat.mul_le_mul_right _ h1.1
  · rw [show n.log2 + e + 1 = (n.log2 + 1) + e by omega, Nat.pow_add]
    exact Nat.mul_lt_mul_of_pos_right h1.2 p
/-- the rung of a number that is written at any finer place -/
theorem nearest_fine (neg : Bool) (n e : Nat) (h0 : n ≠ 0) (hn : n < 9007199254740992) :
    Ieee.double.nearest neg (n * 2 ^ e) (-(e : Int)) = Ieee.double.word neg ((n.log2 + 1022) * 2 ^ 52 + n * 2 ^ (52 - n.log2)) := by
  have hlog : n.log2 ≤ 52 := by
    have := (Nat.log2_lt h0 (k := 53)).2 (by simpa using hn)
    omega
  have p : 0 < 2 ^ e := Nat.two_pow_pos e
  have hne : n * 2 ^ e ≠ 0 := by
    have := Nat.mul_pos (Nat.pos_of_ne_zero h0) p
    omega
  have hl := log2_mul_pow h0 e
  have h1 := (Nat.log2_eq_iff h0).1 rfl
  unfold Ieee.Format.nearest
  rw [if_neg hne]
  have elast : max (-(e : Int) + (n * 2 ^ e).log2 - (Ieee.double.fractionBits : Int)) Ieee.double.leastPlace = (n.log2 : Int) - 52 := by
    rw [hl]
    have : Ieee.double.leastPlace = -1074 := by decide +kernel
    have : (Ieee.double.fractionBits : Int) = 52 := rfl
    omega
  simp only [elast]
  have ekept : Ieee.Toward.even.cut neg ((n * 2 ^ e) <<< (-(e : Int) - ((n.log2 : Int) - 52)).toNat) (((n.log2 : Int) - 52) - -(e : Int)).toNat = n * 2 ^ (52 - n.log2) := by
    rw [Nat.shiftLeft_eq]
    by_cases hc : e ≤ 52 - n.log2
    · have a1 : (-(e : Int) - ((n.log2 : Int) - 52)).toNat = 52 - n.log2 - e := by omega
      have a2 : (((n.log2 : Int) - 52) - -(e : Int)).toNat = 0 := by omega
      rw [a1, a2, Nat.mul_assoc, ← pow_split hc]
      have := cut_whole neg (n * 2 ^ (52 - n.log2)) 0 (by omega)
      simpa using this
    · have a1 : (-(e : Int) - ((n.log2 : Int) - 52)).toNat = 0 := by omega
      have a2 : (((n.log2 : Int) - 52) - -(e : Int)).toNat = e - (52 - n.log2) := by omega
      rw [a1, a2, Nat.pow_zero, Nat.mul_one, pow_split (a := 52 - n.log2) (b := e) (by omega), ← Nat.mul_assoc]
      refine cut_whole neg (n * 2 ^ (52 - n.log2)) (e - (52 - n.log2)) ?_
      rw [Nat.mul_assoc, ← pow_split (by omega), hl]
      omega
  rw [ekept]
  have : Ieee.double.leastPlace = -1074 := by decide +kernel
  have e3 : ((n.log2 : Int) - 52 - Ieee.double.leastPlace).toNat = n.log2 + 1022 := by omega
  have e4 : Ieee.double.binade = 2 ^ 52 := rfl
  have e5 : Ieee.double.infRung = 2047 * 2 ^ 52 := by decide +kernel
  have hk : n * 2 ^ (52 - n.log2) < 2 ^ 53 := by
    have : (2 : Nat) ^ 53 = 2 ^ (n.log2 + 1) * 2 ^ (52 - n.log2) := by
      rw [← Nat.pow_add]
      congr 1
      omega
    rw [this]
    exact Nat.mul_lt_mul_of_pos_right h1.2 (Nat.two_pow_pos _)
  rw [e3, e4, e5]
  congr 1
  refine Nat.min_eq_left ?_
  omega
theorem nearest_zero (neg : Bool) (e : Int) : Ieee.double.nearest neg 0 e = Ieee.double.word neg 0 := by
  unfold Ieee.Format.nearest
  rw [if_pos rfl]
/-- what is read of the word of a whole number -/
theorem read_whole (neg : Bool) (n : Nat) (hn : n < 9007199254740992) (hz : n = 0 → neg = false) :
    ∃ e : Nat, Ieee.double.read (Ieee.double.nearest neg n 0) = .number neg (n * 2 ^ e) (-(e : Int)) := by
  by_cases h0 : n = 0
  · subst h0
    rw [hz rfl]
    refine ⟨1074, ?_⟩
    rw [nearest_zero]
    decide +kernel
  · have hlog : n.log2 ≤ 52 := by
      have := (Nat.log2_lt h0 (k := 53)).2 (by simpa using hn)
      omega
    have h1 := (Nat.log2_eq_iff h0).1 rfl
    have hf := nearest_fine neg n 0 h0 hn
    simp only [Nat.pow_zero, Nat.mul_one, Int.natCast_zero, Int.neg_zero] at hf
    refine ⟨52 - n.log2, ?_⟩
    rw [hf]
    have lo : 2 ^ 52 ≤ n * 2 ^ (52 - n.log2) := by
      have : (2 : Nat) ^ 52 = 2 ^ n.log2 * 2 ^ (52 - n.log2) := pow_split hlog
      rw [this]
      exact Nat.mul_le_mul_right _ h1.1
    have hi : n * 2 ^ (52 - n.log2) < 2 ^ 53 := by
      have : (2 : Nat) ^ 53 = 2 ^ (n.log2 + 1) * 2 ^ (52 - n.log2) := by
        rw [← Nat.pow_add]
        congr 1
        omega
      rw [this]
      exact Nat.mul_lt_mul_of_pos_right h1.2 (Nat.two_pow_pos _)
    generalize hq : n * 2 ^ (52 - n.log2) = q at lo hi ⊢
    generalize hL : n.log2 = L at hlog ⊢
    have r0 : Ieee.double.signWeight = 9223372036854775808 := by decide +kernel
    have r1 : Ieee.double.binade = 4503599627370496 := by decide +kernel
    have r2 : Ieee.double.infRung = 9218868437227405312 := by decide +kernel
    have r3 : Ieee.double.leastPlace = -1074 := by decide +kernel
    have hw : Ieee.double.word neg ((L + 1022) * 2 ^ 52 + q) / 9223372036854775808 % 2 = neg.toNat ∧ Ieee.double.word neg ((L + 1022) * 2 ^ 52 + q) % 9223372036854775808 = (L + 1022) * 4503599627370496 + q := by
      unfold Ieee.Format.word
      rw [r0]
      have hb : (L + 1022) * 2 ^ 52 + q = (L + 1022) * 4503599627370496 + q := rfl
      rw [hb]
      cases neg
      · rw [if_neg (by decide)]
        constructor
        · show _ = 0
          omega
        · omega
      · rw [if_pos rfl]
        constructor
        · show _ = 1
          omega
        · omega
    unfold Ieee.Format.read
    simp only [r0, r1, r2, r3, hw.1, hw.2]
    rw [if_neg (by omega), if_pos (by omega)]
    have a1 : ((L + 1022) * 4503599627370496 + q) % 4503599627370496 = q - 4503599627370496 := by omega
    have a2 : ((L + 1022) * 4503599627370496 + q) / 4503599627370496 = L + 1023 := by omega
    rw [a1, a2]
    have a3 : (neg.toNat == 1) = neg := by cases neg <;> rfl
    have b1 : 4503599627370496 + (q - 4503599627370496) = q := by omega
    have b2 : (-1074 : Int) + ((L + 1023 - 1 : Nat) : Int) = -((52 - L : Nat) : Int) := by omega
    rw [a3, b1, b2]
theorem fi_eq (x : Int) : floatOfInt .f64 x = Ieee.double.nearest (decide (x < 0)) x.natAbs 0 := rfl
theorem read_fi {x : Int} (h : -9007199254740992 < x ∧ x < 9007199254740992) :
    ∃ e : Nat, Ieee.double.read (floatOfInt .f64 x) = .number (decide (x < 0)) (x.natAbs * 2 ^ e) (-(e : Int)) := by
  rw [fi_eq]
  exact read_whole _ _ (by omega) (fun hz => by simp; omega)
theorem signed_abs (x : Int) (s : Bool) (hs : x ≠ 0 → s = decide (x < 0)) (e k : Nat) : Ieee.signed s (x.natAbs * 2 ^ e) k = x * 2 ^ (e + k) := by
  unfold Ieee.signed
  rw [Nat.shiftLeft_eq, Nat.mul_assoc, ← Nat.pow_add]
  by_cases hx : x = 0
  · subst hx
    cases s <;> simp
  · rw [hs hx]
    by_cases hn : x < 0
    · have : ((x.natAbs : Nat) : Int) = -x := by omega
      simp [hn, this, Int.neg_mul]
    · have : ((x.natAbs : Nat) : Int) = x := by omega
      simp [hn, this]
theorem mul_pow_eq_zero (z : Int) (k : Nat) : z * 2 ^ k = 0 ↔ z = 0 := by
  constructor
  · intro h
    rcases Int.mul_eq_zero.1 h with h | h
    · exact h
    · exact absurd h (Int.pow_ne_zero (by omega))
  · intro h
    rw [h, Int.zero_mul]
theorem mul_pow_neg (z : Int) (k : Nat) : z * 2 ^ k < 0 ↔ z < 0 := by
  have p : (0 : Int) < 2 ^ k := Int.pow_pos (by omega)
  constructor
  · intro h
    by_cases hz : z < 0
    · exact hz
    · have := Int.mul_nonneg (a := z) (b := 2 ^ k) (by omega) (by omega)
      omega
  · intro h
    have := Int.mul_pos (a := -z) (b := 2 ^ k) (by omega) p
    rw [Int.neg_mul] at this
    omega
/-- the written sum -/
theorem write_sum (z : Int) (hz : -9007199254740992 < z ∧ z < 9007199254740992) (k : Nat) (s : Bool) (hs : z = 0 → s = false) :
    Ieee.double.write (.number (if z * 2 ^ k = 0 then s else decide (z * 2 ^ k < 0)) (z * 2 ^ k).natAbs (-(k : Int))) = floatOfInt .f64 z := by
  rw [fi_eq]
  show Ieee.double.nearest _ _ _ = _
  have hm : (z * 2 ^ k).natAbs = z.natAbs * 2 ^ k := by
    rw [Int.natAbs_mul, Int.natAbs_pow]
    rfl
  rw [hm]
  by_cases h0 : z = 0
  · subst h0
    rw [hs rfl]
    simp [nearest_zero]
  · rw [if_neg (fun h => h0 ((mul_pow_eq_zero z k).1 h))]
    have e1 : decide (z * 2 ^ k < 0) = decide (z < 0) := by
      by_cases h : z < 0
      · rw [decide_eq_true h, decide_eq_true ((mul_pow_neg z k).2 h)]
      · rw [decide_eq_false h, decide_eq_false (fun g => h ((mul_pow_neg z k).1 g))]
    rw [e1]
    have a := nearest_fine (decide (z < 0)) z.natAbs k (by omega) (by omega)
    have b := nearest_fine (decide (z < 0)) z.natAbs 0 (by omega) (by omega)
    simp only [Nat.pow_zero, Nat.mul_one, Int.natCast_zero, Int.neg_zero] at b
    rw [a, b]
theorem min_base (a b : Nat) : min (-(a : Int)) (-(b : Int)) = -((max a b : Nat) : Int) := by omega
theorem up_a (a b : Nat) : (-(a : Int) - -((max a b : Nat) : Int)).toNat = max a b - a := by omega
theorem up_b (a b : Nat) : (-(b : Int) - -((max a b : Nat) : Int)).toNat = max a b - b := by omega
theorem at_a (a b : Nat) : a + (max a b - a) = max a b := by omega
theorem at_b (a b : Nat) : b + (max a b - b) = max a b := by omega

theorem add_exact {x y : Int} (h : smA x y = true) : floatBits .add .f64 (floatOfInt .f64 x) (floatOfInt .f64 y) = some (floatOfInt .f64 (x + y)) := by
  have hb := smA_iff.1 h
  obtain ⟨a, ha⟩ := read_fi (x := x) (by omega)
  obtain ⟨b, hb'⟩ := read_fi (x := y) (by omega)
  show Ieee.Format.add Ieee.double _ _ = _
  unfold Ieee.Format.add
  rw [ha, hb']
  unfold Ieee.Datum.sum
  simp only [Option.map_some, min_base, up_a, up_b]
  rw [signed_abs x _ (fun _ => rfl), signed_abs y _ (fun _ => rfl), at_a, at_b, ← Int.add_mul]
  exact congrArg some (write_sum (x + y) (by omega) _ _ (fun hz => by
    by_cases h1 : x < 0
    · have : ¬ y < 0 := by omega
      simp [this]
    · simp [h1]))
theorem sub_exact {x y : Int} (h : smA x y = true) : floatBits .sub .f64 (floatOfInt .f64 x) (floatOfInt .f64 y) = some (floatOfInt .f64 (x - y)) := by
  have hb := smA_iff.1 h
  obtain ⟨a, ha⟩ := read_fi (x := x) (by omega)
  obtain ⟨b, hb'⟩ := read_fi (x := y) (by omega)
  show Ieee.Format.sub Ieee.double _ _ = _
  unfold Ieee.Format.sub
  rw [ha, hb']
  unfold Ieee.Datum.opposite Ieee.Datum.sum
  simp only [Option.map_some, min_base, up_a, up_b]
  have e : y.natAbs = (-y).natAbs := by omega
  rw [e, signed_abs x _ (fun _ => rfl), signed_abs (-y) _ (fun hy => by
    by_cases h1 : y < 0
    · have : ¬ (-y < 0) := by omega
      simp [h1]
      omega
    · have : -y < 0 := by omega
      simp [h1]
      omega), at_a, at_b, ← Int.add_mul]
  exact congrArg some (write_sum (x - y) (by omega) _ _ (fun hz => by
    by_cases h1 : x < 0
    · have : y < 0 := by omega
      simp [this]
    · simp [h1]))
theorem compare_mul (x y : Int) (k : Nat) : (compare (x * 2 ^ k) (y * 2 ^ k) == .eq) = (x == y) := by
  have p : (2 : Int) ^ k ≠ 0 := Int.pow_ne_zero (by omega)
  rw [Bool.eq_iff_iff]
  simp only [beq_iff_eq]
  constructor
  · intro h
    have : x * 2 ^ k = y * 2 ^ k := by
      exact Std.LawfulEqCmp.eq_of_compare h
    exact Int.eq_of_mul_eq_mul_right p this
  · intro h
    subst h
    exact Std.ReflCmp.compare_self
theorem some_beq (o : Ordering) : ((some o : Option Ordering) == some .eq) = (o == .eq) := by cases o <;> rfl
theorem order_exact {x y : Int} (h : smA x y = true) : (FloatKind.f64.format.order (floatOfInt .f64 x) (floatOfInt .f64 y) == some .eq) = (x == y) := by
  have hb := smA_iff.1 h
  obtain ⟨a, ha⟩ := read_fi (x := x) (by omega)
  obtain ⟨b, hb'⟩ := read_fi (x := y) (by omega)
  show (Ieee.Format.order Ieee.double _ _ == _) = _
  unfold Ieee.Format.order
  rw [ha, hb']
  unfold Ieee.Datum.order
  simp only [min_base, up_a, up_b]
  rw [signed_abs x _ (fun _ => rfl), signed_abs y _ (fun _ => rfl), at_a, at_b, some_beq, compare_mul]
theorem read_flip (b : Nat) : Ieee.double.read (b ^^^ 2 ^ 63) = (Ieee.double.read b).opposite := by
  have r0 : Ieee.double.signWeight = 2 ^ 63 := rfl
  have m : (b ^^^ 2 ^ 63) % 2 ^ 63 = b % 2 ^ 63 := by
    rw [Nat.xor_mod_two_pow, Nat.mod_self, Nat.xor_zero]
  have d : ((b ^^^ 2 ^ 63) / 2 ^ 63 % 2 == 1) = !(b / 2 ^ 63 % 2 == 1) := by
    rw [Nat.xor_div_two_pow, Nat.div_self (Nat.two_pow_pos _)]
    generalize b / 2 ^ 63 = q
    have := Nat.xor_mod_two_pow (a := q) (b := 1) (n := 1)
    simp only [Nat.pow_one] at this
    rw [this]
    rcases Nat.mod_two_eq_zero_or_one q with h | h <;> rw [h] <;> rfl
  unfold Ieee.Format.read
  simp only [r0, m, d]
  split
  · rfl
  · split
    · rfl
    · split <;> rfl
theorem order_neg {x y : Int} (h : smA x y = true) : (FloatKind.f64.format.order (floatOfInt .f64 x) (Op.negFloat .f64 (floatOfInt .f64 y)) == some .eq) = (x == -y) := by
  have hb := smA_iff.1 h
  obtain ⟨a, ha⟩ := read_fi (x := x) (by omega)
  obtain ⟨b, hb'⟩ := read_fi (x := y) (by omega)
  have e : Op.negFloat .f64 (floatOfInt .f64 y) = floatOfInt .f64 y ^^^ 2 ^ 63 := rfl
  rw [e]
  show (Ieee.Format.order Ieee.double _ _ == _) = _
  unfold Ieee.Format.order
  rw [ha, read_flip, hb']
  unfold Ieee.Datum.opposite Ieee.Datum.order
  simp only [min_base, up_a, up_b]
  have e : y.natAbs = (-y).natAbs := by omega
  rw [e, signed_abs x _ (fun _ => rfl), signed_abs (-y) _ (fun hy => by
    by_cases h1 : y < 0
    · simp [h1]
      omega
    · simp [h1]
      omega), at_a, at_b, some_beq, compare_mul]
end Go.Proofs.Ytccleelhheilnaa.Flo
