/- What order.Order tells, over lists alone: the places that are seen, each once, each ahead of another one as the least level between the two says. -/
import Derived.Test.YtccleelhheilnaaFGOrd
namespace Go.Proofs.Ytccleelhheilnaa.Pure
set_option linter.unusedVariables false
set_option linter.unusedSimpArgs false
open Go.RowKit Go.Proofs.Ytccleelhheilnaa.F Go.Proofs.YtccleelhheilnaaW.PrintWords Go.Proofs.YtccleelhheilnaaW.PrintLast

/-! ### The least level between two places -/
def lev (L : List Int) (k : Nat) : Int := L.getD k 0
def low (L : List Int) (i : Nat) : Nat → Int
  | 0 => lev L i
  | d + 1 => if 0 ≤ lev L (i + d + 1) ∧ lev L (i + d + 1) < low L i d then lev L (i + d + 1) else low L i d
theorem low_le (L : List Int) (i : Nat) : ∀ (d k : Nat), k ≤ d → 0 ≤ lev L (i + k) → low L i d ≤ lev L (i + k)
  | 0, k, hk, _ => by obtain rfl : k = 0 := by omega
                      exact Int.le_refl _
  | d + 1, k, hk, h => by
    simp only [low]
    by_cases hkd : k = d + 1
    · subst hkd
      split
      · exact Int.le_refl _
      · rename_i hn
        have e : i + (d + 1) = i + d + 1 := rfl
        rw [e] at h ⊢
        omega
    · have := low_le L i d k (by omega) h
      split
      · omega
      · exact this
theorem low_mem (L : List Int) (i : Nat) (hi : 0 ≤ lev L i) : ∀ (d : Nat), ∃ k, k ≤ d ∧ 0 ≤ lev L (i + k) ∧ low L i d = lev L (i + k)
  | 0 => ⟨0, Nat.le_refl _, hi, rfl⟩
  | d + 1 => by
    simp only [low]
    split
    · rename_i h
      exact ⟨d + 1, Nat.le_refl _, h.1, rfl⟩
    · obtain ⟨k, h1, h2, h3⟩ := low_mem L i hi d
      exact ⟨k, by omega, h2, h3⟩
def mm (L : List Int) (x y : Int) : Int := low L (min x.toNat y.toNat) (max x.toNat y.toNat - min x.toNat y.toNat)
theorem mm_comm (L : List Int) (x y : Int) : mm L x y = mm L y x := by unfold mm; rw [Nat.min_comm, Nat.max_comm]
/-- a place that is seen -/
def isSeen (L : List Int) (x : Int) : Prop := 0 ≤ x ∧ x < (L.length : Int) ∧ 0 ≤ rd L x
theorem mm_le {L : List Int} {x y z : Int} (hx : 0 ≤ x) (hy : 0 ≤ y) (hz : isSeen L z) (h : (x ≤ z ∧ z ≤ y) ∨ (y ≤ z ∧ z ≤ x)) : mm L x y ≤ rd L z := by
  have h1 : min x.toNat y.toNat ≤ z.toNat := by omega
  have h2 : z.toNat ≤ max x.toNat y.toNat := by omega
  have e : min x.toNat y.toNat + (z.toNat - min x.toNat y.toNat) = z.toNat := by omega
  have := low_le L (min x.toNat y.toNat) (max x.toNat y.toNat - min x.toNat y.toNat) (z.toNat - min x.toNat y.toNat) (by omega) (by rw [e]; exact hz.2.2)
  rw [e] at this
  exact this
theorem mm_mem {L : List Int} {x y : Int} (hx : isSeen L x) (hy : isSeen L y) : ∃ z, isSeen L z ∧ ((x ≤ z ∧ z ≤ y) ∨ (y ≤ z ∧ z ≤ x)) ∧ mm L x y = rd L z := by
  have hs : 0 ≤ lev L (min x.toNat y.toNat) := by
    rcases Nat.le_total x.toNat y.toNat with h | h
    · rw [Nat.min_eq_left h]; exact hx.2.2
    · rw [Nat.min_eq_right h]; exact hy.2.2
  obtain ⟨k, h1, h2, h3⟩ := low_mem L (min x.toNat y.toNat) hs (max x.toNat y.toNat - min x.toNat y.toNat)
  obtain ⟨hx0, hx1, hx2⟩ := hx
  obtain ⟨hy0, hy1, hy2⟩ := hy
  refine ⟨((min x.toNat y.toNat + k : Nat) : Int), ⟨by omega, by omega, ?_⟩, by omega, ?_⟩
  · show 0 ≤ L.getD (((min x.toNat y.toNat + k : Nat) : Int)).toNat 0
    rw [Int.toNat_natCast]
    exact h2
  · show _ = L.getD (((min x.toNat y.toNat + k : Nat) : Int)).toNat 0
    rw [Int.toNat_natCast]
    exact h3

/-! ### Turning about, pair by pair -/
/-- With all stretches of levels from n on turned about, x stands ahead of y. -/
def Rel (L : List Int) (n x y : Int) : Prop := if n ≤ mm L x y ∧ (mm L x y - n) % 2 = 0 then y < x else x < y

def Cont (p : Int → Bool) (S : Int → Int → Prop) : List Int → Prop
  | [] => True
  | x :: t => (p x = true → (∀ y ∈ t.takeWhile p, S x y) ∧ (∀ y ∈ t.dropWhile p, ¬ S x y)) ∧ (p x = false → ∀ y ∈ t, ¬ S x y) ∧ Cont p S t

theorem turnF_pairs (p : Int → Bool) (S N : Int → Int → Prop) : ∀ (l acc : List Int), acc.Pairwise N → (∀ a ∈ acc, ∀ b ∈ l, (¬ S a b → N a b) ∧ (S a b → N b a)) →
    (∀ a ∈ acc, (∀ y ∈ l.takeWhile p, S a y) ∧ (∀ y ∈ l.dropWhile p, ¬ S a y)) → l.Pairwise (fun a b => (¬ S a b → N a b) ∧ (S a b → N b a)) → Cont p S l → (turnF p l acc).Pairwise N
  | [], acc, h1, _, _, _, _ => h1
  | x :: l, acc, h1, h2, h3, h4, h5 => by
    obtain ⟨c1, c2, c3⟩ := h5
    obtain ⟨q1, q2⟩ := List.pairwise_cons.1 h4
    unfold turnF
    cases hp : p x with
    | true =>
      rw [if_pos rfl]
      refine turnF_pairs p S N l (x :: acc) ?_ ?_ ?_ q2 c3
      · refine List.pairwise_cons.2 ⟨fun a ha => ?_, h1⟩
        exact (h2 a ha x (by simp)).2 ((h3 a ha).1 x (by simp [hp]))
      · intro a ha b hb
        rcases List.mem_cons.1 ha with rfl | ha
        · exact q1 b hb
        · exact h2 a ha b (by simp [hb])
      · intro a ha
        rcases List.mem_cons.1 ha with rfl | ha
        · exact c1 hp
        · have := h3 a ha
          simp only [List.takeWhile_cons, List.dropWhile_cons, hp, if_true] at this
          exact ⟨fun y hy => this.1 y (by simp [hy]), this.2⟩
    | false =>
      rw [if_neg (by decide)]
      have hd : (x :: l).dropWhile p = x :: l := by simp [hp]
      refine List.pairwise_append.2 ⟨h1, List.pairwise_cons.2 ⟨fun b hb => ?_, turnF_pairs p S N l [] List.Pairwise.nil (fun a ha => by simp at ha) (fun a ha => by simp at ha) q2 c3⟩, fun a ha b hb => ?_⟩
      · have hb' : b ∈ l := by have := (turnF_mem p l [] b).1 hb; simpa using this
        exact (q1 b hb').1 (c2 hp b hb')
      · have hb' : b ∈ x :: l := by
          rcases List.mem_cons.1 hb with rfl | hb
          · simp
          · have := (turnF_mem p l [] b).1 hb
            simp at this
            simp [this]
        exact (h2 a ha b hb').1 ((h3 a ha).2 b (by rw [hd]; exact hb'))

theorem takeWhile_imp {p : Int → Bool} : ∀ {l : List Int} {x : Int}, x ∈ l.takeWhile p → p x = true
  | [], x, h => by simp at h
  | y :: l, x, h => by
    cases hy : p y with
    | true =>
      simp only [List.takeWhile_cons, hy, if_true] at h
      rcases List.mem_cons.1 h with rfl | h
      · exact hy
      · exact takeWhile_imp h
    | false => simp [hy] at h
theorem rel_plain {L : List Int} {n x y : Int} (h : mm L x y < n) (hr : Rel L n x y) : x < y := by
  unfold Rel at hr
  rwa [if_neg (by omega)] at hr

theorem cont_of (L : List Int) (n : Int) (out : List Int) (hs : ∀ x, x ∈ out ↔ isSeen L x) (hP : out.Pairwise (Rel L (n + 1))) : ∀ (pre t : List Int), out = pre ++ t → Cont (atLeast L n) (fun x y => n ≤ mm L x y) t
  | _, [], _ => trivial
  | pre, x :: t, ho => by
    have hx : isSeen L x := (hs x).1 (by rw [ho]; simp)
    have hP' := hP
    rw [ho] at hP'
    obtain ⟨-, p1, p2⟩ := List.pairwise_append.1 hP'
    obtain ⟨p3, p4⟩ := List.pairwise_cons.1 p1
    have hlow : ∀ y, isSeen L y → atLeast L n y = false → rd L y < n := fun y _ h => by simp only [atLeast, decide_eq_false_iff_not] at h; omega
    have hhigh : ∀ y, atLeast L n y = true → n ≤ rd L y := fun y h => by simpa [atLeast] using h
    refine ⟨fun hpx => ⟨?_, ?_⟩, ?_, cont_of L n out hs hP (pre ++ [x]) t (by rw [ho]; simp)⟩
    · intro y hy
      -- y stands in the stretch behind x
      have hyt : y ∈ t := (List.takeWhile_sublist _).subset hy
      have hys : isSeen L y := (hs y).1 (by rw [ho]; simp [hyt])
      have hpy : atLeast L n y = true := takeWhile_imp hy
      rcases Int.lt_or_le (mm L x y) n with hlt | hge
      · exfalso
        have hxy := rel_plain (by omega) (p3 y hyt)
        obtain ⟨z, hz, hzb, hze⟩ := mm_mem hx hys
        have hzl : rd L z < n := by omega
        have hzx : z ≠ x := fun e => by have := hhigh x hpx; rw [e] at hzl; omega
        have hzy : z ≠ y := fun e => by have := hhigh y hpy; rw [e] at hzl; omega
        have hzn : atLeast L n z = false := by simp only [atLeast, decide_eq_false_iff_not]; omega
        have hzo := (hs z).2 hz
        obtain ⟨t1, t2, ht⟩ := List.append_of_mem hy
        have htt : t = (t1 ++ y :: t2) ++ t.dropWhile (atLeast L n) := by rw [← ht]; exact (List.takeWhile_append_dropWhile).symm
        rw [ho] at hzo
        rcases List.mem_append.1 hzo with h | h
        · have := rel_plain (Int.lt_of_le_of_lt (mm_le hz.1 hx.1 hz (by omega)) (by omega)) (p2 z h x (by simp))
          omega
        · rcases List.mem_cons.1 h with h | h
          · exact hzx h
          · rw [htt, List.append_assoc] at h
            rcases List.mem_append.1 h with h | h
            · have : z ∈ t.takeWhile (atLeast L n) := by rw [ht]; simp [h]
              have := takeWhile_imp this
              rw [hzn] at this
              exact absurd this (by decide)
            · rw [List.cons_append] at h
              rcases List.mem_cons.1 h with h | h
              · exact hzy h
              · rw [htt, List.append_assoc, List.cons_append] at p4
                obtain ⟨-, p5, -⟩ := List.pairwise_append.1 p4
                have := rel_plain (Int.lt_of_le_of_lt (mm_le hys.1 hz.1 hz (by omega)) (by omega)) ((List.pairwise_cons.1 p5).1 z h)
                omega
      · exact hge
    · intro y hy hge
      have hyt : y ∈ t := (List.dropWhile_sublist _).subset hy
      have hys : isSeen L y := (hs y).1 (by rw [ho]; simp [hyt])
      -- the first of a lesser level
      obtain ⟨v, r, hr⟩ : ∃ v r, t.dropWhile (atLeast L n) = v :: r := List.exists_cons_of_ne_nil (List.ne_nil_of_mem hy)
      have hvp : atLeast L n v = false := by
        have := List.head?_dropWhile_not (atLeast L n) t
        rw [hr] at this
        simpa using this
      have htt : t = t.takeWhile (atLeast L n) ++ v :: r := by rw [← hr]; exact (List.takeWhile_append_dropWhile).symm
      have hvt : v ∈ t := by rw [htt]; simp
      have hvs : isSeen L v := (hs v).1 (by rw [ho]; simp [hvt])
      have hvl := hlow v hvs hvp
      have hxv := rel_plain (Int.lt_of_le_of_lt (mm_le hx.1 hvs.1 hvs (by omega)) (by omega)) (p3 v hvt)
      rw [hr] at hy
      rcases List.mem_cons.1 hy with rfl | hy
      · have := mm_le (y := y) hx.1 hvs.1 hvs (by omega)
        omega
      · rw [htt] at p4
        obtain ⟨-, p5, -⟩ := List.pairwise_append.1 p4
        have hvy := rel_plain (Int.lt_of_le_of_lt (mm_le hvs.1 hys.1 hvs (by omega)) (by omega)) ((List.pairwise_cons.1 p5).1 y hy)
        have := mm_le (L := L) (x := x) (y := y) hx.1 hys.1 hvs (by omega)
        omega
    · intro hpx y hyt hge
      have hys : isSeen L y := (hs y).1 (by rw [ho]; simp [hyt])
      have h1 := hlow x hx hpx
      have := mm_le (L := L) (x := x) (y := y) hx.1 hys.1 hx (by omega)
      omega

theorem turn_mem (L : List Int) (n : Int) (out : List Int) (x : Int) : x ∈ turn L n out ↔ x ∈ out := by
  unfold turn
  rw [turnF_mem]
  simp
/-- One level more. -/
theorem turn_rel (L : List Int) (n : Int) (out : List Int) (hs : ∀ x, x ∈ out ↔ isSeen L x) (hP : out.Pairwise (Rel L (n + 1))) : (turn L n out).Pairwise (Rel L n) := by
  unfold turn
  refine turnF_pairs _ (fun x y => n ≤ mm L x y) _ out [] List.Pairwise.nil (fun a ha => by simp at ha) (fun a ha => by simp at ha) ?_ (cont_of L n out hs hP [] out rfl)
  refine hP.imp fun {a b} hab => ⟨fun hn => ?_, fun hn => ?_⟩
  · have := rel_plain (by omega) hab
    unfold Rel
    rw [if_neg (by omega)]
    exact this
  · unfold Rel at hab ⊢
    rw [mm_comm L b a]
    split at hab
    · rw [if_neg (by omega)]; exact hab
    · split
      · exact hab
      · omega

/-- x stands further left than y. -/
def Lf (L : List Int) (x y : Int) : Prop := if mm L x y % 2 = 1 then y < x else x < y

theorem seen_iff (L : List Int) (x : Int) : x ∈ seenAt L L.length ↔ isSeen L x := by
  rw [seen_mem]
  constructor
  · rintro ⟨i, rfl, h1, h2⟩
    exact ⟨by omega, by omega, h2⟩
  · rintro ⟨h1, h2, h3⟩
    exact ⟨x.toNat, by omega, by omega, h3⟩
theorem there_iff (L : List Int) (j : Nat) : thereAt L L.length j = true ↔ ∃ k, k < L.length ∧ lev L k = (j : Int) := by
  unfold thereAt
  rw [List.take_length, List.any_eq_true]
  constructor
  · rintro ⟨x, hx, h⟩
    obtain ⟨k, hk, rfl⟩ := List.getElem_of_mem hx
    exact ⟨k, hk, by simp only [lev, List.getD_eq_getElem?_getD, List.getElem?_eq_getElem hk, Option.getD_some]; simpa using h⟩
  · rintro ⟨k, hk, h⟩
    refine ⟨L[k], List.getElem_mem hk, ?_⟩
    simp only [lev, List.getD_eq_getElem?_getD, List.getElem?_eq_getElem hk, Option.getD_some] at h
    simpa using h

theorem least_odd (f : Nat → Bool) : ∀ (k n : Nat), n % 2 = 1 → leastFrom f k n % 2 = 1
  | 0, n, h => h
  | k + 1, n, h => by
    unfold leastFrom
    split
    · exact least_odd f k (n + 2) (by omega)
    · exact h
theorem least_low (f : Nat → Bool) : ∀ (k n j : Nat), n % 2 = 1 → j % 2 = 1 → n ≤ j → j ≤ 127 → f j = true → leastFrom f k n ≤ j
  | 0, n, j, _, _, h, _, _ => h
  | k + 1, n, j, h1, h2, h3, h4, h5 => by
    unfold leastFrom
    split
    · rename_i h
      have : n ≠ j := fun e => by rw [e, h5] at h; exact absurd h.2 (by decide)
      exact least_low f k (n + 2) j (by omega) h2 (by omega) h4 h5
    · exact h3
theorem greatest_high (f : Nat → Bool) : ∀ (n j : Nat), j ≤ n → f j = true → j ≤ greatestFrom f n
  | 0, j, h, _ => by omega
  | n + 1, j, h, hf => by
    unfold greatestFrom
    split
    · rename_i hn
      have : j ≠ n + 1 := fun e => by rw [e, hn] at hf; exact absurd hf (by decide)
      exact greatest_high f n j (by omega) hf
    · exact h

theorem turns_mem (L : List Int) (least : Nat) : ∀ (n : Nat) (out : List Int) (x : Int), x ∈ turnsFrom L least n out ↔ x ∈ out
  | 0, out, x => Iff.rfl
  | n + 1, out, x => by
    unfold turnsFrom
    split
    · rw [turns_mem L least n, turn_mem]
    · exact Iff.rfl
theorem turns_len (L : List Int) (least : Nat) : ∀ (n : Nat) (out : List Int), (turnsFrom L least n out).length = out.length
  | 0, out => rfl
  | n + 1, out => by
    unfold turnsFrom
    split
    · rw [turns_len L least n]
      unfold turn
      rw [turnF_len]
      rfl
    · rfl

theorem turns_rel (L : List Int) (least : Nat) (ho : least % 2 = 1) (hodd : ∀ x, isSeen L x → rd L x % 2 = 1 → (least : Int) ≤ rd L x) : ∀ (n : Nat) (out : List Int), (∀ x, x ∈ out ↔ isSeen L x) → out.Pairwise (Rel L ((n : Int) + 1)) → (least ≤ n + 1 ∨ ∀ x, isSeen L x → rd L x ≤ (n : Int)) → (turnsFrom L least n out).Pairwise (Lf L)
  | 0, out, hs, hP, hc => by
    show out.Pairwise (Lf L)
    refine List.Pairwise.imp_of_mem ?_ hP
    intro a b ha hb hab
    have sa := (hs a).1 ha
    have sb := (hs b).1 hb
    obtain ⟨z, hz, -, he⟩ := mm_mem sa sb
    unfold Rel at hab
    unfold Lf
    have h1 := hodd z hz
    rw [← he] at h1
    have h0 := hz.2.2
    rw [← he] at h0
    rcases hc with hc | hc
    · obtain rfl : least = 1 := by omega
      by_cases hm : mm L a b % 2 = 1
      · rw [if_pos hm]; rw [if_pos (by omega)] at hab; exact hab
      · rw [if_neg hm]; rw [if_neg (by omega)] at hab; exact hab
    · have h2 := hc z hz
      rw [← he] at h2
      rw [if_neg (by omega)] at hab ⊢
      exact hab
  | n + 1, out, hs, hP, hc => by
    unfold turnsFrom
    split
    · rename_i hle
      refine turns_rel L least ho hodd n _ (fun x => (turn_mem L _ out x).trans (hs x)) ?_ (.inl (by omega))
      have := turn_rel L ((n + 1 : Nat) : Int) out hs hP
      have e : ((n + 1 : Nat) : Int) = (n : Int) + 1 := by omega
      rw [e] at this ⊢
      exact this
    · rename_i hle
      refine List.Pairwise.imp_of_mem ?_ hP
      intro a b ha hb hab
      have sa := (hs a).1 ha
      have sb := (hs b).1 hb
      obtain ⟨z, hz, -, he⟩ := mm_mem sa sb
      unfold Rel at hab
      unfold Lf
      have h1 := hodd z hz
      rw [← he] at h1
      have h0 := hz.2.2
      rw [← he] at h0
      rcases hc with hc | hc
      · have hl : least = n + 1 + 1 := by omega
        by_cases hm : mm L a b % 2 = 1
        · rw [if_pos hm]; rw [if_pos (by omega)] at hab; exact hab
        · rw [if_neg hm]; rw [if_neg (by omega)] at hab; exact hab
      · have h2 := hc z hz
        rw [← he] at h2
        rw [if_neg (by omega)] at hab ⊢
        exact hab

theorem seen_pairs (L : List Int) : ∀ k, (seenAt L k).Pairwise (· < ·)
  | 0 => by simp [seenAt]
  | k + 1 => by
    by_cases h : 0 ≤ rd L (k : Int)
    · rw [seen_hit h]
      refine List.pairwise_append.2 ⟨seen_pairs L k, by simp, fun a ha b hb => ?_⟩
      obtain ⟨i, rfl, h1, -⟩ := seen_mem.1 ha
      simp only [List.mem_singleton] at hb
      omega
    · rw [seen_miss h]
      exact seen_pairs L k

theorem ordered_mem (L : List Int) (x : Int) : x ∈ ordered L ↔ isSeen L x := by
  unfold ordered
  rw [turns_mem, seen_iff]
theorem ordered_len (L : List Int) : (ordered L).length = (seenAt L L.length).length := by
  unfold ordered
  rw [turns_len]
theorem fine_le {L : List Int} (h : L.all fineB = true) {x : Int} (hx : isSeen L x) : rd L x ≤ 127 := by
  obtain ⟨h0, h1, -⟩ := hx
  have hlt : x.toNat < L.length := by omega
  have := List.all_eq_true.1 h L[x.toNat] (List.getElem_mem hlt)
  simp only [fineB, decide_eq_true_eq] at this
  simp only [rd, List.getD_eq_getElem?_getD, List.getElem?_eq_getElem hlt, Option.getD_some]
  omega
/-- The order: of any two places, the one that stands further left comes first. -/
theorem ordered_pairs {L : List Int} (h : L.all fineB = true) : (ordered L).Pairwise (Lf L) := by
  unfold ordered
  have hpres : ∀ x, isSeen L x → thereAt L L.length (rd L x).toNat = true := fun x hx => (there_iff L _).2 ⟨x.toNat, by have := hx.2.1; have := hx.1; omega, by have := hx.2.2; show rd L x = _; omega⟩
  refine turns_rel L _ (least_odd _ _ _ rfl) ?_ _ _ (seen_iff L) ?_ (.inr ?_)
  · intro x hx hodd
    have h1 := fine_le h hx
    have h2 := hx.2.2
    have := least_low (thereAt L L.length) 64 1 (rd L x).toNat rfl (by omega) (by omega) (by omega) (hpres x hx)
    omega
  · refine List.Pairwise.imp_of_mem ?_ (seen_pairs L L.length)
    intro a b ha hb hab
    have sa := (seen_iff L a).1 ha
    have sb := (seen_iff L b).1 hb
    obtain ⟨z, hz, -, he⟩ := mm_mem sa sb
    have h1 := fine_le h hz
    have h2 := hz.2.2
    have h3 := greatest_high (thereAt L L.length) 127 (rd L z).toNat (by omega) (hpres z hz)
    unfold Rel
    rw [if_neg (by omega)]
    exact hab
  · intro x hx
    have h1 := fine_le h hx
    have h2 := hx.2.2
    have h3 := greatest_high (thereAt L L.length) 127 (rd L x).toNat (by omega) (hpres x hx)
    omega
theorem Lf_irrefl (L : List Int) (x : Int) : ¬ Lf L x x := by unfold Lf; split <;> omega
theorem Lf_total {L : List Int} {x y : Int} (h : x ≠ y) : Lf L x y ∨ Lf L y x := by unfold Lf; rw [mm_comm L y x]; split <;> omega
theorem Lf_asymm {L : List Int} {x y : Int} (h : Lf L x y) : ¬ Lf L y x := by unfold Lf at *; rw [mm_comm L y x]; split at h <;> split <;> omega
theorem ordered_nodup {L : List Int} (h : L.all fineB = true) : (ordered L).Nodup := (ordered_pairs h).imp fun {a b} hab e => by rw [e] at hab; exact Lf_irrefl L b hab
/-- A list of all the places that are seen, so ordered, is the order. -/
theorem pairs_unique {R : Int → Int → Prop} (ha : ∀ x y, R x y → ¬ R y x) : ∀ (l m : List Int), l.Pairwise R → m.Pairwise R → (∀ x, x ∈ l ↔ x ∈ m) → l = m
  | [], m, _, _, h => by
    cases m with
    | nil => rfl
    | cons y m => exact absurd ((h y).2 (by simp)) (by simp)
  | x :: l, m, hl, hm, h => by
    cases m with
    | nil => exact absurd ((h x).1 (by simp)) (by simp)
    | cons y m =>
      obtain ⟨l1, l2⟩ := List.pairwise_cons.1 hl
      obtain ⟨m1, m2⟩ := List.pairwise_cons.1 hm
      have irr : ∀ z, ¬ R z z := fun z hz => ha z z hz hz
      have exy : x = y := by
        rcases List.mem_cons.1 ((h x).1 (by simp)) with e | hx
        · exact e
        · rcases List.mem_cons.1 ((h y).2 (by simp)) with e | hy
          · exact e.symm
          · exact absurd (l1 y hy) (ha _ _ (m1 x hx))
      subst exy
      congr 1
      refine pairs_unique ha l m l2 m2 fun z => ?_
      have := h z
      simp only [List.mem_cons] at this
      constructor
      · intro hz
        rcases this.1 (.inr hz) with e | e
        · subst e; exact absurd (l1 z hz) (irr z)
        · exact e
      · intro hz
        rcases this.2 (.inr hz) with e | e
        · subst e; exact absurd (m1 z hz) (irr z)
        · exact e
end Go.Proofs.Ytccleelhheilnaa.Pure
