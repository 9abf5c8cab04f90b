/- ucd.Mirror by their contracts: map literals, a look-up, a range over a map. -/
import Derived.Test.YtccleelhheilnaaFx0
import Derived.WalkSpells
import Derived.WalkLawsBesides
import Derived.Laws.IdiomRangeMap
namespace Go.Proofs.Ytccleelhheilnaa.F
set_option linter.unusedVariables false
set_option linter.unusedSimpArgs false
open Go.RowKit Go.Proofs.YtccleelhheilnaaW.PrintWords Go.Proofs.YtccleelhheilnaaW.PrintLast Go.Proofs.YtccleelhheilnaaW.PrintMore

/-! ### A map literal of numbers -/
def ent (i : Nat) (p : Int × Int) : MapEntry := { key := .int .i32 p.1, val := .int .i32 p.2, born := i }
def entsF : Nat → List (Int × Int) → List MapEntry
  | _, [] => []
  | n, p :: l => ent n p :: entsF (n + 1) l
def mapOf (l : List (Int × Int)) : Obj := .map (entsF 0 l).toArray l.length
theorem entsF_append (l m : List (Int × Int)) : ∀ n, entsF n (l ++ m) = entsF n l ++ entsF (n + l.length) m := by
  induction l with
  | nil => intro n; simp [entsF]
  | cons p l ih => intro n; simp only [List.cons_append, entsF, ih, List.length_cons]; rw [show n + 1 + l.length = n + (l.length + 1) from by omega]
theorem entsF_length (l : List (Int × Int)) : ∀ n, (entsF n l).length = l.length := by
  induction l with
  | nil => intro n; rfl
  | cons p l ih => intro n; simp [entsF, ih]
theorem findNow_ents (r : Int) (l : List (Int × Int)) : ∀ n i, match l.find? (fun p => r == p.1) with
    | some p => ∃ j, Instr.findNow (.int .i32) (.int .i32 r) (entsF n l) i = some (some (j, .int .i32 p.2))
    | none => Instr.findNow (.int .i32) (.int .i32 r) (entsF n l) i = some none := by
  induction l with
  | nil => intro n i; simp [entsF, Instr.findNow]
  | cons p l ih =>
    intro n i
    cases h : r == p.1 with
    | true => rw [List.find?_cons, h]; exact ⟨i, by simp [entsF, ent, Instr.findNow, Instr.sameNow, h]⟩
    | false =>
      rw [List.find?_cons, h]
      have := ih (n + 1) (i + 1)
      simpa [entsF, ent, Instr.findNow, Instr.sameNow, h] using this
theorem run_map_insert (l : List (Int × Int)) (a v : Int) (w : World) (h : l.all (fun p => a != p.1) = true) :
    (Instr.mapUpdate 102 (.map (some w.heap.size)) (.int .i32 a) (.int .i32 v)).run Try.prog (w.alloc (mapOf l)) = .ok () (w.alloc (mapOf (l ++ [(a, v)]))) := by
  have hf : l.find? (fun p => a == p.1) = none := by
    rw [List.find?_eq_none]
    intro p hp
    have := List.all_eq_true.1 h p hp
    simpa using this
  have h1 := findNow_ents a l 0 0
  rw [hf] at h1
  have hg : (getObj w.heap.size).run Try.prog (w.alloc (mapOf l)) = .ok (mapOf l) (w.alloc (mapOf l)) := by simp only [getObj, Sem.run, heap_alloc_new, mapOf]
  have hc : (Instr.checkKey false 10000 21 (.int .i32 a)).run Try.prog (w.alloc (mapOf l)) = .ok () (w.alloc (mapOf l)) := by
    unfold Instr.checkKey
    simp only [Sem.run_bind, run_underlying Try.underlying21, Result.andThen_ok]
    rfl
  have hk : (Instr.findKey 21 (.int .i32 a) (entsF 0 l)).run Try.prog (w.alloc (mapOf l)) = .ok none (w.alloc (mapOf l)) := by
    unfold Instr.findKey
    simp only [Sem.run_bind, run_underlying Try.underlying21, Result.andThen_ok, h1]
    rfl
  unfold Instr.mapUpdate
  simp only [Sem.run_bind, run_underlying Try.underlying102, Result.andThen_ok, hg]
  unfold mapOf at hg hc hk ⊢
  simp only [Sem.run_bind, hc, hk, Result.andThen_ok]
  have he : (entsF 0 l).toArray.push { key := .int .i32 a, val := .int .i32 v, born := l.length } = (entsF 0 (l ++ [(a, v)])).toArray := by
    rw [entsF_append]; simp [entsF, ent]
  simp only [he, List.length_append, List.length_cons, List.length_nil, Nat.zero_add]
  simp only [setObj, Sem.run, heap_alloc_new]
  show Result.ok () ({ w.alloc _ with heap := (w.heap.push _).setIfInBounds w.heap.size _ } : World) = _
  have hp : ∀ (h : Array Obj) (x y : Obj), (h.push x).setIfInBounds h.size y = h.push y := by
    intro h x y; apply Array.toList_inj.1; simp
  rw [hp]
  rfl

def pairs1 : List (Int × Int) := [(40, 41), (91, 93), (123, 125), (8261, 8262), (8317, 8318), (8333, 8334), (9001, 9002), (10214, 10215), (10216, 10217), (10218, 10219), (10220, 10221), (10222, 10223),
  (12296, 12297), (12298, 12299), (12300, 12301), (12302, 12303), (12304, 12305), (12308, 12309), (12310, 12311), (12312, 12313), (12314, 12315)]
def pairs2 : List (Int × Int) := [(60, 62), (171, 187), (8249, 8250), (8712, 8715), (8804, 8805), (8806, 8807), (8810, 8811), (8822, 8823), (8834, 8835), (8838, 8839)]

set_option maxHeartbeats 4000000 in
theorem partners_any (w : World) : Calls Try.prog 75 #[] w fun e w' => e = .returned (.map (some w.heap.size)) ∧ w.alloc (mapOf pairs1) = w' := by
  have hmm := @run_makeMap Try.prog
  have hm0 : w.alloc (.map #[] 0) = w.alloc (mapOf []) := rfl
  have i0 : (Instr.mapUpdate 102 (.map (some w.heap.size)) (.int .i32 40) (.int .i32 41)).run Try.prog (w.alloc (mapOf [])) = .ok () (w.alloc (mapOf [(40, 41)])) := run_map_insert [] 40 41 w (by decide)
  have i1 : (Instr.mapUpdate 102 (.map (some w.heap.size)) (.int .i32 91) (.int .i32 93)).run Try.prog (w.alloc (mapOf [(40, 41)])) = .ok () (w.alloc (mapOf [(40, 41), (91, 93)])) := run_map_insert [(40, 41)] 91 93 w (by decide)
  have i2 : (Instr.mapUpdate 102 (.map (some w.heap.size)) (.int .i32 123) (.int .i32 125)).run Try.prog (w.alloc (mapOf [(40, 41), (91, 93)])) = .ok () (w.alloc (mapOf [(40, 41), (91, 93), (123, 125)])) := run_map_insert [(40, 41), (91, 93)] 123 125 w (by decide)
  have i3 : (Instr.mapUpdate 102 (.map (some w.heap.size)) (.int .i32 8261) (.int .i32 8262)).run Try.prog (w.alloc (mapOf [(40, 41), (91, 93), (123, 125)])) = .ok () (w.alloc (mapOf [(40, 41), (91, 93), (123, 125), (8261, 8262)])) := run_map_insert [(40, 41), (91, 93), (123, 125)] 8261 8262 w (by decide)
  have i4 : (Instr.mapUpdate 102 (.map (some w.heap.size)) (.int .i32 8317) (.int .i32 8318)).run Try.prog (w.alloc (mapOf [(40, 41), (91, 93), (123, 125), (8261, 8262)])) = .ok () (w.alloc (mapOf [(40, 41), (91, 93), (123, 125), (8261, 8262), (8317, 8318)])) := run_map_insert [(40, 41), (91, 93), (123, 125), (8261, 8262)] 8317 8318 w (by decide)
  have i5 : (Instr.mapUpdate 102 (.map (some w.heap.size)) (.int .i32 8333) (.int .i32 8334)).run Try.prog (w.alloc (mapOf [(40, 41), (91, 93), (123, 125), (8261, 8262), (8317, 8318)])) = .ok () (w.alloc (mapOf [(40, 41), (91, 93), (123, 125), (8261, 8262), (8317, 8318), (8333, 8334)])) := run_map_insert [(40, 41), (91, 93), (123, 125), (8261, 8262), (8317, 8318)] 8333 8334 w (by decide)
  have i6 : (Instr.mapUpdate 102 (.map (some w.heap.size)) (.int .i32 9001) (.int .i32 9002)).run Try.prog (w.alloc (mapOf [(40, 41), (91, 93), (123, 125), (8261, 8262), (8317, 8318), (8333, 8334)])) = .ok () (w.alloc (mapOf [(40, 41), (91, 93), (123, 125), (8261, 8262), (8317, 8318), (8333, 8334), (9001, 9002)])) := run_map_insert [(40, 41), (91, 93), (123, 125), (8261, 8262), (8317, 8318), (8333, 8334)] 9001 9002 w (by decide)
  have i7 : (Instr.mapUpdate 102 (.map (some w.heap.size)) (.int .i32 10214) (.int .i32 10215)).run Try.prog (w.alloc (mapOf [(40, 41), (91, 93), (123, 125), (8261, 8262), (8317, 8318), (8333, 8334), (9001, 9002)])) = .ok () (w.alloc (mapOf [(40, 41), (91, 93), (123, 125), (8261, 8262), (8317, 8318), (8333, 8334), (9001, 9002), (10214, 10215)])) := run_map_insert [(40, 41), (91, 93), (123, 125), (8261, 8262), (8317, 8318), (8333, 8334), (9001, 9002)] 10214 10215 w (by decide)
  have i8 : (Instr.mapUpdate 102 (.map (some w.heap.size)) (.int .i32 10216) (.int .i32 10217)).run Try.prog (w.alloc (mapOf [(40, 41), (91, 93), (123, 125), (8261, 8262), (8317, 8318), (8333, 8334), (9001, 9002), (10214, 10215)])) = .ok () (w.alloc (mapOf [(40, 41), (91, 93), (123, 125), (8261, 8262), (8317, 8318), (8333, 8334), (9001, 9002), (10214, 10215), (10216, 10217)])) := run_map_insert [(40, 41), (91, 93), (123, 125), (8261, 8262), (8317, 8318), (8333, 8334), (9001, 9002), (10214, 10215)] 10216 10217 w (by decide)
  have i9 : (Instr.mapUpdate 102 (.map (some w.heap.size)) (.int .i32 10218) (.int .i32 10219)).run Try.prog (w.alloc (mapOf [(40, 41), (91, 93), (123, 125), (8261, 8262), (8317, 8318), (8333, 8334), (9001, 9002), (10214, 10215), (10216, 10217)])) = .ok () (w.alloc (mapOf [(40, 41), (91, 93), (123, 125), (8261, 8262), (8317, 8318), (8333, 8334), (9001, 9002), (10214, 10215), (10216, 10217), (10218, 10219)])) := run_map_insert [(40, 41), (91, 93), (123, 125), (8261, 8262), (8317, 8318), (8333, 8334), (9001, 9002), (10214, 10215), (10216, 10217)] 10218 10219 w (by decide)
  have i10 : (Instr.mapUpdate 102 (.map (some w.heap.size)) (.int .i32 10220) (.int .i32 10221)).run Try.prog (w.alloc (mapOf [(40, 41), (91, 93), (123, 125), (8261, 8262), (8317, 8318), (8333, 8334), (9001, 9002), (10214, 10215), (10216, 10217), (10218, 10219)])) = .ok () (w.alloc (mapOf [(40, 41), (91, 93), (123, 125), (8261, 8262), (8317, 8318), (8333, 8334), (9001, 9002), (10214, 10215), (10216, 10217), (10218, 10219), (10220, 10221)])) := run_map_insert [(40, 41), (91, 93), (123, 125), (8261, 8262), (8317, 8318), (8333, 8334), (9001, 9002), (10214, 10215), (10216, 10217), (10218, 10219)] 10220 10221 w (by decide)
  have i11 : (Instr.mapUpdate 102 (.map (some w.heap.size)) (.int .i32 10222) (.int .i32 10223)).run Try.prog (w.alloc (mapOf [(40, 41), (91, 93), (123, 125), (8261, 8262), (8317, 8318), (8333, 8334), (9001, 9002), (10214, 10215), (10216, 10217), (10218, 10219), (10220, 10221)])) = .ok () (w.alloc (mapOf [(40, 41), (91, 93), (123, 125), (8261, 8262), (8317, 8318), (8333, 8334), (9001, 9002), (10214, 10215), (10216, 10217), (10218, 10219), (10220, 10221), (10222, 10223)])) := run_map_insert [(40, 41), (91, 93), (123, 125), (8261, 8262), (8317, 8318), (8333, 8334), (9001, 9002), (10214, 10215), (10216, 10217), (10218, 10219), (10220, 10221)] 10222 10223 w (by decide)
  have i12 : (Instr.mapUpdate 102 (.map (some w.heap.size)) (.int .i32 12296) (.int .i32 12297)).run Try.prog (w.alloc (mapOf [(40, 41), (91, 93), (123, 125), (8261, 8262), (8317, 8318), (8333, 8334), (9001, 9002), (10214, 10215), (10216, 10217), (10218, 10219), (10220, 10221), (10222, 10223)])) = .ok () (w.alloc (mapOf [(40, 41), (91, 93), (123, 125), (8261, 8262), (8317, 8318), (8333, 8334), (9001, 9002), (10214, 10215), (10216, 10217), (10218, 10219), (10220, 10221), (10222, 10223), (12296, 12297)])) := run_map_insert [(40, 41), (91, 93), (123, 125), (8261, 8262), (8317, 8318), (8333, 8334), (9001, 9002), (10214, 10215), (10216, 10217), (10218, 10219), (10220, 10221), (10222, 10223)] 12296 12297 w (by decide)
  have i13 : (Instr.mapUpdate 102 (.map (some w.heap.size)) (.int .i32 12298) (.int .i32 12299)).run Try.prog (w.alloc (mapOf [(40, 41), (91, 93), (123, 125), (8261, 8262), (8317, 8318), (8333, 8334), (9001, 9002), (10214, 10215), (10216, 10217), (10218, 10219), (10220, 10221), (10222, 10223), (12296, 12297)])) = .ok () (w.alloc (mapOf [(40, 41), (91, 93), (123, 125), (8261, 8262), (8317, 8318), (8333, 8334), (9001, 9002), (10214, 10215), (10216, 10217), (10218, 10219), (10220, 10221), (10222, 10223), (12296, 12297), (12298, 12299)])) := run_map_insert [(40, 41), (91, 93), (123, 125), (8261, 8262), (8317, 8318), (8333, 8334), (9001, 9002), (10214, 10215), (10216, 10217), (10218, 10219), (10220, 10221), (10222, 10223), (12296, 12297)] 12298 12299 w (by decide)
  have i14 : (Instr.mapUpdate 102 (.map (some w.heap.size)) (.int .i32 12300) (.int .i32 12301)).run Try.prog (w.alloc (mapOf [(40, 41), (91, 93), (123, 125), (8261, 8262), (8317, 8318), (8333, 8334), (9001, 9002), (10214, 10215), (10216, 10217), (10218, 10219), (10220, 10221), (10222, 10223), (12296, 12297), (12298, 12299)])) = .ok () (w.alloc (mapOf [(40, 41), (91, 93), (123, 125), (8261, 8262), (8317, 8318), (8333, 8334), (9001, 9002), (10214, 10215), (10216, 10217), (10218, 10219), (10220, 10221), (10222, 10223), (12296, 12297), (12298, 12299), (12300, 12301)])) := run_map_insert [(40, 41), (91, 93), (123, 125), (8261, 8262), (8317, 8318), (8333, 8334), (9001, 9002), (10214, 10215), (10216, 10217), (10218, 10219), (10220, 10221), (10222, 10223), (12296, 12297), (12298, 12299)] 12300 12301 w (by decide)
  have i15 : (Instr.mapUpdate 102 (.map (some w.heap.size)) (.int .i32 12302) (.int .i32 12303)).run Try.prog (w.alloc (mapOf [(40, 41), (91, 93), (123, 125), (8261, 8262), (8317, 8318), (8333, 8334), (9001, 9002), (10214, 10215), (10216, 10217), (10218, 10219), (10220, 10221), (10222, 10223), (12296, 12297), (12298, 12299), (12300, 12301)])) = .ok () (w.alloc (mapOf [(40, 41), (91, 93), (123, 125), (8261, 8262), (8317, 8318), (8333, 8334), (9001, 9002), (10214, 10215), (10216, 10217), (10218, 10219), (10220, 10221), (10222, 10223), (12296, 12297), (12298, 12299), (12300, 12301), (12302, 12303)])) := run_map_insert [(40, 41), (91, 93), (123, 125), (8261, 8262), (8317, 8318), (8333, 8334), (9001, 9002), (10214, 10215), (10216, 10217), (10218, 10219), (10220, 10221), (10222, 10223), (12296, 12297), (12298, 12299), (12300, 12301)] 12302 12303 w (by decide)
  have i16 : (Instr.mapUpdate 102 (.map (some w.heap.size)) (.int .i32 12304) (.int .i32 12305)).run Try.prog (w.alloc (mapOf [(40, 41), (91, 93), (123, 125), (8261, 8262), (8317, 8318), (8333, 8334), (9001, 9002), (10214, 10215), (10216, 10217), (10218, 10219), (10220, 10221), (10222, 10223), (12296, 12297), (12298, 12299), (12300, 12301), (12302, 12303)])) = .ok () (w.alloc (mapOf [(40, 41), (91, 93), (123, 125), (8261, 8262), (8317, 8318), (8333, 8334), (9001, 9002), (10214, 10215), (10216, 10217), (10218, 10219), (10220, 10221), (10222, 10223), (12296, 12297), (12298, 12299), (12300, 12301), (12302, 12303), (12304, 12305)])) := run_map_insert [(40, 41), (91, 93), (123, 125), (8261, 8262), (8317, 8318), (8333, 8334), (9001, 9002), (10214, 10215), (10216, 10217), (10218, 10219), (10220, 10221), (10222, 10223), (12296, 12297), (12298, 12299), (12300, 12301), (12302, 12303)] 12304 12305 w (by decide)
  have i17 : (Instr.mapUpdate 102 (.map (some w.heap.size)) (.int .i32 12308) (.int .i32 12309)).run Try.prog (w.alloc (mapOf [(40, 41), (91, 93), (123, 125), (8261, 8262), (8317, 8318), (8333, 8334), (9001, 9002), (10214, 10215), (10216, 10217), (10218, 10219), (10220, 10221), (10222, 10223), (12296, 12297), (12298, 12299), (12300, 12301), (12302, 12303), (12304, 12305)])) = .ok () (w.alloc (mapOf [(40, 41), (91, 93), (123, 125), (8261, 8262), (8317, 8318), (8333, 8334), (9001, 9002), (10214, 10215), (10216, 10217), (10218, 10219), (10220, 10221), (10222, 10223), (12296, 12297), (12298, 12299), (12300, 12301), (12302, 12303), (12304, 12305), (12308, 12309)])) := run_map_insert [(40, 41), (91, 93), (123, 125), (8261, 8262), (8317, 8318), (8333, 8334), (9001, 9002), (10214, 10215), (10216, 10217), (10218, 10219), (10220, 10221), (10222, 10223), (12296, 12297), (12298, 12299), (12300, 12301), (12302, 12303), (12304, 12305)] 12308 12309 w (by decide)
  have i18 : (Instr.mapUpdate 102 (.map (some w.heap.size)) (.int .i32 12310) (.int .i32 12311)).run Try.prog (w.alloc (mapOf [(40, 41), (91, 93), (123, 125), (8261, 8262), (8317, 8318), (8333, 8334), (9001, 9002), (10214, 10215), (10216, 10217), (10218, 10219), (10220, 10221), (10222, 10223), (12296, 12297), (12298, 12299), (12300, 12301), (12302, 12303), (12304, 12305), (12308, 12309)])) = .ok () (w.alloc (mapOf [(40, 41), (91, 93), (123, 125), (8261, 8262), (8317, 8318), (8333, 8334), (9001, 9002), (10214, 10215), (10216, 10217), (10218, 10219), (10220, 10221), (10222, 10223), (12296, 12297), (12298, 12299), (12300, 12301), (12302, 12303), (12304, 12305), (12308, 12309), (12310, 12311)])) := run_map_insert [(40, 41), (91, 93), (123, 125), (8261, 8262), (8317, 8318), (8333, 8334), (9001, 9002), (10214, 10215), (10216, 10217), (10218, 10219), (10220, 10221), (10222, 10223), (12296, 12297), (12298, 12299), (12300, 12301), (12302, 12303), (12304, 12305), (12308, 12309)] 12310 12311 w (by decide)
  have i19 : (Instr.mapUpdate 102 (.map (some w.heap.size)) (.int .i32 12312) (.int .i32 12313)).run Try.prog (w.alloc (mapOf [(40, 41), (91, 93), (123, 125), (8261, 8262), (8317, 8318), (8333, 8334), (9001, 9002), (10214, 10215), (10216, 10217), (10218, 10219), (10220, 10221), (10222, 10223), (12296, 12297), (12298, 12299), (12300, 12301), (12302, 12303), (12304, 12305), (12308, 12309), (12310, 12311)])) = .ok () (w.alloc (mapOf [(40, 41), (91, 93), (123, 125), (8261, 8262), (8317, 8318), (8333, 8334), (9001, 9002), (10214, 10215), (10216, 10217), (10218, 10219), (10220, 10221), (10222, 10223), (12296, 12297), (12298, 12299), (12300, 12301), (12302, 12303), (12304, 12305), (12308, 12309), (12310, 12311), (12312, 12313)])) := run_map_insert [(40, 41), (91, 93), (123, 125), (8261, 8262), (8317, 8318), (8333, 8334), (9001, 9002), (10214, 10215), (10216, 10217), (10218, 10219), (10220, 10221), (10222, 10223), (12296, 12297), (12298, 12299), (12300, 12301), (12302, 12303), (12304, 12305), (12308, 12309), (12310, 12311)] 12312 12313 w (by decide)
  have i20 : (Instr.mapUpdate 102 (.map (some w.heap.size)) (.int .i32 12314) (.int .i32 12315)).run Try.prog (w.alloc (mapOf [(40, 41), (91, 93), (123, 125), (8261, 8262), (8317, 8318), (8333, 8334), (9001, 9002), (10214, 10215), (10216, 10217), (10218, 10219), (10220, 10221), (10222, 10223), (12296, 12297), (12298, 12299), (12300, 12301), (12302, 12303), (12304, 12305), (12308, 12309), (12310, 12311), (12312, 12313)])) = .ok () (w.alloc (mapOf [(40, 41), (91, 93), (123, 125), (8261, 8262), (8317, 8318), (8333, 8334), (9001, 9002), (10214, 10215), (10216, 10217), (10218, 10219), (10220, 10221), (10222, 10223), (12296, 12297), (12298, 12299), (12300, 12301), (12302, 12303), (12304, 12305), (12308, 12309), (12310, 12311), (12312, 12313), (12314, 12315)])) := run_map_insert [(40, 41), (91, 93), (123, 125), (8261, 8262), (8317, 8318), (8333, 8334), (9001, 9002), (10214, 10215), (10216, 10217), (10218, 10219), (10220, 10221), (10222, 10223), (12296, 12297), (12298, 12299), (12300, 12301), (12302, 12303), (12304, 12305), (12308, 12309), (12310, 12311), (12312, 12313)] 12314 12315 w (by decide)
  go_enter Try.func75, Try.ntmps75
  go_wp2
  go_ret
  exact ⟨rfl, rfl⟩

set_option maxHeartbeats 4000000 in
theorem others_any (w : World) : Calls Try.prog 76 #[] w fun e w' => e = .returned (.map (some w.heap.size)) ∧ w.alloc (mapOf pairs2) = w' := by
  have hmm := @run_makeMap Try.prog
  have hm0 : w.alloc (.map #[] 0) = w.alloc (mapOf []) := rfl
  have i0 : (Instr.mapUpdate 102 (.map (some w.heap.size)) (.int .i32 60) (.int .i32 62)).run Try.prog (w.alloc (mapOf [])) = .ok () (w.alloc (mapOf [(60, 62)])) := run_map_insert [] 60 62 w (by decide)
  have i1 : (Instr.mapUpdate 102 (.map (some w.heap.size)) (.int .i32 171) (.int .i32 187)).run Try.prog (w.alloc (mapOf [(60, 62)])) = .ok () (w.alloc (mapOf [(60, 62), (171, 187)])) := run_map_insert [(60, 62)] 171 187 w (by decide)
  have i2 : (Instr.mapUpdate 102 (.map (some w.heap.size)) (.int .i32 8249) (.int .i32 8250)).run Try.prog (w.alloc (mapOf [(60, 62), (171, 187)])) = .ok () (w.alloc (mapOf [(60, 62), (171, 187), (8249, 8250)])) := run_map_insert [(60, 62), (171, 187)] 8249 8250 w (by decide)
  have i3 : (Instr.mapUpdate 102 (.map (some w.heap.size)) (.int .i32 8712) (.int .i32 8715)).run Try.prog (w.alloc (mapOf [(60, 62), (171, 187), (8249, 8250)])) = .ok () (w.alloc (mapOf [(60, 62), (171, 187), (8249, 8250), (8712, 8715)])) := run_map_insert [(60, 62), (171, 187), (8249, 8250)] 8712 8715 w (by decide)
  have i4 : (Instr.mapUpdate 102 (.map (some w.heap.size)) (.int .i32 8804) (.int .i32 8805)).run Try.prog (w.alloc (mapOf [(60, 62), (171, 187), (8249, 8250), (8712, 8715)])) = .ok () (w.alloc (mapOf [(60, 62), (171, 187), (8249, 8250), (8712, 8715), (8804, 8805)])) := run_map_insert [(60, 62), (171, 187), (8249, 8250), (8712, 8715)] 8804 8805 w (by decide)
  have i5 : (Instr.mapUpdate 102 (.map (some w.heap.size)) (.int .i32 8806) (.int .i32 8807)).run Try.prog (w.alloc (mapOf [(60, 62), (171, 187), (8249, 8250), (8712, 8715), (8804, 8805)])) = .ok () (w.alloc (mapOf [(60, 62), (171, 187), (8249, 8250), (8712, 8715), (8804, 8805), (8806, 8807)])) := run_map_insert [(60, 62), (171, 187), (8249, 8250), (8712, 8715), (8804, 8805)] 8806 8807 w (by decide)
  have i6 : (Instr.mapUpdate 102 (.map (some w.heap.size)) (.int .i32 8810) (.int .i32 8811)).run Try.prog (w.alloc (mapOf [(60, 62), (171, 187), (8249, 8250), (8712, 8715), (8804, 8805), (8806, 8807)])) = .ok () (w.alloc (mapOf [(60, 62), (171, 187), (8249, 8250), (8712, 8715), (8804, 8805), (8806, 8807), (8810, 8811)])) := run_map_insert [(60, 62), (171, 187), (8249, 8250), (8712, 8715), (8804, 8805), (8806, 8807)] 8810 8811 w (by decide)
  have i7 : (Instr.mapUpdate 102 (.map (some w.heap.size)) (.int .i32 8822) (.int .i32 8823)).run Try.prog (w.alloc (mapOf [(60, 62), (171, 187), (8249, 8250), (8712, 8715), (8804, 8805), (8806, 8807), (8810, 8811)])) = .ok () (w.alloc (mapOf [(60, 62), (171, 187), (8249, 8250), (8712, 8715), (8804, 8805), (8806, 8807), (8810, 8811), (8822, 8823)])) := run_map_insert [(60, 62), (171, 187), (8249, 8250), (8712, 8715), (8804, 8805), (8806, 8807), (8810, 8811)] 8822 8823 w (by decide)
  have i8 : (Instr.mapUpdate 102 (.map (some w.heap.size)) (.int .i32 8834) (.int .i32 8835)).run Try.prog (w.alloc (mapOf [(60, 62), (171, 187), (8249, 8250), (8712, 8715), (8804, 8805), (8806, 8807), (8810, 8811), (8822, 8823)])) = .ok () (w.alloc (mapOf [(60, 62), (171, 187), (8249, 8250), (8712, 8715), (8804, 8805), (8806, 8807), (8810, 8811), (8822, 8823), (8834, 8835)])) := run_map_insert [(60, 62), (171, 187), (8249, 8250), (8712, 8715), (8804, 8805), (8806, 8807), (8810, 8811), (8822, 8823)] 8834 8835 w (by decide)
  have i9 : (Instr.mapUpdate 102 (.map (some w.heap.size)) (.int .i32 8838) (.int .i32 8839)).run Try.prog (w.alloc (mapOf [(60, 62), (171, 187), (8249, 8250), (8712, 8715), (8804, 8805), (8806, 8807), (8810, 8811), (8822, 8823), (8834, 8835)])) = .ok () (w.alloc (mapOf [(60, 62), (171, 187), (8249, 8250), (8712, 8715), (8804, 8805), (8806, 8807), (8810, 8811), (8822, 8823), (8834, 8835), (8838, 8839)])) := run_map_insert [(60, 62), (171, 187), (8249, 8250), (8712, 8715), (8804, 8805), (8806, 8807), (8810, 8811), (8822, 8823), (8834, 8835)] 8838 8839 w (by decide)
  go_enter Try.func76, Try.ntmps76
  go_wp2
  go_ret
  exact ⟨rfl, rfl⟩


/-! ### 'other': a look-up, and a search by values -/
def oth (l : List (Int × Int)) (r : Int) : Int × Int :=
  match l.find? (fun p => r == p.1) with
  | some p => (1, p.2)
  | none => match l.find? (fun p => r == p.2) with
    | some p => (2, p.1)
    | none => (0, 0)
theorem ret_oth {l : List (Int × Int)} {r a b : Int} (h : oth l r = (a, b)) : Ending.returned (.tuple #[.int .i64 a, .int .i32 b]) = .returned (.tuple #[.int .i64 (oth l r).1, .int .i32 (oth l r).2]) := by rw [h]
theorem oth_hit {l : List (Int × Int)} {r : Int} {p : Int × Int} (h : l.find? (fun p => r == p.1) = some p) : oth l r = (1, p.2) := by unfold oth; rw [h]
theorem oth_two {l : List (Int × Int)} {r : Int} {p : Int × Int} (h : l.find? (fun p => r == p.1) = none) (hn : (l.map (·.2)).Nodup) (hp : p ∈ l) (hr : p.2 = r) : oth l r = (2, p.1) := by
  have h2 : l.find? (fun p => r == p.2) = some p := by
    clear h
    induction l with
    | nil => cases hp
    | cons q l ih =>
      simp only [List.map_cons, List.nodup_cons] at hn
      rw [List.find?_cons]
      rcases List.mem_cons.1 hp with rfl | hp
      · simp [hr]
      · have hq : (r == q.2) = false := by
          rw [beq_eq_false_iff_ne]
          rintro rfl
          exact hn.1 (List.mem_map.2 ⟨p, hp, hr⟩)
        rw [hq]
        exact ih hn.2 hp
  unfold oth; rw [h]; simp only [h2]
theorem oth_none {l : List (Int × Int)} {r : Int} (h : l.find? (fun p => r == p.1) = none) (h2 : ∀ p ∈ l, ¬ p.2 = r) : oth l r = (0, 0) := by
  have h3 : l.find? (fun p => r == p.2) = none := by
    rw [List.find?_eq_none]; intro p hp; simp only [beq_iff_eq]; exact fun e => h2 p hp e.symm
  unfold oth; rw [h]; simp only [h3]
theorem entsF_mem {l : List (Int × Int)} : ∀ {n : Nat} {e : MapEntry}, e ∈ entsF n l → ∃ p ∈ l, e.key = .int .i32 p.1 ∧ e.val = .int .i32 p.2 ∧ n ≤ e.born ∧ e.born < n + l.length := by
  induction l with
  | nil => intro n e h; cases h
  | cons p l ih =>
    intro n e h
    rcases List.mem_cons.1 h with rfl | h
    · exact ⟨p, by simp, rfl, rfl, Nat.le_refl _, by simp [ent]⟩
    · obtain ⟨q, hq, h1, h2, h3, h4⟩ := ih h
      exact ⟨q, by simp [hq], h1, h2, by omega, by simp only [List.length_cons]; omega⟩
theorem mem_entsF {l : List (Int × Int)} {p : Int × Int} (hp : p ∈ l) : ∀ n, ∃ e ∈ entsF n l, e.key = .int .i32 p.1 ∧ e.val = .int .i32 p.2 := by
  induction l with
  | nil => cases hp
  | cons q l ih =>
    intro n
    rcases List.mem_cons.1 hp with rfl | hp
    · exact ⟨ent n p, by simp [entsF], rfl, rfl⟩
    · obtain ⟨e, he, h⟩ := ih hp (n + 1)
      exact ⟨e, by simp [entsF, he], h⟩
theorem entsF_nodup (l : List (Int × Int)) : ∀ n, ((entsF n l).map (·.born)).Nodup := by
  induction l with
  | nil => intro n; simp [entsF]
  | cons p l ih =>
    intro n
    simp only [entsF, List.map_cons, List.nodup_cons, ih, and_true, List.mem_map, not_exists, not_and]
    intro e he hb
    obtain ⟨_, _, _, _, h3, _⟩ := entsF_mem he
    simp [ent] at hb
    omega
theorem run_map_look (l : List (Int × Int)) (bm : Nat) (r : Int) (w : World) (hb : w.heap[bm]? = some (mapOf l)) :
    (Instr.lookup 102 (.map (some bm)) (.int .i32 r) true).run Try.prog w = .ok (match l.find? (fun p => r == p.1) with | some p => .tuple #[.int .i32 p.2, .bool true] | none => .tuple #[.int .i32 0, .bool false]) w := by
  have h1 := findNow_ents r l 0 0
  have hg : (getObj bm).run Try.prog w = .ok (mapOf l) w := by simp only [getObj, Sem.run, hb, mapOf]
  have hc : ∀ b, (Instr.checkKey b 10000 21 (.int .i32 r)).run Try.prog w = .ok () w := by
    intro b
    unfold Instr.checkKey
    simp only [Sem.run_bind, run_underlying Try.underlying21, Result.andThen_ok]
    rfl
  have hz : (zeroValue 21).run Try.prog w = .ok (.int .i32 0) w := by kernel_rfl
  unfold Instr.lookup
  simp only [Sem.run_bind, run_underlying Try.underlying102, Result.andThen_ok, hg]
  unfold mapOf
  simp only [Sem.run_bind, Sem.run_pure, hc, Result.andThen_ok]
  unfold Instr.findKey
  simp only [Sem.run_bind, run_underlying Try.underlying21, Result.andThen_ok]
  cases hf : l.find? (fun p => r == p.1) with
  | some p =>
    rw [hf] at h1
    obtain ⟨j, h1⟩ := h1
    simp only [h1, Sem.run_pure, Result.andThen_ok]
    rfl
  | none =>
    rw [hf] at h1
    simp only [h1, Sem.run_pure, Result.andThen_ok, Sem.run_bind, hz]
    rfl

open Go.ChangeMaps (setBlock) in
theorem setBlock_facts {w wr w1 : World} {r : Nat} (hw : w1 = wr ∨ w1 = wr.drew) (hb : Below r w wr) (hr : r < wr.heap.size) (o : Obj) :
    Below r w (setBlock w1 r o) ∧ (setBlock w1 r o).heap[r]? = some o ∧ (∀ k, k ≠ r → (setBlock w1 r o).heap[k]? = wr.heap[k]?) ∧ (setBlock w1 r o).heap.size = wr.heap.size := by
  have hh : w1.heap = wr.heap := by rcases hw with rfl | rfl <;> rfl
  have hb1 : Below r w w1 := by rcases hw with rfl | rfl; exact hb; exact hb.drew
  refine ⟨⟨hb1.os, hb1.tape, hb1.output, by simpa [setBlock] using hb1.size, fun k hk => ?_⟩, ?_, ?_, ?_⟩
  · simp only [setBlock]
    rw [Array.getElem?_setIfInBounds_ne (by omega)]
    exact hb1.block k hk
  · simp only [setBlock]
    rw [Array.getElem?_setIfInBounds_self_of_lt (by rw [hh]; exact hr)]
  · intro k hk
    simp only [setBlock]
    rw [Array.getElem?_setIfInBounds_ne (by omega), hh]
  · simp only [setBlock, Array.size_setIfInBounds, hh]

set_option maxHeartbeats 1000000 in
/-- 'other' at a map literal. -/
theorem other_any (l : List (Int × Int)) (hn : (l.map (·.2)).Nodup) (bm : Nat) (r : Int) (w : World) (hb : w.heap[bm]? = some (mapOf l)) :
    Calls Try.prog 77 #[.map (some bm), .int .i32 r] w fun e w' => e = .returned (.tuple #[.int .i64 (oth l r).1, .int .i32 (oth l r).2]) ∧ Below w.heap.size w w' := by
  have hlk := run_map_look l bm r w hb
  have hb0 : w.heap[bm]? = some (.map (entsF 0 l).toArray l.length) := hb
  have hbm : bm < w.heap.size := (Array.getElem?_eq_some_iff.1 hb).1
  have hst1 : ∀ x ∈ (entsF 0 l).toArray.toList, x.born < l.length := fun x hx => by
    obtain ⟨_, _, _, _, _, h4⟩ := entsF_mem (show x ∈ entsF 0 l by simpa using hx); omega
  have hst2 : ((entsF 0 l).toArray.toList.map (·.born)).Nodup := by simpa using entsF_nodup l 0
  cases hf : l.find? (fun p => r == p.1) with
  | some p =>
    rw [hf] at hlk
    rw [oth_hit hf]
    clear hf hb0 hst1 hst2 hb hbm
    go_enter Try.func77, Try.ntmps77
    go_wp2
    go_ret2
    exact ⟨rfl, Below.refl _ _⟩
  | none =>
    rw [hf] at hlk
    have hrg := run_range_map (P := Try.prog) w 102 21 21 bm _ _ Try.underlying102 hb0
    have HF := Aside0.mk hf
    have HB := Aside0.mk hb0
    have HM := Aside0.mk hbm
    have HS1 := Aside0.mk hst1
    have HS2 := Aside0.mk hst2
    clear hf hb0 hb hbm hst1 hst2
    go_enter Try.func77, Try.ntmps77
    go_wp2
    clear hlk hrg
    go_loopw [] (fun w' => ∃ (seen : Array Nat), Aside0 (w'.heap[w.heap.size]? = some (.mapIter (some bm) l.length seen l.length)) ∧ Aside0 (Below w.heap.size w w') ∧ Aside0 (∀ x ∈ entsF 0 l, seen.contains x.born = true → ¬ x.val = .int .i32 r)) (fun w' => (leftOf (entsF 0 l).toArray (w'.iterSeen w.heap.size)).size)
    case atStart => exact ⟨#[], ⟨heap_alloc_new _ _⟩, ⟨(Below.refl _ _).alloc (Nat.le_refl _) _⟩, ⟨fun x _ h => by simp at h⟩⟩
    case round =>
      obtain ⟨seen, hI, hB, hno⟩ := hrel
      have hlt : w.heap.size < wr.heap.size := (Array.getElem?_eq_some_iff.1 hI.out).1
      have hbr : wr.heap[bm]? = some (.map (entsF 0 l).toArray l.length) := (hB.out.block bm HM.out).trans HB.out
      have hsz : wr.iterSeen w.heap.size = seen := by unfold World.iterSeen; rw [hI.out]
      have law := run_next_at (P := Try.prog) wr 0 w.heap.size bm l.length l.length seen _ _ hI.out hbr (fun x hx => HS1.out x (by first | exact hx | simpa using hx)) (Nat.le_refl _)
      have HBR := Aside0.mk hbr
      have HSZ := Aside0.mk hsz
      clear hbr hsz
      rcases law with ⟨h0, hrun⟩ | ⟨e, he, w2, hal2, hrun⟩
      · have hnx : ∀ ty, (Instr.next (.pointer (some ⟨w.heap.size, 0, none⟩)) false ty).run Try.prog wr = _ := fun _ => hrun
        have hz := oth_none HF.out (fun p hp hr => by
          obtain ⟨e, he, _, hv⟩ := mem_entsF hp 0
          exact hno.out e he (all_seen (entsF 0 l).toArray seen h0 e (by simpa using he)) (by rw [hv, hr]))
        have HZ := Aside0.mk hz
        clear hz h0 hrun
        go_wp2
        go_ret2
        exact ⟨ret_oth HZ.out, hB.out⟩
      · obtain ⟨he1, he2⟩ := mem_left he
        have he1' : e ∈ entsF 0 l := by simpa using he1
        obtain ⟨p, hp, hk, hv, _, _⟩ := entsF_mem he1'
        obtain ⟨f1, f2, f3, f4⟩ := setBlock_facts hal2 hB.out hlt (.mapIter (some bm) l.length (seen.push e.born) l.length)
        have hen := run_entry_at (P := Try.prog) _ w.heap.size bm l.length seen _ _ e f2 ((f3 bm (by have := HM.out; omega)).trans HBR.out) he1 (by first | exact HS2.out | simpa using HS2.out)
        rw [hk, hv] at hrun hen
        generalize ChangeMaps.setBlock w2 w.heap.size (.mapIter (some bm) l.length (seen.push e.born) l.length) = W2 at *
        have hnx : ∀ ty, (Instr.next (.pointer (some ⟨w.heap.size, 0, none⟩)) false ty).run Try.prog wr = _ := fun _ => hrun
        have G1 := Aside0.mk f1
        have G2 := Aside0.mk f2
        have G3 := Aside0.mk hv
        have G4 := Aside0.mk he
        have G5 := Aside0.mk he1
        have G6 := Aside0.mk he1'
        clear f1 f2 f3 f4 hrun hk hv he he1 he1' he2 hal2
        by_cases hc : p.2 = r
        · have hz := oth_two HF.out hn hp hc
          have HZ := Aside0.mk hz
          have hcb : (p.2 == r) = true := beq_iff_eq.2 hc
          clear hz hc
          go_wp2
          go_ret2
          exact ⟨ret_oth HZ.out, G1.out⟩
        · have hcb : (p.2 == r) = false := beq_eq_false_iff_ne.2 hc
          have HC := Aside0.mk hc
          clear hc
          go_wp2
          go_roundw
          case rel =>
            refine ⟨seen.push e.born, G2, G1, ⟨fun x hx hcx => ?_⟩⟩
            rw [contains_push] at hcx
            rcases Bool.or_eq_true _ _ ▸ hcx with h1 | h1
            · exact hno.out x hx h1
            · have : x = e := born_inj (l := entsF 0 l) (by simpa using HS2.out) hx (by simpa using G5.out) (beq_iff_eq.1 h1)
              subst this
              rw [G3.out]
              intro h; injection h with _ h; exact HC.out h
          case measure =>
            have h1 : W2.iterSeen w.heap.size = seen.push e.born := by unfold World.iterSeen; rw [G2.out]
            rw [h1, HSZ.out]
            exact left_shrinks _ seen e G4.out

theorem nodup1 : (pairs1.map (·.2)).Nodup := by decide
theorem nodup2 : (pairs2.map (·.2)).Nodup := by decide
def ucd_Bracket.f (a0 : Int) : Option (Int × Int) := some (oth pairs1 a0)
def ucd_Mirror.f (a0 : Int) : Option (Int × Bool) := some (if (oth pairs1 a0).1 > 0 then ((oth pairs1 a0).2, true) else if (oth pairs2 a0).1 > 0 then ((oth pairs2 a0).2, true) else (0, false))

theorem oth_nonneg (l : List (Int × Int)) (r : Int) : 0 ≤ (oth l r).1 := by
  unfold oth; split
  · simp
  · split <;> simp

set_option maxHeartbeats 1000000 in
theorem ucd_Mirror.calls (a0 : Int) (r1 : Int) (r2 : Bool) (w : World) (h : ucd_Mirror.f a0 = some (r1, r2)) :
    Calls Try.prog 59 #[.int .i32 a0] w fun e w' => e = .returned (.tuple #[.int .i32 r1, .bool r2]) ∧ Below w.heap.size w w' := by
  have h' := Option.some.inj h
  clear h
  have HH := Aside0.mk h'
  clear h'
  obtain ⟨k1, m1, e1⟩ : ∃ k m, oth pairs1 a0 = (k, m) := ⟨_, _, rfl⟩
  obtain ⟨k2, m2, e2⟩ : ∃ k m, oth pairs2 a0 = (k, m) := ⟨_, _, rfl⟩
  have hh := HH.out
  rw [e1, e2] at hh
  clear HH
  have HH := Aside0.mk hh
  clear hh
  have E1 := Aside0.mk e1
  have E2 := Aside0.mk e2
  clear e1 e2
  go_enter Try.func59, Try.ntmps59
  go_wp2_with fail
  refine (partners_any _).mono ?_
  rintro e w' ⟨rfl, rfl⟩
  go_wp2_with fail
  refine (others_any _).mono ?_
  rintro e w' ⟨rfl, rfl⟩
  go_wp2_with fail
  refine wp_loop_rounds 3 ?_
  rw [rounds_succ]
  go_wp2_with fail
  refine (other_any pairs1 nodup1 w.heap.size a0 _ ?_).mono ?_
  · rw [Below.heap_alloc _ _ _ (by simp only [World.size_alloc]; omega), Below.heap_alloc _ _ _ (by simp only [World.size_alloc]; omega)]
    exact heap_alloc_new _ _
  rintro e w2 ⟨rfl, hb⟩
  have hB0 : Below w.heap.size w w2 := ((((Below.refl _ w).alloc (Nat.le_refl _) _).alloc (by simp only [World.size_alloc]; omega) _).alloc (by simp only [World.size_alloc]; omega) _).trans (hb.mono (by simp only [World.size_alloc]; omega))
  have hcell : w2.cell? ⟨w.heap.size + 2, 1, none⟩ = some (.map (some (w.heap.size + 1))) := by
    rw [hb.cell (p := ⟨w.heap.size + 2, 1, none⟩) (by simp only [World.size_alloc]; omega)]
    have h := heap_alloc_new ((w.alloc (mapOf pairs1)).alloc (mapOf pairs2)) (.cells #[.map (some w.heap.size), .map (some (w.heap.size + 1))] 102)
    simp only [World.size_alloc] at h
    have h' : (((w.alloc (mapOf pairs1)).alloc (mapOf pairs2)).alloc (.cells #[.map (some w.heap.size), .map (some (w.heap.size + 1))] 102)).heap[w.heap.size + 2]? = some (.cells #[.map (some w.heap.size), .map (some (w.heap.size + 1))] 102) := h
    rw [cell_of_row _ _ 1 _ _ _ h']
    rfl
  have hm2 : w2.heap[w.heap.size + 1]? = some (mapOf pairs2) := by
    rw [hb.block _ (by simp only [World.size_alloc]; omega), Below.heap_alloc _ _ _ (by simp only [World.size_alloc]; omega)]
    have h := heap_alloc_new (w.alloc (mapOf pairs1)) (mapOf pairs2)
    simpa only [World.size_alloc] using h
  have HM := Aside0.mk hm2
  have HB := Aside0.mk hB0
  clear hm2 hb hB0
  rw [E1.out]
  by_cases hk1 : k1 > 0
  · have hh := HH.out
    rw [if_pos hk1] at hh
    obtain ⟨rfl, rfl⟩ := Prod.mk.inj hh
    clear hh
    go_wp2_with fail
    go_ret2
    exact ⟨rfl, HB.out⟩
  · have hh := HH.out
    rw [if_neg hk1] at hh
    clear HH
    have HH := Aside0.mk hh
    clear hh
    go_wp2_with fail
    rw [rounds_succ]
    go_wp2_with fail
    refine (other_any pairs2 nodup2 (w.heap.size + 1) a0 _ HM.out).mono ?_
    rintro e w3 ⟨rfl, hb3⟩
    have HB3 := Aside0.mk (HB.out.trans (hb3.mono HB.out.size))
    clear hb3 hcell
    rw [E2.out]
    by_cases hk2 : k2 > 0
    · have hh := HH.out
      rw [if_pos hk2] at hh
      obtain ⟨rfl, rfl⟩ := Prod.mk.inj hh
      clear hh
      go_wp2_with fail
      go_ret2
      exact ⟨rfl, HB3.out⟩
    · have hh := HH.out
      rw [if_neg hk2] at hh
      obtain ⟨rfl, rfl⟩ := Prod.mk.inj hh
      clear hh
      go_wp2_with fail
      rw [rounds_succ]
      go_wp2_with fail
      go_ret2
      exact ⟨rfl, HB3.out⟩
end Go.Proofs.Ytccleelhheilnaa.F
