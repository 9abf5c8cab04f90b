/-
  No cell of these rows narrows 'for every input' (looked for: loops, veiled, ifaces, maps, wideKeys, modest, calm, conditions, laid).
  DERIVED. THE GIVEN ROWS OF THIS SEAT. 13 by the template 'for every input the law returns true; each argument reads behind the call as it read before'; 0 by the template 'total and deterministic' (their statements: YtddhhncjfcolcaaTotals.lean).
  GIVEN WITH THE SEED: the statements are not yours to turn. If you find one false, say at which input.
  Laid BY PROGRAM, IN A SANDBOX (cutbox-rows.mjs): the forced cells as the released guide's own fill.sh prints them over the translation 4b2eaafa121be739… (all of the seat's roots in one cut). By AI agents, Wed Nov 11 2026. No macro, syntax, notation, axiom, sorry.
-/
import Derived.Test.YtddhhncjfcolcaaChecked
import GoSem.Claim
import GoSem.ClaimJoined
import GoSem.ClaimMapViews
import Derived.JoinedTies
import Derived.KernelRfl
namespace Go.Proofs.Ytddhhncjfcolcaa
/- THE CELL 'sum', in the pinned program and in every row, IS THE sha256 OF THE DUMP (.gsa) THAT YtddhhncjfcolcaaProg.lean LOADS. Nothing in Lean hashes anything: it is a label: what it is worth is what the hold of that sum in a sandbox is worth. -/
noncomputable def Try.pinned : Pinned := { name := "ytddhhncjfcolcaa", sum := "4b2eaafa121be739a2ce5c4da90c147d5955e0a48f5686af399501991b14d31d", checked := Try.checked }
namespace Rows
def none {H : Type} : Left H := { results := [], args := [] }

/-- 'colophonlaw05.ParaMoves': WHATEVER THE INPUT: true; the input reads as it did. -/
def paraMovesSpec : ChangeSpec := { name := "paraMoves", fn := fun _ => fun
  | [d] => { results := [.lit (.bool true)], args := [d] }
  | _ => none }
def paraMovesRow : OpenClaim := { program := "ytddhhncjfcolcaa", sum := "4b2eaafa121be739a2ce5c4da90c147d5955e0a48f5686af399501991b14d31d", func := "colophon/colophonlaw05.ParaMoves", spec := "paraMoves", apart := false }
def ParaMovesSaid : Prop := paraMovesRow.holds Try.pinned (OpenSpec.ofChange paraMovesSpec)

/-- ITS FALSE NEIGHBOUR: 'it returns false'. Refute it at one input. -/
def paraMovesWrong : ChangeSpec := { name := "paraMoves", fn := fun _ => fun
  | [d] => { results := [.lit (.bool false)], args := [d] }
  | _ => none }
def ParaMovesWrongFalsely : Prop := paraMovesRow.holds Try.pinned (OpenSpec.ofChange paraMovesWrong)

/-- 'colophonlaw05.ParaLines': WHATEVER THE INPUT: true; the input reads as it did. -/
def paraLinesSpec : ChangeSpec := { name := "paraLines", fn := fun _ => fun
  | [d1, d2, d3] => { results := [.lit (.bool true)], args := [d1, d2, d3] }
  | _ => none }
def paraLinesRow : OpenClaim := { program := "ytddhhncjfcolcaa", sum := "4b2eaafa121be739a2ce5c4da90c147d5955e0a48f5686af399501991b14d31d", func := "colophon/colophonlaw05.ParaLines", spec := "paraLines", apart := false }
def ParaLinesSaid : Prop := paraLinesRow.holds Try.pinned (OpenSpec.ofChange paraLinesSpec)

/-- ITS FALSE NEIGHBOUR: 'it returns false'. Refute it at one input. -/
def paraLinesWrong : ChangeSpec := { name := "paraLines", fn := fun _ => fun
  | [d1, d2, d3] => { results := [.lit (.bool false)], args := [d1, d2, d3] }
  | _ => none }
def ParaLinesWrongFalsely : Prop := paraLinesRow.holds Try.pinned (OpenSpec.ofChange paraLinesWrong)

/-- 'colophonlaw03.UcdRanges': WHATEVER THE INPUT: true; the input reads as it did. -/
def ucdRangesSpec : ChangeSpec := { name := "ucdRanges", fn := fun _ => fun
  | [d] => { results := [.lit (.bool true)], args := [d] }
  | _ => none }
def ucdRangesRow : OpenClaim := { program := "ytddhhncjfcolcaa", sum := "4b2eaafa121be739a2ce5c4da90c147d5955e0a48f5686af399501991b14d31d", func := "colophon/colophonlaw03.UcdRanges", spec := "ucdRanges", apart := false }
def UcdRangesSaid : Prop := ucdRangesRow.holds Try.pinned (OpenSpec.ofChange ucdRangesSpec)

/-- ITS FALSE NEIGHBOUR: 'it returns false'. Refute it at one input. -/
def ucdRangesWrong : ChangeSpec := { name := "ucdRanges", fn := fun _ => fun
  | [d] => { results := [.lit (.bool false)], args := [d] }
  | _ => none }
def UcdRangesWrongFalsely : Prop := ucdRangesRow.holds Try.pinned (OpenSpec.ofChange ucdRangesWrong)

/-- 'colophonlaw03.UcdMarks': WHATEVER THE INPUT: true; the input reads as it did. -/
def ucdMarksSpec : ChangeSpec := { name := "ucdMarks", fn := fun _ => fun
  | [d] => { results := [.lit (.bool true)], args := [d] }
  | _ => none }
def ucdMarksRow : OpenClaim := { program := "ytddhhncjfcolcaa", sum := "4b2eaafa121be739a2ce5c4da90c147d5955e0a48f5686af399501991b14d31d", func := "colophon/colophonlaw03.UcdMarks", spec := "ucdMarks", apart := false }
def UcdMarksSaid : Prop := ucdMarksRow.holds Try.pinned (OpenSpec.ofChange ucdMarksSpec)

/-- ITS FALSE NEIGHBOUR: 'it returns false'. Refute it at one input. -/
def ucdMarksWrong : ChangeSpec := { name := "ucdMarks", fn := fun _ => fun
  | [d] => { results := [.lit (.bool false)], args := [d] }
  | _ => none }
def UcdMarksWrongFalsely : Prop := ucdMarksRow.holds Try.pinned (OpenSpec.ofChange ucdMarksWrong)

/-- 'colophonlaw03.UcdClasses': WHATEVER THE INPUT: true; the input reads as it did. -/
def ucdClassesSpec : ChangeSpec := { name := "ucdClasses", fn := fun _ => fun
  | [d] => { results := [.lit (.bool true)], args := [d] }
  | _ => none }
def ucdClassesRow : OpenClaim := { program := "ytddhhncjfcolcaa", sum := "4b2eaafa121be739a2ce5c4da90c147d5955e0a48f5686af399501991b14d31d", func := "colophon/colophonlaw03.UcdClasses", spec := "ucdClasses", unfollowed := true, recurses := true, apart := false }
def UcdClassesSaid : Prop := ucdClassesRow.holds Try.pinned (OpenSpec.ofChange ucdClassesSpec)

/-- ITS FALSE NEIGHBOUR: 'it returns false'. Refute it at one input. -/
def ucdClassesWrong : ChangeSpec := { name := "ucdClasses", fn := fun _ => fun
  | [d] => { results := [.lit (.bool false)], args := [d] }
  | _ => none }
def UcdClassesWrongFalsely : Prop := ucdClassesRow.holds Try.pinned (OpenSpec.ofChange ucdClassesWrong)

/-- 'colophonlaw05.ParaBounds': WHATEVER THE INPUT: true; the input reads as it did. -/
def paraBoundsSpec : ChangeSpec := { name := "paraBounds", fn := fun _ => fun
  | [d1, d2] => { results := [.lit (.bool true)], args := [d1, d2] }
  | _ => none }
def paraBoundsRow : OpenClaim := { program := "ytddhhncjfcolcaa", sum := "4b2eaafa121be739a2ce5c4da90c147d5955e0a48f5686af399501991b14d31d", func := "colophon/colophonlaw05.ParaBounds", spec := "paraBounds", unfollowed := true, recurses := true, apart := false }
def ParaBoundsSaid : Prop := paraBoundsRow.holds Try.pinned (OpenSpec.ofChange paraBoundsSpec)

/-- ITS FALSE NEIGHBOUR: 'it returns false'. Refute it at one input. -/
def paraBoundsWrong : ChangeSpec := { name := "paraBounds", fn := fun _ => fun
  | [d1, d2] => { results := [.lit (.bool false)], args := [d1, d2] }
  | _ => none }
def ParaBoundsWrongFalsely : Prop := paraBoundsRow.holds Try.pinned (OpenSpec.ofChange paraBoundsWrong)

/-- 'colophonlaw03.UcdPairs': WHATEVER THE INPUT: true; the input reads as it did. -/
def ucdPairsSpec : ChangeSpec := { name := "ucdPairs", fn := fun _ => fun
  | [d] => { results := [.lit (.bool true)], args := [d] }
  | _ => none }
def ucdPairsRow : OpenClaim := { program := "ytddhhncjfcolcaa", sum := "4b2eaafa121be739a2ce5c4da90c147d5955e0a48f5686af399501991b14d31d", func := "colophon/colophonlaw03.UcdPairs", spec := "ucdPairs", unfollowed := true, recurses := true, apart := false }
def UcdPairsSaid : Prop := ucdPairsRow.holds Try.pinned (OpenSpec.ofChange ucdPairsSpec)

/-- ITS FALSE NEIGHBOUR: 'it returns false'. Refute it at one input. -/
def ucdPairsWrong : ChangeSpec := { name := "ucdPairs", fn := fun _ => fun
  | [d] => { results := [.lit (.bool false)], args := [d] }
  | _ => none }
def UcdPairsWrongFalsely : Prop := ucdPairsRow.holds Try.pinned (OpenSpec.ofChange ucdPairsWrong)

/-- 'colophonlaw03.UcdTwice': WHATEVER THE INPUT: true; the input reads as it did. -/
def ucdTwiceSpec : ChangeSpec := { name := "ucdTwice", fn := fun _ => fun
  | [d] => { results := [.lit (.bool true)], args := [d] }
  | _ => none }
def ucdTwiceRow : OpenClaim := { program := "ytddhhncjfcolcaa", sum := "4b2eaafa121be739a2ce5c4da90c147d5955e0a48f5686af399501991b14d31d", func := "colophon/colophonlaw03.UcdTwice", spec := "ucdTwice", unfollowed := true, recurses := true, apart := false }
def UcdTwiceSaid : Prop := ucdTwiceRow.holds Try.pinned (OpenSpec.ofChange ucdTwiceSpec)

/-- ITS FALSE NEIGHBOUR: 'it returns false'. Refute it at one input. -/
def ucdTwiceWrong : ChangeSpec := { name := "ucdTwice", fn := fun _ => fun
  | [d] => { results := [.lit (.bool false)], args := [d] }
  | _ => none }
def UcdTwiceWrongFalsely : Prop := ucdTwiceRow.holds Try.pinned (OpenSpec.ofChange ucdTwiceWrong)

/-- 'colophonlaw05.ParaCovers': WHATEVER THE INPUT: true; the input reads as it did. -/
def paraCoversSpec : ChangeSpec := { name := "paraCovers", fn := fun _ => fun
  | [d] => { results := [.lit (.bool true)], args := [d] }
  | _ => none }
def paraCoversRow : OpenClaim := { program := "ytddhhncjfcolcaa", sum := "4b2eaafa121be739a2ce5c4da90c147d5955e0a48f5686af399501991b14d31d", func := "colophon/colophonlaw05.ParaCovers", spec := "paraCovers", unfollowed := true, recurses := true, apart := false }
def ParaCoversSaid : Prop := paraCoversRow.holds Try.pinned (OpenSpec.ofChange paraCoversSpec)

/-- ITS FALSE NEIGHBOUR: 'it returns false'. Refute it at one input. -/
def paraCoversWrong : ChangeSpec := { name := "paraCovers", fn := fun _ => fun
  | [d] => { results := [.lit (.bool false)], args := [d] }
  | _ => none }
def ParaCoversWrongFalsely : Prop := paraCoversRow.holds Try.pinned (OpenSpec.ofChange paraCoversWrong)

/-- 'colophonlaw05.ParaOrder': WHATEVER THE INPUT: true; the input reads as it did. -/
def paraOrderSpec : ChangeSpec := { name := "paraOrder", fn := fun _ => fun
  | [d1, d2] => { results := [.lit (.bool true)], args := [d1, d2] }
  | _ => none }
def paraOrderRow : OpenClaim := { program := "ytddhhncjfcolcaa", sum := "4b2eaafa121be739a2ce5c4da90c147d5955e0a48f5686af399501991b14d31d", func := "colophon/colophonlaw05.ParaOrder", spec := "paraOrder", unfollowed := true, recurses := true, apart := false }
def ParaOrderSaid : Prop := paraOrderRow.holds Try.pinned (OpenSpec.ofChange paraOrderSpec)

/-- ITS FALSE NEIGHBOUR: 'it returns false'. Refute it at one input. -/
def paraOrderWrong : ChangeSpec := { name := "paraOrder", fn := fun _ => fun
  | [d1, d2] => { results := [.lit (.bool false)], args := [d1, d2] }
  | _ => none }
def ParaOrderWrongFalsely : Prop := paraOrderRow.holds Try.pinned (OpenSpec.ofChange paraOrderWrong)

/-- 'colophonlaw05.ParaBack': WHATEVER THE INPUT: true; the input reads as it did. -/
def paraBackSpec : ChangeSpec := { name := "paraBack", fn := fun _ => fun
  | [d] => { results := [.lit (.bool true)], args := [d] }
  | _ => none }
def paraBackRow : OpenClaim := { program := "ytddhhncjfcolcaa", sum := "4b2eaafa121be739a2ce5c4da90c147d5955e0a48f5686af399501991b14d31d", func := "colophon/colophonlaw05.ParaBack", spec := "paraBack", unfollowed := true, recurses := true, apart := false }
def ParaBackSaid : Prop := paraBackRow.holds Try.pinned (OpenSpec.ofChange paraBackSpec)

/-- ITS FALSE NEIGHBOUR: 'it returns false'. Refute it at one input. -/
def paraBackWrong : ChangeSpec := { name := "paraBack", fn := fun _ => fun
  | [d] => { results := [.lit (.bool false)], args := [d] }
  | _ => none }
def ParaBackWrongFalsely : Prop := paraBackRow.holds Try.pinned (OpenSpec.ofChange paraBackWrong)

/-- 'colophonlaw05.ParaEdits': WHATEVER THE INPUT: true; the input reads as it did. -/
def paraEditsSpec : ChangeSpec := { name := "paraEdits", fn := fun _ => fun
  | [d1, d2, d3, d4] => { results := [.lit (.bool true)], args := [d1, d2, d3, d4] }
  | _ => none }
def paraEditsRow : OpenClaim := { program := "ytddhhncjfcolcaa", sum := "4b2eaafa121be739a2ce5c4da90c147d5955e0a48f5686af399501991b14d31d", func := "colophon/colophonlaw05.ParaEdits", spec := "paraEdits", unfollowed := true, recurses := true, apart := false }
def ParaEditsSaid : Prop := paraEditsRow.holds Try.pinned (OpenSpec.ofChange paraEditsSpec)

/-- ITS FALSE NEIGHBOUR: 'it returns false'. Refute it at one input. -/
def paraEditsWrong : ChangeSpec := { name := "paraEdits", fn := fun _ => fun
  | [d1, d2, d3, d4] => { results := [.lit (.bool false)], args := [d1, d2, d3, d4] }
  | _ => none }
def ParaEditsWrongFalsely : Prop := paraEditsRow.holds Try.pinned (OpenSpec.ofChange paraEditsWrong)

/-- 'colophonlaw03.UcdApart': WHATEVER THE INPUT: true; the input reads as it did. -/
def ucdApartSpec : ChangeSpec := { name := "ucdApart", fn := fun _ => fun
  | [d] => { results := [.lit (.bool true)], args := [d] }
  | _ => none }
def ucdApartRow : OpenClaim := { program := "ytddhhncjfcolcaa", sum := "4b2eaafa121be739a2ce5c4da90c147d5955e0a48f5686af399501991b14d31d", func := "colophon/colophonlaw03.UcdApart", spec := "ucdApart", unfollowed := true, recurses := true, apart := false }
def UcdApartSaid : Prop := ucdApartRow.holds Try.pinned (OpenSpec.ofChange ucdApartSpec)

/-- ITS FALSE NEIGHBOUR: 'it returns false'. Refute it at one input. -/
def ucdApartWrong : ChangeSpec := { name := "ucdApart", fn := fun _ => fun
  | [d] => { results := [.lit (.bool false)], args := [d] }
  | _ => none }
def UcdApartWrongFalsely : Prop := ucdApartRow.holds Try.pinned (OpenSpec.ofChange ucdApartWrong)

/- THE SECOND FORM. 'bulk': how many values and letters a reading holds, each counted each time it is reached (what is shared counts as often as it is met; a slice's spare places count too). A statement '..UptoSaid' is the law's where the arguments, and the package variables that the reading takes, are together of bulk at most 1048576: NARROWER than '..Said'. Prove '..Said' where nothing that the law and all that it calls make is longer than what came in: it says more and counts as full. Else prove '..UptoSaid'. A law counts once. -/
mutual
def uptoBulk {H : Type} : DataW H → Nat
  | .lit (.string bytes) => bytes.length + 1
  | .lit _ => 1
  | .nil => 1
  | .ptr d => uptoBulk d + 1
  | .slice elems spare => uptoBulkAll elems + uptoBulkAll spare + 1
  | .agg parts => uptoBulkAll parts + 1
  | .iface _ d => uptoBulk d + 1
  | .map entries => uptoBulkEntries entries + 1
  | .held _ => 1
def uptoBulkAll {H : Type} : List (DataW H) → Nat
  | [] => 0
  | d :: r => uptoBulk d + uptoBulkAll r
def uptoBulkEntries {H : Type} : List (Lit × DataW H) → Nat
  | [] => 0
  | x :: r => uptoBulkEntry x + uptoBulkEntries r
def uptoBulkEntry {H : Type} : Lit × DataW H → Nat
  | (.string bytes, d) => bytes.length + uptoBulk d + 1
  | (_, d) => uptoBulk d + 1
 end
def uptoSmall : (H : Type) → List (DataW H) → Bool := fun _ ds => decide (uptoBulkAll ds ≤ 1048576)
def OpenSpec.upto (s : _root_.Go.ChangeSpec) : _root_.Go.OpenSpec := { _root_.Go.OpenSpec.ofChange s with cond := some uptoSmall }

/-- 'colophonlaw05.ParaMoves', WHERE WHAT IT READS IS OF BULK AT MOST 1048576: true; the input reads as it did. -/
def paraMovesUptoRow : OpenClaim := { program := "ytddhhncjfcolcaa", sum := "4b2eaafa121be739a2ce5c4da90c147d5955e0a48f5686af399501991b14d31d", func := "colophon/colophonlaw05.ParaMoves", spec := "paraMoves", apart := false, narrowed := true }
def ParaMovesUptoSaid : Prop := paraMovesUptoRow.holds Try.pinned (OpenSpec.upto paraMovesSpec)

/-- 'colophonlaw05.ParaLines', WHERE WHAT IT READS IS OF BULK AT MOST 1048576: true; the input reads as it did. -/
def paraLinesUptoRow : OpenClaim := { program := "ytddhhncjfcolcaa", sum := "4b2eaafa121be739a2ce5c4da90c147d5955e0a48f5686af399501991b14d31d", func := "colophon/colophonlaw05.ParaLines", spec := "paraLines", apart := false, narrowed := true }
def ParaLinesUptoSaid : Prop := paraLinesUptoRow.holds Try.pinned (OpenSpec.upto paraLinesSpec)

/-- 'colophonlaw03.UcdRanges', WHERE WHAT IT READS IS OF BULK AT MOST 1048576: true; the input reads as it did. -/
def ucdRangesUptoRow : OpenClaim := { program := "ytddhhncjfcolcaa", sum := "4b2eaafa121be739a2ce5c4da90c147d5955e0a48f5686af399501991b14d31d", func := "colophon/colophonlaw03.UcdRanges", spec := "ucdRanges", apart := false, narrowed := true }
def UcdRangesUptoSaid : Prop := ucdRangesUptoRow.holds Try.pinned (OpenSpec.upto ucdRangesSpec)

/-- 'colophonlaw03.UcdMarks', WHERE WHAT IT READS IS OF BULK AT MOST 1048576: true; the input reads as it did. -/
def ucdMarksUptoRow : OpenClaim := { program := "ytddhhncjfcolcaa", sum := "4b2eaafa121be739a2ce5c4da90c147d5955e0a48f5686af399501991b14d31d", func := "colophon/colophonlaw03.UcdMarks", spec := "ucdMarks", apart := false, narrowed := true }
def UcdMarksUptoSaid : Prop := ucdMarksUptoRow.holds Try.pinned (OpenSpec.upto ucdMarksSpec)

/-- 'colophonlaw03.UcdClasses', WHERE WHAT IT READS IS OF BULK AT MOST 1048576: true; the input reads as it did. -/
def ucdClassesUptoRow : OpenClaim := { program := "ytddhhncjfcolcaa", sum := "4b2eaafa121be739a2ce5c4da90c147d5955e0a48f5686af399501991b14d31d", func := "colophon/colophonlaw03.UcdClasses", spec := "ucdClasses", unfollowed := true, recurses := true, apart := false, narrowed := true }
def UcdClassesUptoSaid : Prop := ucdClassesUptoRow.holds Try.pinned (OpenSpec.upto ucdClassesSpec)

/-- 'colophonlaw05.ParaBounds', WHERE WHAT IT READS IS OF BULK AT MOST 1048576: true; the input reads as it did. -/
def paraBoundsUptoRow : OpenClaim := { program := "ytddhhncjfcolcaa", sum := "4b2eaafa121be739a2ce5c4da90c147d5955e0a48f5686af399501991b14d31d", func := "colophon/colophonlaw05.ParaBounds", spec := "paraBounds", unfollowed := true, recurses := true, apart := false, narrowed := true }
def ParaBoundsUptoSaid : Prop := paraBoundsUptoRow.holds Try.pinned (OpenSpec.upto paraBoundsSpec)

/-- 'colophonlaw03.UcdPairs', WHERE WHAT IT READS IS OF BULK AT MOST 1048576: true; the input reads as it did. -/
def ucdPairsUptoRow : OpenClaim := { program := "ytddhhncjfcolcaa", sum := "4b2eaafa121be739a2ce5c4da90c147d5955e0a48f5686af399501991b14d31d", func := "colophon/colophonlaw03.UcdPairs", spec := "ucdPairs", unfollowed := true, recurses := true, apart := false, narrowed := true }
def UcdPairsUptoSaid : Prop := ucdPairsUptoRow.holds Try.pinned (OpenSpec.upto ucdPairsSpec)

/-- 'colophonlaw03.UcdTwice', WHERE WHAT IT READS IS OF BULK AT MOST 1048576: true; the input reads as it did. -/
def ucdTwiceUptoRow : OpenClaim := { program := "ytddhhncjfcolcaa", sum := "4b2eaafa121be739a2ce5c4da90c147d5955e0a48f5686af399501991b14d31d", func := "colophon/colophonlaw03.UcdTwice", spec := "ucdTwice", unfollowed := true, recurses := true, apart := false, narrowed := true }
def UcdTwiceUptoSaid : Prop := ucdTwiceUptoRow.holds Try.pinned (OpenSpec.upto ucdTwiceSpec)

/-- 'colophonlaw05.ParaCovers', WHERE WHAT IT READS IS OF BULK AT MOST 1048576: true; the input reads as it did. -/
def paraCoversUptoRow : OpenClaim := { program := "ytddhhncjfcolcaa", sum := "4b2eaafa121be739a2ce5c4da90c147d5955e0a48f5686af399501991b14d31d", func := "colophon/colophonlaw05.ParaCovers", spec := "paraCovers", unfollowed := true, recurses := true, apart := false, narrowed := true }
def ParaCoversUptoSaid : Prop := paraCoversUptoRow.holds Try.pinned (OpenSpec.upto paraCoversSpec)

/-- 'colophonlaw05.ParaOrder', WHERE WHAT IT READS IS OF BULK AT MOST 1048576: true; the input reads as it did. -/
def paraOrderUptoRow : OpenClaim := { program := "ytddhhncjfcolcaa", sum := "4b2eaafa121be739a2ce5c4da90c147d5955e0a48f5686af399501991b14d31d", func := "colophon/colophonlaw05.ParaOrder", spec := "paraOrder", unfollowed := true, recurses := true, apart := false, narrowed := true }
def ParaOrderUptoSaid : Prop := paraOrderUptoRow.holds Try.pinned (OpenSpec.upto paraOrderSpec)

/-- 'colophonlaw05.ParaBack', WHERE WHAT IT READS IS OF BULK AT MOST 1048576: true; the input reads as it did. -/
def paraBackUptoRow : OpenClaim := { program := "ytddhhncjfcolcaa", sum := "4b2eaafa121be739a2ce5c4da90c147d5955e0a48f5686af399501991b14d31d", func := "colophon/colophonlaw05.ParaBack", spec := "paraBack", unfollowed := true, recurses := true, apart := false, narrowed := true }
def ParaBackUptoSaid : Prop := paraBackUptoRow.holds Try.pinned (OpenSpec.upto paraBackSpec)

/-- 'colophonlaw05.ParaEdits', WHERE WHAT IT READS IS OF BULK AT MOST 1048576: true; the input reads as it did. -/
def paraEditsUptoRow : OpenClaim := { program := "ytddhhncjfcolcaa", sum := "4b2eaafa121be739a2ce5c4da90c147d5955e0a48f5686af399501991b14d31d", func := "colophon/colophonlaw05.ParaEdits", spec := "paraEdits", unfollowed := true, recurses := true, apart := false, narrowed := true }
def ParaEditsUptoSaid : Prop := paraEditsUptoRow.holds Try.pinned (OpenSpec.upto paraEditsSpec)

/-- 'colophonlaw03.UcdApart', WHERE WHAT IT READS IS OF BULK AT MOST 1048576: true; the input reads as it did. -/
def ucdApartUptoRow : OpenClaim := { program := "ytddhhncjfcolcaa", sum := "4b2eaafa121be739a2ce5c4da90c147d5955e0a48f5686af399501991b14d31d", func := "colophon/colophonlaw03.UcdApart", spec := "ucdApart", unfollowed := true, recurses := true, apart := false, narrowed := true }
def UcdApartUptoSaid : Prop := ucdApartUptoRow.holds Try.pinned (OpenSpec.upto ucdApartSpec)

end Rows
end Go.Proofs.Ytddhhncjfcolcaa
