/-
  No cell of these rows narrows 'for every input' (looked for: loops, veiled, ifaces, maps, wideKeys, modest, calm, conditions, laid).
  DERIVED. THE GIVEN ROWS OF THIS SEAT. 25 by the template 'for every input the law returns true; each argument reads behind the call as it read before'; 0 by the template 'total and deterministic' (their statements: YtccleelhheilnaaTotals.lean).
  GIVEN WITH THE SEED: the statements are not yours to turn. If you find one false, say at which input.
  Laid BY PROGRAM, IN A SANDBOX (cutbox-rows.mjs): the forced cells as the released guide's own fill.sh prints them over the translation a3bf970029931334… (all of the seat's roots in one cut). By AI agents, Wed Nov 11 2026. No macro, syntax, notation, axiom, sorry.
-/
import Derived.Test.YtccleelhheilnaaChecked
import GoSem.Claim
import GoSem.ClaimJoined
import GoSem.ClaimMapViews
import Derived.JoinedTies
import Derived.KernelRfl
namespace Go.Proofs.Ytccleelhheilnaa
/- THE CELL 'sum', in the pinned program and in every row, IS THE sha256 OF THE DUMP (.gsa) THAT YtccleelhheilnaaProg.lean LOADS. Nothing in Lean hashes anything: it is a label: what it is worth is what the hold of that sum in a sandbox is worth. -/
noncomputable def Try.pinned : Pinned := { name := "ytccleelhheilnaa", sum := "a3bf97002993133433f23a6811630b804b37f4b8434cc0d1675fbe4acfaf4551", checked := Try.checked }
namespace Rows
def none {H : Type} : Left H := { results := [], args := [] }

/-- 'colophonlaw15.SpotPlaces': WHATEVER THE INPUT: true; the input reads as it did. -/
def spotPlacesSpec : ChangeSpec := { name := "spotPlaces", fn := fun _ => fun
  | [d1, d2] => { results := [.lit (.bool true)], args := [d1, d2] }
  | _ => none }
def spotPlacesRow : OpenClaim := { program := "ytccleelhheilnaa", sum := "a3bf97002993133433f23a6811630b804b37f4b8434cc0d1675fbe4acfaf4551", func := "colophon/colophonlaw15.SpotPlaces", spec := "spotPlaces", unfollowed := true, recurses := true, apart := false }
def SpotPlacesSaid : Prop := spotPlacesRow.holds Try.pinned (OpenSpec.ofChange spotPlacesSpec)

/-- ITS FALSE NEIGHBOUR: 'it returns false'. Refute it at one input. -/
def spotPlacesWrong : ChangeSpec := { name := "spotPlaces", fn := fun _ => fun
  | [d1, d2] => { results := [.lit (.bool false)], args := [d1, d2] }
  | _ => none }
def SpotPlacesWrongFalsely : Prop := spotPlacesRow.holds Try.pinned (OpenSpec.ofChange spotPlacesWrong)

/-- 'colophonlaw15.SpotBack': WHATEVER THE INPUT: true; the input reads as it did. -/
def spotBackSpec : ChangeSpec := { name := "spotBack", fn := fun _ => fun
  | [d1, d2, d3, d4] => { results := [.lit (.bool true)], args := [d1, d2, d3, d4] }
  | _ => none }
def spotBackRow : OpenClaim := { program := "ytccleelhheilnaa", sum := "a3bf97002993133433f23a6811630b804b37f4b8434cc0d1675fbe4acfaf4551", func := "colophon/colophonlaw15.SpotBack", spec := "spotBack", unfollowed := true, recurses := true, apart := false }
def SpotBackSaid : Prop := spotBackRow.holds Try.pinned (OpenSpec.ofChange spotBackSpec)

/-- ITS FALSE NEIGHBOUR: 'it returns false'. Refute it at one input. -/
def spotBackWrong : ChangeSpec := { name := "spotBack", fn := fun _ => fun
  | [d1, d2, d3, d4] => { results := [.lit (.bool false)], args := [d1, d2, d3, d4] }
  | _ => none }
def SpotBackWrongFalsely : Prop := spotBackRow.holds Try.pinned (OpenSpec.ofChange spotBackWrong)

/-- 'colophonlaw15.SpotFlips': WHATEVER THE INPUT: true; the input reads as it did. -/
def spotFlipsSpec : ChangeSpec := { name := "spotFlips", fn := fun _ => fun
  | [d1, d2, d3, d4] => { results := [.lit (.bool true)], args := [d1, d2, d3, d4] }
  | _ => none }
def spotFlipsRow : OpenClaim := { program := "ytccleelhheilnaa", sum := "a3bf97002993133433f23a6811630b804b37f4b8434cc0d1675fbe4acfaf4551", func := "colophon/colophonlaw15.SpotFlips", spec := "spotFlips", unfollowed := true, recurses := true, apart := false }
def SpotFlipsSaid : Prop := spotFlipsRow.holds Try.pinned (OpenSpec.ofChange spotFlipsSpec)

/-- ITS FALSE NEIGHBOUR: 'it returns false'. Refute it at one input. -/
def spotFlipsWrong : ChangeSpec := { name := "spotFlips", fn := fun _ => fun
  | [d1, d2, d3, d4] => { results := [.lit (.bool false)], args := [d1, d2, d3, d4] }
  | _ => none }
def SpotFlipsWrongFalsely : Prop := spotFlipsRow.holds Try.pinned (OpenSpec.ofChange spotFlipsWrong)

/-- 'colophonlaw15.SpotLeans': WHATEVER THE INPUT: true; the input reads as it did. -/
def spotLeansSpec : ChangeSpec := { name := "spotLeans", fn := fun _ => fun
  | [d1, d2] => { results := [.lit (.bool true)], args := [d1, d2] }
  | _ => none }
def spotLeansRow : OpenClaim := { program := "ytccleelhheilnaa", sum := "a3bf97002993133433f23a6811630b804b37f4b8434cc0d1675fbe4acfaf4551", func := "colophon/colophonlaw15.SpotLeans", spec := "spotLeans", unfollowed := true, recurses := true, apart := false }
def SpotLeansSaid : Prop := spotLeansRow.holds Try.pinned (OpenSpec.ofChange spotLeansSpec)

/-- ITS FALSE NEIGHBOUR: 'it returns false'. Refute it at one input. -/
def spotLeansWrong : ChangeSpec := { name := "spotLeans", fn := fun _ => fun
  | [d1, d2] => { results := [.lit (.bool false)], args := [d1, d2] }
  | _ => none }
def SpotLeansWrongFalsely : Prop := spotLeansRow.holds Try.pinned (OpenSpec.ofChange spotLeansWrong)

/-- 'colophonlaw15.SpotSteps': WHATEVER THE INPUT: true; the input reads as it did. -/
def spotStepsSpec : ChangeSpec := { name := "spotSteps", fn := fun _ => fun
  | [d1, d2, d3, d4] => { results := [.lit (.bool true)], args := [d1, d2, d3, d4] }
  | _ => none }
def spotStepsRow : OpenClaim := { program := "ytccleelhheilnaa", sum := "a3bf97002993133433f23a6811630b804b37f4b8434cc0d1675fbe4acfaf4551", func := "colophon/colophonlaw15.SpotSteps", spec := "spotSteps", unfollowed := true, recurses := true, apart := false }
def SpotStepsSaid : Prop := spotStepsRow.holds Try.pinned (OpenSpec.ofChange spotStepsSpec)

/-- ITS FALSE NEIGHBOUR: 'it returns false'. Refute it at one input. -/
def spotStepsWrong : ChangeSpec := { name := "spotSteps", fn := fun _ => fun
  | [d1, d2, d3, d4] => { results := [.lit (.bool false)], args := [d1, d2, d3, d4] }
  | _ => none }
def SpotStepsWrongFalsely : Prop := spotStepsRow.holds Try.pinned (OpenSpec.ofChange spotStepsWrong)

/-- 'colophonlaw15.SpotColumns': WHATEVER THE INPUT: true; the input reads as it did. -/
def spotColumnsSpec : ChangeSpec := { name := "spotColumns", fn := fun _ => fun
  | [d1, d2] => { results := [.lit (.bool true)], args := [d1, d2] }
  | _ => none }
def spotColumnsRow : OpenClaim := { program := "ytccleelhheilnaa", sum := "a3bf97002993133433f23a6811630b804b37f4b8434cc0d1675fbe4acfaf4551", func := "colophon/colophonlaw15.SpotColumns", spec := "spotColumns", unfollowed := true, recurses := true, apart := false }
def SpotColumnsSaid : Prop := spotColumnsRow.holds Try.pinned (OpenSpec.ofChange spotColumnsSpec)

/-- ITS FALSE NEIGHBOUR: 'it returns false'. Refute it at one input. -/
def spotColumnsWrong : ChangeSpec := { name := "spotColumns", fn := fun _ => fun
  | [d1, d2] => { results := [.lit (.bool false)], args := [d1, d2] }
  | _ => none }
def SpotColumnsWrongFalsely : Prop := spotColumnsRow.holds Try.pinned (OpenSpec.ofChange spotColumnsWrong)

/-- 'colophonlaw14.MirrorGlyphs': WHATEVER THE INPUT: true; the input reads as it did. -/
def mirrorGlyphsSpec : ChangeSpec := { name := "mirrorGlyphs", fn := fun _ => fun
  | [d1, d2] => { results := [.lit (.bool true)], args := [d1, d2] }
  | _ => none }
def mirrorGlyphsRow : OpenClaim := { program := "ytccleelhheilnaa", sum := "a3bf97002993133433f23a6811630b804b37f4b8434cc0d1675fbe4acfaf4551", func := "colophon/colophonlaw14.MirrorGlyphs", spec := "mirrorGlyphs", apart := false }
def MirrorGlyphsSaid : Prop := mirrorGlyphsRow.holds Try.pinned (OpenSpec.ofChange mirrorGlyphsSpec)

/-- ITS FALSE NEIGHBOUR: 'it returns false'. Refute it at one input. -/
def mirrorGlyphsWrong : ChangeSpec := { name := "mirrorGlyphs", fn := fun _ => fun
  | [d1, d2] => { results := [.lit (.bool false)], args := [d1, d2] }
  | _ => none }
def MirrorGlyphsWrongFalsely : Prop := mirrorGlyphsRow.holds Try.pinned (OpenSpec.ofChange mirrorGlyphsWrong)

/-- 'colophonlaw14.MirrorShows': WHATEVER THE INPUT: true; the input reads as it did. -/
def mirrorShowsSpec : ChangeSpec := { name := "mirrorShows", fn := fun _ => fun
  | [d1, d2] => { results := [.lit (.bool true)], args := [d1, d2] }
  | _ => none }
def mirrorShowsRow : OpenClaim := { program := "ytccleelhheilnaa", sum := "a3bf97002993133433f23a6811630b804b37f4b8434cc0d1675fbe4acfaf4551", func := "colophon/colophonlaw14.MirrorShows", spec := "mirrorShows", recurses := true, apart := false }
def MirrorShowsSaid : Prop := mirrorShowsRow.holds Try.pinned (OpenSpec.ofChange mirrorShowsSpec)

/-- ITS FALSE NEIGHBOUR: 'it returns false'. Refute it at one input. -/
def mirrorShowsWrong : ChangeSpec := { name := "mirrorShows", fn := fun _ => fun
  | [d1, d2] => { results := [.lit (.bool false)], args := [d1, d2] }
  | _ => none }
def MirrorShowsWrongFalsely : Prop := mirrorShowsRow.holds Try.pinned (OpenSpec.ofChange mirrorShowsWrong)

/-- 'colophonlaw14.MirrorTwice': WHATEVER THE INPUT: true; the input reads as it did. -/
def mirrorTwiceSpec : ChangeSpec := { name := "mirrorTwice", fn := fun _ => fun
  | [d1, d2] => { results := [.lit (.bool true)], args := [d1, d2] }
  | _ => none }
def mirrorTwiceRow : OpenClaim := { program := "ytccleelhheilnaa", sum := "a3bf97002993133433f23a6811630b804b37f4b8434cc0d1675fbe4acfaf4551", func := "colophon/colophonlaw14.MirrorTwice", spec := "mirrorTwice", apart := false }
def MirrorTwiceSaid : Prop := mirrorTwiceRow.holds Try.pinned (OpenSpec.ofChange mirrorTwiceSpec)

/-- ITS FALSE NEIGHBOUR: 'it returns false'. Refute it at one input. -/
def mirrorTwiceWrong : ChangeSpec := { name := "mirrorTwice", fn := fun _ => fun
  | [d1, d2] => { results := [.lit (.bool false)], args := [d1, d2] }
  | _ => none }
def MirrorTwiceWrongFalsely : Prop := mirrorTwiceRow.holds Try.pinned (OpenSpec.ofChange mirrorTwiceWrong)

/-- 'colophonlaw14.MirrorPlaces': WHATEVER THE INPUT: true; the input reads as it did. -/
def mirrorPlacesSpec : ChangeSpec := { name := "mirrorPlaces", fn := fun _ => fun
  | [d1, d2] => { results := [.lit (.bool true)], args := [d1, d2] }
  | _ => none }
def mirrorPlacesRow : OpenClaim := { program := "ytccleelhheilnaa", sum := "a3bf97002993133433f23a6811630b804b37f4b8434cc0d1675fbe4acfaf4551", func := "colophon/colophonlaw14.MirrorPlaces", spec := "mirrorPlaces", apart := false }
def MirrorPlacesSaid : Prop := mirrorPlacesRow.holds Try.pinned (OpenSpec.ofChange mirrorPlacesSpec)

/-- ITS FALSE NEIGHBOUR: 'it returns false'. Refute it at one input. -/
def mirrorPlacesWrong : ChangeSpec := { name := "mirrorPlaces", fn := fun _ => fun
  | [d1, d2] => { results := [.lit (.bool false)], args := [d1, d2] }
  | _ => none }
def MirrorPlacesWrongFalsely : Prop := mirrorPlacesRow.holds Try.pinned (OpenSpec.ofChange mirrorPlacesWrong)

/-- 'colophonlaw14.MirrorBack': WHATEVER THE INPUT: true; the input reads as it did. -/
def mirrorBackSpec : ChangeSpec := { name := "mirrorBack", fn := fun _ => fun
  | [d1, d2] => { results := [.lit (.bool true)], args := [d1, d2] }
  | _ => none }
def mirrorBackRow : OpenClaim := { program := "ytccleelhheilnaa", sum := "a3bf97002993133433f23a6811630b804b37f4b8434cc0d1675fbe4acfaf4551", func := "colophon/colophonlaw14.MirrorBack", spec := "mirrorBack", apart := false }
def MirrorBackSaid : Prop := mirrorBackRow.holds Try.pinned (OpenSpec.ofChange mirrorBackSpec)

/-- ITS FALSE NEIGHBOUR: 'it returns false'. Refute it at one input. -/
def mirrorBackWrong : ChangeSpec := { name := "mirrorBack", fn := fun _ => fun
  | [d1, d2] => { results := [.lit (.bool false)], args := [d1, d2] }
  | _ => none }
def MirrorBackWrongFalsely : Prop := mirrorBackRow.holds Try.pinned (OpenSpec.ofChange mirrorBackWrong)

/-- 'colophonlaw13.OrderLines': WHATEVER THE INPUT: true; the input reads as it did. -/
def orderLinesSpec : ChangeSpec := { name := "orderLines", fn := fun _ => fun
  | [d] => { results := [.lit (.bool true)], args := [d] }
  | _ => none }
def orderLinesRow : OpenClaim := { program := "ytccleelhheilnaa", sum := "a3bf97002993133433f23a6811630b804b37f4b8434cc0d1675fbe4acfaf4551", func := "colophon/colophonlaw13.OrderLines", spec := "orderLines", apart := false }
def OrderLinesSaid : Prop := orderLinesRow.holds Try.pinned (OpenSpec.ofChange orderLinesSpec)

/-- ITS FALSE NEIGHBOUR: 'it returns false'. Refute it at one input. -/
def orderLinesWrong : ChangeSpec := { name := "orderLines", fn := fun _ => fun
  | [d] => { results := [.lit (.bool false)], args := [d] }
  | _ => none }
def OrderLinesWrongFalsely : Prop := orderLinesRow.holds Try.pinned (OpenSpec.ofChange orderLinesWrong)

/-- 'colophonlaw13.OrderOrders': WHATEVER THE INPUT: true; the input reads as it did. -/
def orderOrdersSpec : ChangeSpec := { name := "orderOrders", fn := fun _ => fun
  | [d] => { results := [.lit (.bool true)], args := [d] }
  | _ => none }
def orderOrdersRow : OpenClaim := { program := "ytccleelhheilnaa", sum := "a3bf97002993133433f23a6811630b804b37f4b8434cc0d1675fbe4acfaf4551", func := "colophon/colophonlaw13.OrderOrders", spec := "orderOrders", recurses := true, apart := false }
def OrderOrdersSaid : Prop := orderOrdersRow.holds Try.pinned (OpenSpec.ofChange orderOrdersSpec)

/-- ITS FALSE NEIGHBOUR: 'it returns false'. Refute it at one input. -/
def orderOrdersWrong : ChangeSpec := { name := "orderOrders", fn := fun _ => fun
  | [d] => { results := [.lit (.bool false)], args := [d] }
  | _ => none }
def OrderOrdersWrongFalsely : Prop := orderOrdersRow.holds Try.pinned (OpenSpec.ofChange orderOrdersWrong)

/-- 'colophonlaw13.OrderColumns': WHATEVER THE INPUT: true; the input reads as it did. -/
def orderColumnsSpec : ChangeSpec := { name := "orderColumns", fn := fun _ => fun
  | [d1, d2] => { results := [.lit (.bool true)], args := [d1, d2] }
  | _ => none }
def orderColumnsRow : OpenClaim := { program := "ytccleelhheilnaa", sum := "a3bf97002993133433f23a6811630b804b37f4b8434cc0d1675fbe4acfaf4551", func := "colophon/colophonlaw13.OrderColumns", spec := "orderColumns", apart := false }
def OrderColumnsSaid : Prop := orderColumnsRow.holds Try.pinned (OpenSpec.ofChange orderColumnsSpec)

/-- ITS FALSE NEIGHBOUR: 'it returns false'. Refute it at one input. -/
def orderColumnsWrong : ChangeSpec := { name := "orderColumns", fn := fun _ => fun
  | [d1, d2] => { results := [.lit (.bool false)], args := [d1, d2] }
  | _ => none }
def OrderColumnsWrongFalsely : Prop := orderColumnsRow.holds Try.pinned (OpenSpec.ofChange orderColumnsWrong)

/-- 'colophonlaw13.OrderSteps': WHATEVER THE INPUT: true; the input reads as it did. -/
def orderStepsSpec : ChangeSpec := { name := "orderSteps", fn := fun _ => fun
  | [d] => { results := [.lit (.bool true)], args := [d] }
  | _ => none }
def orderStepsRow : OpenClaim := { program := "ytccleelhheilnaa", sum := "a3bf97002993133433f23a6811630b804b37f4b8434cc0d1675fbe4acfaf4551", func := "colophon/colophonlaw13.OrderSteps", spec := "orderSteps", apart := false }
def OrderStepsSaid : Prop := orderStepsRow.holds Try.pinned (OpenSpec.ofChange orderStepsSpec)

/-- ITS FALSE NEIGHBOUR: 'it returns false'. Refute it at one input. -/
def orderStepsWrong : ChangeSpec := { name := "orderSteps", fn := fun _ => fun
  | [d] => { results := [.lit (.bool false)], args := [d] }
  | _ => none }
def OrderStepsWrongFalsely : Prop := orderStepsRow.holds Try.pinned (OpenSpec.ofChange orderStepsWrong)

/-- 'colophonlaw13.OrderFlat': WHATEVER THE INPUT: true; the input reads as it did. -/
def orderFlatSpec : ChangeSpec := { name := "orderFlat", fn := fun _ => fun
  | [d1, d2] => { results := [.lit (.bool true)], args := [d1, d2] }
  | _ => none }
def orderFlatRow : OpenClaim := { program := "ytccleelhheilnaa", sum := "a3bf97002993133433f23a6811630b804b37f4b8434cc0d1675fbe4acfaf4551", func := "colophon/colophonlaw13.OrderFlat", spec := "orderFlat", apart := false }
def OrderFlatSaid : Prop := orderFlatRow.holds Try.pinned (OpenSpec.ofChange orderFlatSpec)

/-- ITS FALSE NEIGHBOUR: 'it returns false'. Refute it at one input. -/
def orderFlatWrong : ChangeSpec := { name := "orderFlat", fn := fun _ => fun
  | [d1, d2] => { results := [.lit (.bool false)], args := [d1, d2] }
  | _ => none }
def OrderFlatWrongFalsely : Prop := orderFlatRow.holds Try.pinned (OpenSpec.ofChange orderFlatWrong)

/-- 'colophonlaw13.OrderCuts': WHATEVER THE INPUT: true; the input reads as it did. -/
def orderCutsSpec : ChangeSpec := { name := "orderCuts", fn := fun _ => fun
  | [d] => { results := [.lit (.bool true)], args := [d] }
  | _ => none }
def orderCutsRow : OpenClaim := { program := "ytccleelhheilnaa", sum := "a3bf97002993133433f23a6811630b804b37f4b8434cc0d1675fbe4acfaf4551", func := "colophon/colophonlaw13.OrderCuts", spec := "orderCuts", apart := false }
def OrderCutsSaid : Prop := orderCutsRow.holds Try.pinned (OpenSpec.ofChange orderCutsSpec)

/-- ITS FALSE NEIGHBOUR: 'it returns false'. Refute it at one input. -/
def orderCutsWrong : ChangeSpec := { name := "orderCuts", fn := fun _ => fun
  | [d] => { results := [.lit (.bool false)], args := [d] }
  | _ => none }
def OrderCutsWrongFalsely : Prop := orderCutsRow.holds Try.pinned (OpenSpec.ofChange orderCutsWrong)

/-- 'colophonlaw13.OrderRuns': WHATEVER THE INPUT: true; the input reads as it did. -/
def orderRunsSpec : ChangeSpec := { name := "orderRuns", fn := fun _ => fun
  | [d] => { results := [.lit (.bool true)], args := [d] }
  | _ => none }
def orderRunsRow : OpenClaim := { program := "ytccleelhheilnaa", sum := "a3bf97002993133433f23a6811630b804b37f4b8434cc0d1675fbe4acfaf4551", func := "colophon/colophonlaw13.OrderRuns", spec := "orderRuns", recurses := true, apart := false }
def OrderRunsSaid : Prop := orderRunsRow.holds Try.pinned (OpenSpec.ofChange orderRunsSpec)

/-- ITS FALSE NEIGHBOUR: 'it returns false'. Refute it at one input. -/
def orderRunsWrong : ChangeSpec := { name := "orderRuns", fn := fun _ => fun
  | [d] => { results := [.lit (.bool false)], args := [d] }
  | _ => none }
def OrderRunsWrongFalsely : Prop := orderRunsRow.holds Try.pinned (OpenSpec.ofChange orderRunsWrong)

/-- 'colophonlaw13.OrderPermutes': WHATEVER THE INPUT: true; the input reads as it did. -/
def orderPermutesSpec : ChangeSpec := { name := "orderPermutes", fn := fun _ => fun
  | [d] => { results := [.lit (.bool true)], args := [d] }
  | _ => none }
def orderPermutesRow : OpenClaim := { program := "ytccleelhheilnaa", sum := "a3bf97002993133433f23a6811630b804b37f4b8434cc0d1675fbe4acfaf4551", func := "colophon/colophonlaw13.OrderPermutes", spec := "orderPermutes", apart := false }
def OrderPermutesSaid : Prop := orderPermutesRow.holds Try.pinned (OpenSpec.ofChange orderPermutesSpec)

/-- ITS FALSE NEIGHBOUR: 'it returns false'. Refute it at one input. -/
def orderPermutesWrong : ChangeSpec := { name := "orderPermutes", fn := fun _ => fun
  | [d] => { results := [.lit (.bool false)], args := [d] }
  | _ => none }
def OrderPermutesWrongFalsely : Prop := orderPermutesRow.holds Try.pinned (OpenSpec.ofChange orderPermutesWrong)

/-- 'colophonlaw16.PickRuns': WHATEVER THE INPUT: true; the input reads as it did. -/
def pickRunsSpec : ChangeSpec := { name := "pickRuns", fn := fun _ => fun
  | [d1, d2, d3] => { results := [.lit (.bool true)], args := [d1, d2, d3] }
  | _ => none }
def pickRunsRow : OpenClaim := { program := "ytccleelhheilnaa", sum := "a3bf97002993133433f23a6811630b804b37f4b8434cc0d1675fbe4acfaf4551", func := "colophon/colophonlaw16.PickRuns", spec := "pickRuns", unfollowed := true, recurses := true, apart := false }
def PickRunsSaid : Prop := pickRunsRow.holds Try.pinned (OpenSpec.ofChange pickRunsSpec)

/-- ITS FALSE NEIGHBOUR: 'it returns false'. Refute it at one input. -/
def pickRunsWrong : ChangeSpec := { name := "pickRuns", fn := fun _ => fun
  | [d1, d2, d3] => { results := [.lit (.bool false)], args := [d1, d2, d3] }
  | _ => none }
def PickRunsWrongFalsely : Prop := pickRunsRow.holds Try.pinned (OpenSpec.ofChange pickRunsWrong)

/-- 'colophonlaw16.PickPlaces': WHATEVER THE INPUT: true; the input reads as it did. -/
def pickPlacesSpec : ChangeSpec := { name := "pickPlaces", fn := fun _ => fun
  | [d1, d2] => { results := [.lit (.bool true)], args := [d1, d2] }
  | _ => none }
def pickPlacesRow : OpenClaim := { program := "ytccleelhheilnaa", sum := "a3bf97002993133433f23a6811630b804b37f4b8434cc0d1675fbe4acfaf4551", func := "colophon/colophonlaw16.PickPlaces", spec := "pickPlaces", unfollowed := true, recurses := true, apart := false }
def PickPlacesSaid : Prop := pickPlacesRow.holds Try.pinned (OpenSpec.ofChange pickPlacesSpec)

/-- ITS FALSE NEIGHBOUR: 'it returns false'. Refute it at one input. -/
def pickPlacesWrong : ChangeSpec := { name := "pickPlaces", fn := fun _ => fun
  | [d1, d2] => { results := [.lit (.bool false)], args := [d1, d2] }
  | _ => none }
def PickPlacesWrongFalsely : Prop := pickPlacesRow.holds Try.pinned (OpenSpec.ofChange pickPlacesWrong)

/-- 'colophonlaw16.PickImage': WHATEVER THE INPUT: true; the input reads as it did. -/
def pickImageSpec : ChangeSpec := { name := "pickImage", fn := fun _ => fun
  | [d1, d2, d3] => { results := [.lit (.bool true)], args := [d1, d2, d3] }
  | _ => none }
def pickImageRow : OpenClaim := { program := "ytccleelhheilnaa", sum := "a3bf97002993133433f23a6811630b804b37f4b8434cc0d1675fbe4acfaf4551", func := "colophon/colophonlaw16.PickImage", spec := "pickImage", unfollowed := true, recurses := true, apart := false }
def PickImageSaid : Prop := pickImageRow.holds Try.pinned (OpenSpec.ofChange pickImageSpec)

/-- ITS FALSE NEIGHBOUR: 'it returns false'. Refute it at one input. -/
def pickImageWrong : ChangeSpec := { name := "pickImage", fn := fun _ => fun
  | [d1, d2, d3] => { results := [.lit (.bool false)], args := [d1, d2, d3] }
  | _ => none }
def PickImageWrongFalsely : Prop := pickImageRow.holds Try.pinned (OpenSpec.ofChange pickImageWrong)

/-- 'colophonlaw16.PickApart': WHATEVER THE INPUT: true; the input reads as it did. -/
def pickApartSpec : ChangeSpec := { name := "pickApart", fn := fun _ => fun
  | [d1, d2, d3] => { results := [.lit (.bool true)], args := [d1, d2, d3] }
  | _ => none }
def pickApartRow : OpenClaim := { program := "ytccleelhheilnaa", sum := "a3bf97002993133433f23a6811630b804b37f4b8434cc0d1675fbe4acfaf4551", func := "colophon/colophonlaw16.PickApart", spec := "pickApart", unfollowed := true, recurses := true, apart := false }
def PickApartSaid : Prop := pickApartRow.holds Try.pinned (OpenSpec.ofChange pickApartSpec)

/-- ITS FALSE NEIGHBOUR: 'it returns false'. Refute it at one input. -/
def pickApartWrong : ChangeSpec := { name := "pickApart", fn := fun _ => fun
  | [d1, d2, d3] => { results := [.lit (.bool false)], args := [d1, d2, d3] }
  | _ => none }
def PickApartWrongFalsely : Prop := pickApartRow.holds Try.pinned (OpenSpec.ofChange pickApartWrong)

/-- 'colophonlaw16.PickWhole': WHATEVER THE INPUT: true; the input reads as it did. -/
def pickWholeSpec : ChangeSpec := { name := "pickWhole", fn := fun _ => fun
  | [d1, d2] => { results := [.lit (.bool true)], args := [d1, d2] }
  | _ => none }
def pickWholeRow : OpenClaim := { program := "ytccleelhheilnaa", sum := "a3bf97002993133433f23a6811630b804b37f4b8434cc0d1675fbe4acfaf4551", func := "colophon/colophonlaw16.PickWhole", spec := "pickWhole", unfollowed := true, recurses := true, apart := false }
def PickWholeSaid : Prop := pickWholeRow.holds Try.pinned (OpenSpec.ofChange pickWholeSpec)

/-- ITS FALSE NEIGHBOUR: 'it returns false'. Refute it at one input. -/
def pickWholeWrong : ChangeSpec := { name := "pickWhole", fn := fun _ => fun
  | [d1, d2] => { results := [.lit (.bool false)], args := [d1, d2] }
  | _ => none }
def PickWholeWrongFalsely : Prop := pickWholeRow.holds Try.pinned (OpenSpec.ofChange pickWholeWrong)

/-- 'colophonlaw16.PickSplits': WHATEVER THE INPUT: true; the input reads as it did. -/
def pickSplitsSpec : ChangeSpec := { name := "pickSplits", fn := fun _ => fun
  | [d1, d2, d3, d4] => { results := [.lit (.bool true)], args := [d1, d2, d3, d4] }
  | _ => none }
def pickSplitsRow : OpenClaim := { program := "ytccleelhheilnaa", sum := "a3bf97002993133433f23a6811630b804b37f4b8434cc0d1675fbe4acfaf4551", func := "colophon/colophonlaw16.PickSplits", spec := "pickSplits", unfollowed := true, recurses := true, apart := false }
def PickSplitsSaid : Prop := pickSplitsRow.holds Try.pinned (OpenSpec.ofChange pickSplitsSpec)

/-- ITS FALSE NEIGHBOUR: 'it returns false'. Refute it at one input. -/
def pickSplitsWrong : ChangeSpec := { name := "pickSplits", fn := fun _ => fun
  | [d1, d2, d3, d4] => { results := [.lit (.bool false)], args := [d1, d2, d3, d4] }
  | _ => none }
def PickSplitsWrongFalsely : Prop := pickSplitsRow.holds Try.pinned (OpenSpec.ofChange pickSplitsWrong)

/- THE SECOND FORM. 'bulk': how many values and letters a reading holds, each counted each time it is reached (what is shared counts as often as it is met; a slice's spare places count too). A statement '..UptoSaid' is the law's where the arguments, and the package variables that the reading takes, are together of bulk at most 1048576: NARROWER than '..Said'. Prove '..Said' where nothing that the law and all that it calls make is longer than what came in: it says more and counts as full. Else prove '..UptoSaid'. A law counts once. -/
mutual
def uptoBulk {H : Type} : DataW H → Nat
  | .lit (.string bytes) => bytes.length + 1
  | .lit _ => 1
  | .nil => 1
  | .ptr d => uptoBulk d + 1
  | .slice elems spare => uptoBulkAll elems + uptoBulkAll spare + 1
  | .agg parts => uptoBulkAll parts + 1
  | .iface _ d => uptoBulk d + 1
  | .map entries => uptoBulkEntries entries + 1
  | .held _ => 1
def uptoBulkAll {H : Type} : List (DataW H) → Nat
  | [] => 0
  | d :: r => uptoBulk d + uptoBulkAll r
def uptoBulkEntries {H : Type} : List (Lit × DataW H) → Nat
  | [] => 0
  | x :: r => uptoBulkEntry x + uptoBulkEntries r
def uptoBulkEntry {H : Type} : Lit × DataW H → Nat
  | (.string bytes, d) => bytes.length + uptoBulk d + 1
  | (_, d) => uptoBulk d + 1
 end
def uptoSmall : (H : Type) → List (DataW H) → Bool := fun _ ds => decide (uptoBulkAll ds ≤ 1048576)
def OpenSpec.upto (s : _root_.Go.ChangeSpec) : _root_.Go.OpenSpec := { _root_.Go.OpenSpec.ofChange s with cond := some uptoSmall }

/-- 'colophonlaw15.SpotPlaces', WHERE WHAT IT READS IS OF BULK AT MOST 1048576: true; the input reads as it did. -/
def spotPlacesUptoRow : OpenClaim := { program := "ytccleelhheilnaa", sum := "a3bf97002993133433f23a6811630b804b37f4b8434cc0d1675fbe4acfaf4551", func := "colophon/colophonlaw15.SpotPlaces", spec := "spotPlaces", unfollowed := true, recurses := true, apart := false, narrowed := true }
def SpotPlacesUptoSaid : Prop := spotPlacesUptoRow.holds Try.pinned (OpenSpec.upto spotPlacesSpec)

/-- 'colophonlaw15.SpotBack', WHERE WHAT IT READS IS OF BULK AT MOST 1048576: true; the input reads as it did. -/
def spotBackUptoRow : OpenClaim := { program := "ytccleelhheilnaa", sum := "a3bf97002993133433f23a6811630b804b37f4b8434cc0d1675fbe4acfaf4551", func := "colophon/colophonlaw15.SpotBack", spec := "spotBack", unfollowed := true, recurses := true, apart := false, narrowed := true }
def SpotBackUptoSaid : Prop := spotBackUptoRow.holds Try.pinned (OpenSpec.upto spotBackSpec)

/-- 'colophonlaw15.SpotFlips', WHERE WHAT IT READS IS OF BULK AT MOST 1048576: true; the input reads as it did. -/
def spotFlipsUptoRow : OpenClaim := { program := "ytccleelhheilnaa", sum := "a3bf97002993133433f23a6811630b804b37f4b8434cc0d1675fbe4acfaf4551", func := "colophon/colophonlaw15.SpotFlips", spec := "spotFlips", unfollowed := true, recurses := true, apart := false, narrowed := true }
def SpotFlipsUptoSaid : Prop := spotFlipsUptoRow.holds Try.pinned (OpenSpec.upto spotFlipsSpec)

/-- 'colophonlaw15.SpotLeans', WHERE WHAT IT READS IS OF BULK AT MOST 1048576: true; the input reads as it did. -/
def spotLeansUptoRow : OpenClaim := { program := "ytccleelhheilnaa", sum := "a3bf97002993133433f23a6811630b804b37f4b8434cc0d1675fbe4acfaf4551", func := "colophon/colophonlaw15.SpotLeans", spec := "spotLeans", unfollowed := true, recurses := true, apart := false, narrowed := true }
def SpotLeansUptoSaid : Prop := spotLeansUptoRow.holds Try.pinned (OpenSpec.upto spotLeansSpec)

/-- 'colophonlaw15.SpotSteps', WHERE WHAT IT READS IS OF BULK AT MOST 1048576: true; the input reads as it did. -/
def spotStepsUptoRow : OpenClaim := { program := "ytccleelhheilnaa", sum := "a3bf97002993133433f23a6811630b804b37f4b8434cc0d1675fbe4acfaf4551", func := "colophon/colophonlaw15.SpotSteps", spec := "spotSteps", unfollowed := true, recurses := true, apart := false, narrowed := true }
def SpotStepsUptoSaid : Prop := spotStepsUptoRow.holds Try.pinned (OpenSpec.upto spotStepsSpec)

/-- 'colophonlaw15.SpotColumns', WHERE WHAT IT READS IS OF BULK AT MOST 1048576: true; the input reads as it did. -/
def spotColumnsUptoRow : OpenClaim := { program := "ytccleelhheilnaa", sum := "a3bf97002993133433f23a6811630b804b37f4b8434cc0d1675fbe4acfaf4551", func := "colophon/colophonlaw15.SpotColumns", spec := "spotColumns", unfollowed := true, recurses := true, apart := false, narrowed := true }
def SpotColumnsUptoSaid : Prop := spotColumnsUptoRow.holds Try.pinned (OpenSpec.upto spotColumnsSpec)

/-- 'colophonlaw14.MirrorGlyphs', WHERE WHAT IT READS IS OF BULK AT MOST 1048576: true; the input reads as it did. -/
def mirrorGlyphsUptoRow : OpenClaim := { program := "ytccleelhheilnaa", sum := "a3bf97002993133433f23a6811630b804b37f4b8434cc0d1675fbe4acfaf4551", func := "colophon/colophonlaw14.MirrorGlyphs", spec := "mirrorGlyphs", apart := false, narrowed := true }
def MirrorGlyphsUptoSaid : Prop := mirrorGlyphsUptoRow.holds Try.pinned (OpenSpec.upto mirrorGlyphsSpec)

/-- 'colophonlaw14.MirrorShows', WHERE WHAT IT READS IS OF BULK AT MOST 1048576: true; the input reads as it did. -/
def mirrorShowsUptoRow : OpenClaim := { program := "ytccleelhheilnaa", sum := "a3bf97002993133433f23a6811630b804b37f4b8434cc0d1675fbe4acfaf4551", func := "colophon/colophonlaw14.MirrorShows", spec := "mirrorShows", recurses := true, apart := false, narrowed := true }
def MirrorShowsUptoSaid : Prop := mirrorShowsUptoRow.holds Try.pinned (OpenSpec.upto mirrorShowsSpec)

/-- 'colophonlaw14.MirrorTwice', WHERE WHAT IT READS IS OF BULK AT MOST 1048576: true; the input reads as it did. -/
def mirrorTwiceUptoRow : OpenClaim := { program := "ytccleelhheilnaa", sum := "a3bf97002993133433f23a6811630b804b37f4b8434cc0d1675fbe4acfaf4551", func := "colophon/colophonlaw14.MirrorTwice", spec := "mirrorTwice", apart := false, narrowed := true }
def MirrorTwiceUptoSaid : Prop := mirrorTwiceUptoRow.holds Try.pinned (OpenSpec.upto mirrorTwiceSpec)

/-- 'colophonlaw14.MirrorPlaces', WHERE WHAT IT READS IS OF BULK AT MOST 1048576: true; the input reads as it did. -/
def mirrorPlacesUptoRow : OpenClaim := { program := "ytccleelhheilnaa", sum := "a3bf97002993133433f23a6811630b804b37f4b8434cc0d1675fbe4acfaf4551", func := "colophon/colophonlaw14.MirrorPlaces", spec := "mirrorPlaces", apart := false, narrowed := true }
def MirrorPlacesUptoSaid : Prop := mirrorPlacesUptoRow.holds Try.pinned (OpenSpec.upto mirrorPlacesSpec)

/-- 'colophonlaw14.MirrorBack', WHERE WHAT IT READS IS OF BULK AT MOST 1048576: true; the input reads as it did. -/
def mirrorBackUptoRow : OpenClaim := { program := "ytccleelhheilnaa", sum := "a3bf97002993133433f23a6811630b804b37f4b8434cc0d1675fbe4acfaf4551", func := "colophon/colophonlaw14.MirrorBack", spec := "mirrorBack", apart := false, narrowed := true }
def MirrorBackUptoSaid : Prop := mirrorBackUptoRow.holds Try.pinned (OpenSpec.upto mirrorBackSpec)

/-- 'colophonlaw13.OrderLines', WHERE WHAT IT READS IS OF BULK AT MOST 1048576: true; the input reads as it did. -/
def orderLinesUptoRow : OpenClaim := { program := "ytccleelhheilnaa", sum := "a3bf97002993133433f23a6811630b804b37f4b8434cc0d1675fbe4acfaf4551", func := "colophon/colophonlaw13.OrderLines", spec := "orderLines", apart := false, narrowed := true }
def OrderLinesUptoSaid : Prop := orderLinesUptoRow.holds Try.pinned (OpenSpec.upto orderLinesSpec)

/-- 'colophonlaw13.OrderOrders', WHERE WHAT IT READS IS OF BULK AT MOST 1048576: true; the input reads as it did. -/
def orderOrdersUptoRow : OpenClaim := { program := "ytccleelhheilnaa", sum := "a3bf97002993133433f23a6811630b804b37f4b8434cc0d1675fbe4acfaf4551", func := "colophon/colophonlaw13.OrderOrders", spec := "orderOrders", recurses := true, apart := false, narrowed := true }
def OrderOrdersUptoSaid : Prop := orderOrdersUptoRow.holds Try.pinned (OpenSpec.upto orderOrdersSpec)

/-- 'colophonlaw13.OrderColumns', WHERE WHAT IT READS IS OF BULK AT MOST 1048576: true; the input reads as it did. -/
def orderColumnsUptoRow : OpenClaim := { program := "ytccleelhheilnaa", sum := "a3bf97002993133433f23a6811630b804b37f4b8434cc0d1675fbe4acfaf4551", func := "colophon/colophonlaw13.OrderColumns", spec := "orderColumns", apart := false, narrowed := true }
def OrderColumnsUptoSaid : Prop := orderColumnsUptoRow.holds Try.pinned (OpenSpec.upto orderColumnsSpec)

/-- 'colophonlaw13.OrderSteps', WHERE WHAT IT READS IS OF BULK AT MOST 1048576: true; the input reads as it did. -/
def orderStepsUptoRow : OpenClaim := { program := "ytccleelhheilnaa", sum := "a3bf97002993133433f23a6811630b804b37f4b8434cc0d1675fbe4acfaf4551", func := "colophon/colophonlaw13.OrderSteps", spec := "orderSteps", apart := false, narrowed := true }
def OrderStepsUptoSaid : Prop := orderStepsUptoRow.holds Try.pinned (OpenSpec.upto orderStepsSpec)

/-- 'colophonlaw13.OrderFlat', WHERE WHAT IT READS IS OF BULK AT MOST 1048576: true; the input reads as it did. -/
def orderFlatUptoRow : OpenClaim := { program := "ytccleelhheilnaa", sum := "a3bf97002993133433f23a6811630b804b37f4b8434cc0d1675fbe4acfaf4551", func := "colophon/colophonlaw13.OrderFlat", spec := "orderFlat", apart := false, narrowed := true }
def OrderFlatUptoSaid : Prop := orderFlatUptoRow.holds Try.pinned (OpenSpec.upto orderFlatSpec)

/-- 'colophonlaw13.OrderCuts', WHERE WHAT IT READS IS OF BULK AT MOST 1048576: true; the input reads as it did. -/
def orderCutsUptoRow : OpenClaim := { program := "ytccleelhheilnaa", sum := "a3bf97002993133433f23a6811630b804b37f4b8434cc0d1675fbe4acfaf4551", func := "colophon/colophonlaw13.OrderCuts", spec := "orderCuts", apart := false, narrowed := true }
def OrderCutsUptoSaid : Prop := orderCutsUptoRow.holds Try.pinned (OpenSpec.upto orderCutsSpec)

/-- 'colophonlaw13.OrderRuns', WHERE WHAT IT READS IS OF BULK AT MOST 1048576: true; the input reads as it did. -/
def orderRunsUptoRow : OpenClaim := { program := "ytccleelhheilnaa", sum := "a3bf97002993133433f23a6811630b804b37f4b8434cc0d1675fbe4acfaf4551", func := "colophon/colophonlaw13.OrderRuns", spec := "orderRuns", recurses := true, apart := false, narrowed := true }
def OrderRunsUptoSaid : Prop := orderRunsUptoRow.holds Try.pinned (OpenSpec.upto orderRunsSpec)

/-- 'colophonlaw13.OrderPermutes', WHERE WHAT IT READS IS OF BULK AT MOST 1048576: true; the input reads as it did. -/
def orderPermutesUptoRow : OpenClaim := { program := "ytccleelhheilnaa", sum := "a3bf97002993133433f23a6811630b804b37f4b8434cc0d1675fbe4acfaf4551", func := "colophon/colophonlaw13.OrderPermutes", spec := "orderPermutes", apart := false, narrowed := true }
def OrderPermutesUptoSaid : Prop := orderPermutesUptoRow.holds Try.pinned (OpenSpec.upto orderPermutesSpec)

/-- 'colophonlaw16.PickRuns', WHERE WHAT IT READS IS OF BULK AT MOST 1048576: true; the input reads as it did. -/
def pickRunsUptoRow : OpenClaim := { program := "ytccleelhheilnaa", sum := "a3bf97002993133433f23a6811630b804b37f4b8434cc0d1675fbe4acfaf4551", func := "colophon/colophonlaw16.PickRuns", spec := "pickRuns", unfollowed := true, recurses := true, apart := false, narrowed := true }
def PickRunsUptoSaid : Prop := pickRunsUptoRow.holds Try.pinned (OpenSpec.upto pickRunsSpec)

/-- 'colophonlaw16.PickPlaces', WHERE WHAT IT READS IS OF BULK AT MOST 1048576: true; the input reads as it did. -/
def pickPlacesUptoRow : OpenClaim := { program := "ytccleelhheilnaa", sum := "a3bf97002993133433f23a6811630b804b37f4b8434cc0d1675fbe4acfaf4551", func := "colophon/colophonlaw16.PickPlaces", spec := "pickPlaces", unfollowed := true, recurses := true, apart := false, narrowed := true }
def PickPlacesUptoSaid : Prop := pickPlacesUptoRow.holds Try.pinned (OpenSpec.upto pickPlacesSpec)

/-- 'colophonlaw16.PickImage', WHERE WHAT IT READS IS OF BULK AT MOST 1048576: true; the input reads as it did. -/
def pickImageUptoRow : OpenClaim := { program := "ytccleelhheilnaa", sum := "a3bf97002993133433f23a6811630b804b37f4b8434cc0d1675fbe4acfaf4551", func := "colophon/colophonlaw16.PickImage", spec := "pickImage", unfollowed := true, recurses := true, apart := false, narrowed := true }
def PickImageUptoSaid : Prop := pickImageUptoRow.holds Try.pinned (OpenSpec.upto pickImageSpec)

/-- 'colophonlaw16.PickApart', WHERE WHAT IT READS IS OF BULK AT MOST 1048576: true; the input reads as it did. -/
def pickApartUptoRow : OpenClaim := { program := "ytccleelhheilnaa", sum := "a3bf97002993133433f23a6811630b804b37f4b8434cc0d1675fbe4acfaf4551", func := "colophon/colophonlaw16.PickApart", spec := "pickApart", unfollowed := true, recurses := true, apart := false, narrowed := true }
def PickApartUptoSaid : Prop := pickApartUptoRow.holds Try.pinned (OpenSpec.upto pickApartSpec)

/-- 'colophonlaw16.PickWhole', WHERE WHAT IT READS IS OF BULK AT MOST 1048576: true; the input reads as it did. -/
def pickWholeUptoRow : OpenClaim := { program := "ytccleelhheilnaa", sum := "a3bf97002993133433f23a6811630b804b37f4b8434cc0d1675fbe4acfaf4551", func := "colophon/colophonlaw16.PickWhole", spec := "pickWhole", unfollowed := true, recurses := true, apart := false, narrowed := true }
def PickWholeUptoSaid : Prop := pickWholeUptoRow.holds Try.pinned (OpenSpec.upto pickWholeSpec)

/-- 'colophonlaw16.PickSplits', WHERE WHAT IT READS IS OF BULK AT MOST 1048576: true; the input reads as it did. -/
def pickSplitsUptoRow : OpenClaim := { program := "ytccleelhheilnaa", sum := "a3bf97002993133433f23a6811630b804b37f4b8434cc0d1675fbe4acfaf4551", func := "colophon/colophonlaw16.PickSplits", spec := "pickSplits", unfollowed := true, recurses := true, apart := false, narrowed := true }
def PickSplitsUptoSaid : Prop := pickSplitsUptoRow.holds Try.pinned (OpenSpec.upto pickSplitsSpec)

end Rows
end Go.Proofs.Ytccleelhheilnaa
