/-
  DERIVED. GIVEN WITH THE SEED: THE CARDS: each row of YtenjldfflkinkaaDoorRows.lean that lists a variable, with what it lists TIED to the program's text (the seventh form; the later family's looks); each row that meets fmt, with fmt's text TOLD by the authors' own Lean function (tested against real Go, not proved from fmt's source: count such statements apart). THE CARD IS WHAT COUNTS. Prove the row's statement (the work); the ties are given (YtenjldfflkinkaaDoorTie.lean); close each card by the builder's one call (the guide's Derived/Test/ToyasCard.lean, 'card_holds'). Laid BY PROGRAM, IN A SANDBOX (cutbox-door.mjs). By AI agents, Wed Nov 11 2026. No macro, syntax, notation, axiom, sorry.
-/
import Derived.Test.YtenjldfflkinkaaDoorRows
import GoSem.ClaimSeven
namespace Go.Proofs.YtenjldfflkinkaaDoor
namespace Rows

/-- THE TIED CARD OF 'colophontop.TopSaves'. -/
def topSavesCard : Claim7 := { stood := { row := topSavesRow, standIns := [], harness := (true, "4d2bb1463ee905858b2ad00a48cb358d3ab40173f9e32d3685a6b9521b5d54fc"), looks := true }, kinds := [], alts := [], laidByText := true, laidKinds := [.data], laidTests := true, laidLooks := .later }
def TopSavesCardSaid : Prop := Claim7.holds Tryd.pinned (.plain (OpenSpec.ofChange topSavesSpec)) topSavesCard

/-- THE SECOND FORM's CARD OF 'colophontop.TopSaves'. -/
def topSavesUptoCard : Claim7 := { stood := { row := topSavesUptoRow, standIns := [], harness := (true, "4d2bb1463ee905858b2ad00a48cb358d3ab40173f9e32d3685a6b9521b5d54fc"), looks := true }, kinds := [], alts := [], laidByText := true, laidKinds := [.data], laidTests := true, laidLooks := .later }
def TopSavesUptoCardSaid : Prop := Claim7.holds Tryd.pinned (.plain (OpenSpec.upto topSavesSpec)) topSavesUptoCard
end Rows
end Go.Proofs.YtenjldfflkinkaaDoor
