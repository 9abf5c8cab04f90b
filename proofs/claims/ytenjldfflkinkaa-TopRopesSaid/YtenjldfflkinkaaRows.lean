/-
  No cell of these rows narrows 'for every input' (looked for: loops, veiled, ifaces, maps, wideKeys, modest, calm, conditions, laid).
  DERIVED. THE GIVEN ROWS OF THIS SEAT. 7 by the template 'for every input the law returns true; each argument reads behind the call as it read before'; 0 by the template 'total and deterministic' (their statements: YtenjldfflkinkaaTotals.lean).
  GIVEN WITH THE SEED: the statements are not yours to turn. If you find one false, say at which input.
  Laid BY PROGRAM, IN A SANDBOX (cutbox-rows.mjs): the forced cells as the released guide's own fill.sh prints them over the translation e8ae2a7b95155aac… (all of the seat's roots in one cut). By AI agents, Wed Nov 11 2026. No macro, syntax, notation, axiom, sorry.
-/
import Derived.Test.YtenjldfflkinkaaChecked
import GoSem.Claim
import GoSem.ClaimJoined
import GoSem.ClaimMapViews
import Derived.JoinedTies
import Derived.KernelRfl
namespace Go.Proofs.Ytenjldfflkinkaa
/- THE CELL 'sum', in the pinned program and in every row, IS THE sha256 OF THE DUMP (.gsa) THAT YtenjldfflkinkaaProg.lean LOADS. Nothing in Lean hashes anything: it is a label: what it is worth is what the hold of that sum in a sandbox is worth. -/
noncomputable def Try.pinned : Pinned := { name := "ytenjldfflkinkaa", sum := "e8ae2a7b95155aac5dd398a9c8066ba7df3b3db7817054579bed174d11d14952", checked := Try.checked }
namespace Rows
def none {H : Type} : Left H := { results := [], args := [] }

/-- 'colophontop.TopRopes': WHATEVER THE INPUT: true; the input reads as it did. -/
def topRopesSpec : ChangeSpec := { name := "topRopes", fn := fun _ => fun
  | [d1, d2] => { results := [.lit (.bool true)], args := [d1, d2] }
  | _ => none }
def topRopesRow : OpenClaim := { program := "ytenjldfflkinkaa", sum := "e8ae2a7b95155aac5dd398a9c8066ba7df3b3db7817054579bed174d11d14952", func := "colophon/colophontop.TopRopes", spec := "topRopes", unfollowed := true, recurses := true, apart := false }
def TopRopesSaid : Prop := topRopesRow.holds Try.pinned (OpenSpec.ofChange topRopesSpec)

/-- ITS FALSE NEIGHBOUR: 'it returns false'. Refute it at one input. -/
def topRopesWrong : ChangeSpec := { name := "topRopes", fn := fun _ => fun
  | [d1, d2] => { results := [.lit (.bool false)], args := [d1, d2] }
  | _ => none }
def TopRopesWrongFalsely : Prop := topRopesRow.holds Try.pinned (OpenSpec.ofChange topRopesWrong)

/-- 'colophonlaw04.RopeLeaves': WHATEVER THE INPUT: true; the input reads as it did. -/
def ropeLeavesSpec : ChangeSpec := { name := "ropeLeaves", fn := fun _ => fun
  | [d1, d2] => { results := [.lit (.bool true)], args := [d1, d2] }
  | _ => none }
def ropeLeavesRow : OpenClaim := { program := "ytenjldfflkinkaa", sum := "e8ae2a7b95155aac5dd398a9c8066ba7df3b3db7817054579bed174d11d14952", func := "colophon/colophonlaw04.RopeLeaves", spec := "ropeLeaves", unfollowed := true, recurses := true, apart := false }
def RopeLeavesSaid : Prop := ropeLeavesRow.holds Try.pinned (OpenSpec.ofChange ropeLeavesSpec)

/-- ITS FALSE NEIGHBOUR: 'it returns false'. Refute it at one input. -/
def ropeLeavesWrong : ChangeSpec := { name := "ropeLeaves", fn := fun _ => fun
  | [d1, d2] => { results := [.lit (.bool false)], args := [d1, d2] }
  | _ => none }
def RopeLeavesWrongFalsely : Prop := ropeLeavesRow.holds Try.pinned (OpenSpec.ofChange ropeLeavesWrong)

/-- 'colophonlaw04.RopeParas': WHATEVER THE INPUT: true; the input reads as it did. -/
def ropeParasSpec : ChangeSpec := { name := "ropeParas", fn := fun _ => fun
  | [d] => { results := [.lit (.bool true)], args := [d] }
  | _ => none }
def ropeParasRow : OpenClaim := { program := "ytenjldfflkinkaa", sum := "e8ae2a7b95155aac5dd398a9c8066ba7df3b3db7817054579bed174d11d14952", func := "colophon/colophonlaw04.RopeParas", spec := "ropeParas", unfollowed := true, recurses := true, apart := false }
def RopeParasSaid : Prop := ropeParasRow.holds Try.pinned (OpenSpec.ofChange ropeParasSpec)

/-- ITS FALSE NEIGHBOUR: 'it returns false'. Refute it at one input. -/
def ropeParasWrong : ChangeSpec := { name := "ropeParas", fn := fun _ => fun
  | [d] => { results := [.lit (.bool false)], args := [d] }
  | _ => none }
def RopeParasWrongFalsely : Prop := ropeParasRow.holds Try.pinned (OpenSpec.ofChange ropeParasWrong)

/-- 'colophonlaw04.RopeBalanced': WHATEVER THE INPUT: true; the input reads as it did. -/
def ropeBalancedSpec : ChangeSpec := { name := "ropeBalanced", fn := fun _ => fun
  | [d1, d2] => { results := [.lit (.bool true)], args := [d1, d2] }
  | _ => none }
def ropeBalancedRow : OpenClaim := { program := "ytenjldfflkinkaa", sum := "e8ae2a7b95155aac5dd398a9c8066ba7df3b3db7817054579bed174d11d14952", func := "colophon/colophonlaw04.RopeBalanced", spec := "ropeBalanced", unfollowed := true, recurses := true, apart := false }
def RopeBalancedSaid : Prop := ropeBalancedRow.holds Try.pinned (OpenSpec.ofChange ropeBalancedSpec)

/-- ITS FALSE NEIGHBOUR: 'it returns false'. Refute it at one input. -/
def ropeBalancedWrong : ChangeSpec := { name := "ropeBalanced", fn := fun _ => fun
  | [d1, d2] => { results := [.lit (.bool false)], args := [d1, d2] }
  | _ => none }
def RopeBalancedWrongFalsely : Prop := ropeBalancedRow.holds Try.pinned (OpenSpec.ofChange ropeBalancedWrong)

/-- 'colophonlaw04.RopeJoins': WHATEVER THE INPUT: true; the input reads as it did. -/
def ropeJoinsSpec : ChangeSpec := { name := "ropeJoins", fn := fun _ => fun
  | [d1, d2, d3] => { results := [.lit (.bool true)], args := [d1, d2, d3] }
  | _ => none }
def ropeJoinsRow : OpenClaim := { program := "ytenjldfflkinkaa", sum := "e8ae2a7b95155aac5dd398a9c8066ba7df3b3db7817054579bed174d11d14952", func := "colophon/colophonlaw04.RopeJoins", spec := "ropeJoins", unfollowed := true, recurses := true, apart := false }
def RopeJoinsSaid : Prop := ropeJoinsRow.holds Try.pinned (OpenSpec.ofChange ropeJoinsSpec)

/-- ITS FALSE NEIGHBOUR: 'it returns false'. Refute it at one input. -/
def ropeJoinsWrong : ChangeSpec := { name := "ropeJoins", fn := fun _ => fun
  | [d1, d2, d3] => { results := [.lit (.bool false)], args := [d1, d2, d3] }
  | _ => none }
def RopeJoinsWrongFalsely : Prop := ropeJoinsRow.holds Try.pinned (OpenSpec.ofChange ropeJoinsWrong)

/-- 'colophonlaw04.RopePlays': WHATEVER THE INPUT: true; the input reads as it did. -/
def ropePlaysSpec : ChangeSpec := { name := "ropePlays", fn := fun _ => fun
  | [d1, d2] => { results := [.lit (.bool true)], args := [d1, d2] }
  | _ => none }
def ropePlaysRow : OpenClaim := { program := "ytenjldfflkinkaa", sum := "e8ae2a7b95155aac5dd398a9c8066ba7df3b3db7817054579bed174d11d14952", func := "colophon/colophonlaw04.RopePlays", spec := "ropePlays", unfollowed := true, recurses := true, apart := false }
def RopePlaysSaid : Prop := ropePlaysRow.holds Try.pinned (OpenSpec.ofChange ropePlaysSpec)

/-- ITS FALSE NEIGHBOUR: 'it returns false'. Refute it at one input. -/
def ropePlaysWrong : ChangeSpec := { name := "ropePlays", fn := fun _ => fun
  | [d1, d2] => { results := [.lit (.bool false)], args := [d1, d2] }
  | _ => none }
def RopePlaysWrongFalsely : Prop := ropePlaysRow.holds Try.pinned (OpenSpec.ofChange ropePlaysWrong)

/-- 'colophonlaw04.RopeNobody': WHATEVER THE INPUT: true; the input reads as it did. -/
def ropeNobodySpec : ChangeSpec := { name := "ropeNobody", fn := fun _ => fun
  | [d1, d2, d3] => { results := [.lit (.bool true)], args := [d1, d2, d3] }
  | _ => none }
def ropeNobodyRow : OpenClaim := { program := "ytenjldfflkinkaa", sum := "e8ae2a7b95155aac5dd398a9c8066ba7df3b3db7817054579bed174d11d14952", func := "colophon/colophonlaw04.RopeNobody", spec := "ropeNobody", unfollowed := true, recurses := true, apart := false }
def RopeNobodySaid : Prop := ropeNobodyRow.holds Try.pinned (OpenSpec.ofChange ropeNobodySpec)

/-- ITS FALSE NEIGHBOUR: 'it returns false'. Refute it at one input. -/
def ropeNobodyWrong : ChangeSpec := { name := "ropeNobody", fn := fun _ => fun
  | [d1, d2, d3] => { results := [.lit (.bool false)], args := [d1, d2, d3] }
  | _ => none }
def RopeNobodyWrongFalsely : Prop := ropeNobodyRow.holds Try.pinned (OpenSpec.ofChange ropeNobodyWrong)

/- THE SECOND FORM. 'bulk': how many values and letters a reading holds, each counted each time it is reached (what is shared counts as often as it is met; a slice's spare places count too). A statement '..UptoSaid' is the law's where the arguments, and the package variables that the reading takes, are together of bulk at most 1048576: NARROWER than '..Said'. Prove '..Said' where nothing that the law and all that it calls make is longer than what came in: it says more and counts as full. Else prove '..UptoSaid'. A law counts once. -/
mutual
def uptoBulk {H : Type} : DataW H → Nat
  | .lit (.string bytes) => bytes.length + 1
  | .lit _ => 1
  | .nil => 1
  | .ptr d => uptoBulk d + 1
  | .slice elems spare => uptoBulkAll elems + uptoBulkAll spare + 1
  | .agg parts => uptoBulkAll parts + 1
  | .iface _ d => uptoBulk d + 1
  | .map entries => uptoBulkEntries entries + 1
  | .held _ => 1
def uptoBulkAll {H : Type} : List (DataW H) → Nat
  | [] => 0
  | d :: r => uptoBulk d + uptoBulkAll r
def uptoBulkEntries {H : Type} : List (Lit × DataW H) → Nat
  | [] => 0
  | x :: r => uptoBulkEntry x + uptoBulkEntries r
def uptoBulkEntry {H : Type} : Lit × DataW H → Nat
  | (.string bytes, d) => bytes.length + uptoBulk d + 1
  | (_, d) => uptoBulk d + 1
 end
def uptoSmall : (H : Type) → List (DataW H) → Bool := fun _ ds => decide (uptoBulkAll ds ≤ 1048576)
def OpenSpec.upto (s : _root_.Go.ChangeSpec) : _root_.Go.OpenSpec := { _root_.Go.OpenSpec.ofChange s with cond := some uptoSmall }

/-- 'colophontop.TopRopes', WHERE WHAT IT READS IS OF BULK AT MOST 1048576: true; the input reads as it did. -/
def topRopesUptoRow : OpenClaim := { program := "ytenjldfflkinkaa", sum := "e8ae2a7b95155aac5dd398a9c8066ba7df3b3db7817054579bed174d11d14952", func := "colophon/colophontop.TopRopes", spec := "topRopes", unfollowed := true, recurses := true, apart := false, narrowed := true }
def TopRopesUptoSaid : Prop := topRopesUptoRow.holds Try.pinned (OpenSpec.upto topRopesSpec)

/-- 'colophonlaw04.RopeLeaves', WHERE WHAT IT READS IS OF BULK AT MOST 1048576: true; the input reads as it did. -/
def ropeLeavesUptoRow : OpenClaim := { program := "ytenjldfflkinkaa", sum := "e8ae2a7b95155aac5dd398a9c8066ba7df3b3db7817054579bed174d11d14952", func := "colophon/colophonlaw04.RopeLeaves", spec := "ropeLeaves", unfollowed := true, recurses := true, apart := false, narrowed := true }
def RopeLeavesUptoSaid : Prop := ropeLeavesUptoRow.holds Try.pinned (OpenSpec.upto ropeLeavesSpec)

/-- 'colophonlaw04.RopeParas', WHERE WHAT IT READS IS OF BULK AT MOST 1048576: true; the input reads as it did. -/
def ropeParasUptoRow : OpenClaim := { program := "ytenjldfflkinkaa", sum := "e8ae2a7b95155aac5dd398a9c8066ba7df3b3db7817054579bed174d11d14952", func := "colophon/colophonlaw04.RopeParas", spec := "ropeParas", unfollowed := true, recurses := true, apart := false, narrowed := true }
def RopeParasUptoSaid : Prop := ropeParasUptoRow.holds Try.pinned (OpenSpec.upto ropeParasSpec)

/-- 'colophonlaw04.RopeBalanced', WHERE WHAT IT READS IS OF BULK AT MOST 1048576: true; the input reads as it did. -/
def ropeBalancedUptoRow : OpenClaim := { program := "ytenjldfflkinkaa", sum := "e8ae2a7b95155aac5dd398a9c8066ba7df3b3db7817054579bed174d11d14952", func := "colophon/colophonlaw04.RopeBalanced", spec := "ropeBalanced", unfollowed := true, recurses := true, apart := false, narrowed := true }
def RopeBalancedUptoSaid : Prop := ropeBalancedUptoRow.holds Try.pinned (OpenSpec.upto ropeBalancedSpec)

/-- 'colophonlaw04.RopeJoins', WHERE WHAT IT READS IS OF BULK AT MOST 1048576: true; the input reads as it did. -/
def ropeJoinsUptoRow : OpenClaim := { program := "ytenjldfflkinkaa", sum := "e8ae2a7b95155aac5dd398a9c8066ba7df3b3db7817054579bed174d11d14952", func := "colophon/colophonlaw04.RopeJoins", spec := "ropeJoins", unfollowed := true, recurses := true, apart := false, narrowed := true }
def RopeJoinsUptoSaid : Prop := ropeJoinsUptoRow.holds Try.pinned (OpenSpec.upto ropeJoinsSpec)

/-- 'colophonlaw04.RopePlays', WHERE WHAT IT READS IS OF BULK AT MOST 1048576: true; the input reads as it did. -/
def ropePlaysUptoRow : OpenClaim := { program := "ytenjldfflkinkaa", sum := "e8ae2a7b95155aac5dd398a9c8066ba7df3b3db7817054579bed174d11d14952", func := "colophon/colophonlaw04.RopePlays", spec := "ropePlays", unfollowed := true, recurses := true, apart := false, narrowed := true }
def RopePlaysUptoSaid : Prop := ropePlaysUptoRow.holds Try.pinned (OpenSpec.upto ropePlaysSpec)

/-- 'colophonlaw04.RopeNobody', WHERE WHAT IT READS IS OF BULK AT MOST 1048576: true; the input reads as it did. -/
def ropeNobodyUptoRow : OpenClaim := { program := "ytenjldfflkinkaa", sum := "e8ae2a7b95155aac5dd398a9c8066ba7df3b3db7817054579bed174d11d14952", func := "colophon/colophonlaw04.RopeNobody", spec := "ropeNobody", unfollowed := true, recurses := true, apart := false, narrowed := true }
def RopeNobodyUptoSaid : Prop := ropeNobodyUptoRow.holds Try.pinned (OpenSpec.upto ropeNobodySpec)

end Rows
end Go.Proofs.Ytenjldfflkinkaa
