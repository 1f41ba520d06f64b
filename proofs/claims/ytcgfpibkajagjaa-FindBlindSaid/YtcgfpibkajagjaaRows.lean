/-
  NARROWER THAN 'FOR EVERY INPUT', by the rows' own cells (each row's printed sentence says how): FindIndexes: loops · FindSets: loops · FindCounts: loops · FindBlind: loops · CutBlind: loops · FindWhole: loops · CutWhole: loops.
  DERIVED. THE GIVEN ROWS OF THIS SEAT. 7 by the template 'for every input the law returns true; each argument reads behind the call as it read before'; 0 by the template 'total and deterministic' (their statements: YtcgfpibkajagjaaTotals.lean).
  GIVEN WITH THE SEED: the statements are not yours to turn. If you find one false, say at which input.
  Laid BY PROGRAM, IN A SANDBOX (cutbox-rows.mjs): the forced cells as the released guide's own fill.sh prints them over the translation 12c52386eeaa3c6e… (all of the seat's roots in one cut). By AI agents, Wed Nov 11 2026. No macro, syntax, notation, axiom, sorry.
-/
import Derived.Test.YtcgfpibkajagjaaChecked
import GoSem.Claim
import GoSem.ClaimJoined
import GoSem.ClaimMapViews
import Derived.JoinedTies
import Derived.KernelRfl
namespace Go.Proofs.Ytcgfpibkajagjaa
/- THE CELL 'sum', in the pinned program and in every row, IS THE sha256 OF THE DUMP (.gsa) THAT YtcgfpibkajagjaaProg.lean LOADS. Nothing in Lean hashes anything: it is a label: what it is worth is what the hold of that sum in a sandbox is worth. -/
noncomputable def Try.pinned : Pinned := { name := "ytcgfpibkajagjaa", sum := "12c52386eeaa3c6efd9a6b3866e6b4dd9cb5cf929746b3a289105b48db1fd476", checked := Try.checked }
namespace Rows
def none {H : Type} : Left H := { results := [], args := [] }

/-- 'scrimlaw16.FindIndexes': WHATEVER THE INPUT: true; the input reads as it did. -/
def findIndexesSpec : ChangeSpec := { name := "findIndexes", fn := fun _ => fun
  | [d1, d2] => { results := [.lit (.bool true)], args := [d1, d2] }
  | _ => none }
def findIndexesRow : OpenClaim := { program := "ytcgfpibkajagjaa", sum := "12c52386eeaa3c6efd9a6b3866e6b4dd9cb5cf929746b3a289105b48db1fd476", func := "scrim/scrimlaw16.FindIndexes", spec := "findIndexes", unfollowed := true, recurses := true, loops := true, apart := false }
def FindIndexesSaid : Prop := findIndexesRow.holds Try.pinned (OpenSpec.ofChange findIndexesSpec)

/-- ITS FALSE NEIGHBOUR: 'it returns false'. Refute it at one input. -/
def findIndexesWrong : ChangeSpec := { name := "findIndexes", fn := fun _ => fun
  | [d1, d2] => { results := [.lit (.bool false)], args := [d1, d2] }
  | _ => none }
def FindIndexesWrongFalsely : Prop := findIndexesRow.holds Try.pinned (OpenSpec.ofChange findIndexesWrong)

/-- 'scrimlaw16.FindSets': WHATEVER THE INPUT: true; the input reads as it did. -/
def findSetsSpec : ChangeSpec := { name := "findSets", fn := fun _ => fun
  | [d1, d2, d3] => { results := [.lit (.bool true)], args := [d1, d2, d3] }
  | _ => none }
def findSetsRow : OpenClaim := { program := "ytcgfpibkajagjaa", sum := "12c52386eeaa3c6efd9a6b3866e6b4dd9cb5cf929746b3a289105b48db1fd476", func := "scrim/scrimlaw16.FindSets", spec := "findSets", unfollowed := true, recurses := true, loops := true, apart := false }
def FindSetsSaid : Prop := findSetsRow.holds Try.pinned (OpenSpec.ofChange findSetsSpec)

/-- ITS FALSE NEIGHBOUR: 'it returns false'. Refute it at one input. -/
def findSetsWrong : ChangeSpec := { name := "findSets", fn := fun _ => fun
  | [d1, d2, d3] => { results := [.lit (.bool false)], args := [d1, d2, d3] }
  | _ => none }
def FindSetsWrongFalsely : Prop := findSetsRow.holds Try.pinned (OpenSpec.ofChange findSetsWrong)

/-- 'scrimlaw16.FindCounts': WHATEVER THE INPUT: true; the input reads as it did. -/
def findCountsSpec : ChangeSpec := { name := "findCounts", fn := fun _ => fun
  | [d] => { results := [.lit (.bool true)], args := [d] }
  | _ => none }
def findCountsRow : OpenClaim := { program := "ytcgfpibkajagjaa", sum := "12c52386eeaa3c6efd9a6b3866e6b4dd9cb5cf929746b3a289105b48db1fd476", func := "scrim/scrimlaw16.FindCounts", spec := "findCounts", unfollowed := true, recurses := true, loops := true, apart := false }
def FindCountsSaid : Prop := findCountsRow.holds Try.pinned (OpenSpec.ofChange findCountsSpec)

/-- ITS FALSE NEIGHBOUR: 'it returns false'. Refute it at one input. -/
def findCountsWrong : ChangeSpec := { name := "findCounts", fn := fun _ => fun
  | [d] => { results := [.lit (.bool false)], args := [d] }
  | _ => none }
def FindCountsWrongFalsely : Prop := findCountsRow.holds Try.pinned (OpenSpec.ofChange findCountsWrong)

/-- 'scrimlaw16.FindBlind': WHATEVER THE INPUT: true; the input reads as it did. -/
def findBlindSpec : ChangeSpec := { name := "findBlind", fn := fun _ => fun
  | [d1, d2, d3, d4, d5, d6] => { results := [.lit (.bool true)], args := [d1, d2, d3, d4, d5, d6] }
  | _ => none }
def findBlindRow : OpenClaim := { program := "ytcgfpibkajagjaa", sum := "12c52386eeaa3c6efd9a6b3866e6b4dd9cb5cf929746b3a289105b48db1fd476", func := "scrim/scrimlaw16.FindBlind", spec := "findBlind", unfollowed := true, recurses := true, loops := true, apart := false }
def FindBlindSaid : Prop := findBlindRow.holds Try.pinned (OpenSpec.ofChange findBlindSpec)

/-- ITS FALSE NEIGHBOUR: 'it returns false'. Refute it at one input. -/
def findBlindWrong : ChangeSpec := { name := "findBlind", fn := fun _ => fun
  | [d1, d2, d3, d4, d5, d6] => { results := [.lit (.bool false)], args := [d1, d2, d3, d4, d5, d6] }
  | _ => none }
def FindBlindWrongFalsely : Prop := findBlindRow.holds Try.pinned (OpenSpec.ofChange findBlindWrong)

/-- 'scrimlaw13.CutBlind': WHATEVER THE INPUT: true; the input reads as it did. -/
def cutBlindSpec : ChangeSpec := { name := "cutBlind", fn := fun _ => fun
  | [d1, d2, d3, d4, d5] => { results := [.lit (.bool true)], args := [d1, d2, d3, d4, d5] }
  | _ => none }
def cutBlindRow : OpenClaim := { program := "ytcgfpibkajagjaa", sum := "12c52386eeaa3c6efd9a6b3866e6b4dd9cb5cf929746b3a289105b48db1fd476", func := "scrim/scrimlaw13.CutBlind", spec := "cutBlind", unfollowed := true, recurses := true, loops := true, apart := false }
def CutBlindSaid : Prop := cutBlindRow.holds Try.pinned (OpenSpec.ofChange cutBlindSpec)

/-- ITS FALSE NEIGHBOUR: 'it returns false'. Refute it at one input. -/
def cutBlindWrong : ChangeSpec := { name := "cutBlind", fn := fun _ => fun
  | [d1, d2, d3, d4, d5] => { results := [.lit (.bool false)], args := [d1, d2, d3, d4, d5] }
  | _ => none }
def CutBlindWrongFalsely : Prop := cutBlindRow.holds Try.pinned (OpenSpec.ofChange cutBlindWrong)

/-- 'scrimlaw16.FindWhole': WHATEVER THE INPUT: true; the input reads as it did. -/
def findWholeSpec : ChangeSpec := { name := "findWhole", fn := fun _ => fun
  | [d1, d2] => { results := [.lit (.bool true)], args := [d1, d2] }
  | _ => none }
def findWholeRow : OpenClaim := { program := "ytcgfpibkajagjaa", sum := "12c52386eeaa3c6efd9a6b3866e6b4dd9cb5cf929746b3a289105b48db1fd476", func := "scrim/scrimlaw16.FindWhole", spec := "findWhole", unfollowed := true, recurses := true, loops := true, apart := false }
def FindWholeSaid : Prop := findWholeRow.holds Try.pinned (OpenSpec.ofChange findWholeSpec)

/-- ITS FALSE NEIGHBOUR: 'it returns false'. Refute it at one input. -/
def findWholeWrong : ChangeSpec := { name := "findWhole", fn := fun _ => fun
  | [d1, d2] => { results := [.lit (.bool false)], args := [d1, d2] }
  | _ => none }
def FindWholeWrongFalsely : Prop := findWholeRow.holds Try.pinned (OpenSpec.ofChange findWholeWrong)

/-- 'scrimlaw13.CutWhole': WHATEVER THE INPUT: true; the input reads as it did. -/
def cutWholeSpec : ChangeSpec := { name := "cutWhole", fn := fun _ => fun
  | [d1, d2] => { results := [.lit (.bool true)], args := [d1, d2] }
  | _ => none }
def cutWholeRow : OpenClaim := { program := "ytcgfpibkajagjaa", sum := "12c52386eeaa3c6efd9a6b3866e6b4dd9cb5cf929746b3a289105b48db1fd476", func := "scrim/scrimlaw13.CutWhole", spec := "cutWhole", unfollowed := true, recurses := true, loops := true, apart := false }
def CutWholeSaid : Prop := cutWholeRow.holds Try.pinned (OpenSpec.ofChange cutWholeSpec)

/-- ITS FALSE NEIGHBOUR: 'it returns false'. Refute it at one input. -/
def cutWholeWrong : ChangeSpec := { name := "cutWhole", fn := fun _ => fun
  | [d1, d2] => { results := [.lit (.bool false)], args := [d1, d2] }
  | _ => none }
def CutWholeWrongFalsely : Prop := cutWholeRow.holds Try.pinned (OpenSpec.ofChange cutWholeWrong)

/- THE SECOND FORM. 'bulk': how many values and letters a reading holds, each counted each time it is reached (what is shared counts as often as it is met; a slice's spare places count too). A statement '..UptoSaid' is the law's where the arguments, and the package variables that the reading takes, are together of bulk at most 1048576: NARROWER than '..Said'. Prove '..Said' where nothing that the law and all that it calls make is longer than what came in: it says more and counts as full. Else prove '..UptoSaid'. A law counts once. -/
mutual
def uptoBulk {H : Type} : DataW H → Nat
  | .lit (.string bytes) => bytes.length + 1
  | .lit _ => 1
  | .nil => 1
  | .ptr d => uptoBulk d + 1
  | .slice elems spare => uptoBulkAll elems + uptoBulkAll spare + 1
  | .agg parts => uptoBulkAll parts + 1
  | .iface _ d => uptoBulk d + 1
  | .map entries => uptoBulkEntries entries + 1
  | .held _ => 1
def uptoBulkAll {H : Type} : List (DataW H) → Nat
  | [] => 0
  | d :: r => uptoBulk d + uptoBulkAll r
def uptoBulkEntries {H : Type} : List (Lit × DataW H) → Nat
  | [] => 0
  | x :: r => uptoBulkEntry x + uptoBulkEntries r
def uptoBulkEntry {H : Type} : Lit × DataW H → Nat
  | (.string bytes, d) => bytes.length + uptoBulk d + 1
  | (_, d) => uptoBulk d + 1
 end
def uptoSmall : (H : Type) → List (DataW H) → Bool := fun _ ds => decide (uptoBulkAll ds ≤ 1048576)
def OpenSpec.upto (s : _root_.Go.ChangeSpec) : _root_.Go.OpenSpec := { _root_.Go.OpenSpec.ofChange s with cond := some uptoSmall }

/-- 'scrimlaw16.FindIndexes', WHERE WHAT IT READS IS OF BULK AT MOST 1048576: true; the input reads as it did. -/
def findIndexesUptoRow : OpenClaim := { program := "ytcgfpibkajagjaa", sum := "12c52386eeaa3c6efd9a6b3866e6b4dd9cb5cf929746b3a289105b48db1fd476", func := "scrim/scrimlaw16.FindIndexes", spec := "findIndexes", unfollowed := true, recurses := true, loops := true, apart := false, narrowed := true }
def FindIndexesUptoSaid : Prop := findIndexesUptoRow.holds Try.pinned (OpenSpec.upto findIndexesSpec)

/-- 'scrimlaw16.FindSets', WHERE WHAT IT READS IS OF BULK AT MOST 1048576: true; the input reads as it did. -/
def findSetsUptoRow : OpenClaim := { program := "ytcgfpibkajagjaa", sum := "12c52386eeaa3c6efd9a6b3866e6b4dd9cb5cf929746b3a289105b48db1fd476", func := "scrim/scrimlaw16.FindSets", spec := "findSets", unfollowed := true, recurses := true, loops := true, apart := false, narrowed := true }
def FindSetsUptoSaid : Prop := findSetsUptoRow.holds Try.pinned (OpenSpec.upto findSetsSpec)

/-- 'scrimlaw16.FindCounts', WHERE WHAT IT READS IS OF BULK AT MOST 1048576: true; the input reads as it did. -/
def findCountsUptoRow : OpenClaim := { program := "ytcgfpibkajagjaa", sum := "12c52386eeaa3c6efd9a6b3866e6b4dd9cb5cf929746b3a289105b48db1fd476", func := "scrim/scrimlaw16.FindCounts", spec := "findCounts", unfollowed := true, recurses := true, loops := true, apart := false, narrowed := true }
def FindCountsUptoSaid : Prop := findCountsUptoRow.holds Try.pinned (OpenSpec.upto findCountsSpec)

/-- 'scrimlaw16.FindBlind', WHERE WHAT IT READS IS OF BULK AT MOST 1048576: true; the input reads as it did. -/
def findBlindUptoRow : OpenClaim := { program := "ytcgfpibkajagjaa", sum := "12c52386eeaa3c6efd9a6b3866e6b4dd9cb5cf929746b3a289105b48db1fd476", func := "scrim/scrimlaw16.FindBlind", spec := "findBlind", unfollowed := true, recurses := true, loops := true, apart := false, narrowed := true }
def FindBlindUptoSaid : Prop := findBlindUptoRow.holds Try.pinned (OpenSpec.upto findBlindSpec)

/-- 'scrimlaw13.CutBlind', WHERE WHAT IT READS IS OF BULK AT MOST 1048576: true; the input reads as it did. -/
def cutBlindUptoRow : OpenClaim := { program := "ytcgfpibkajagjaa", sum := "12c52386eeaa3c6efd9a6b3866e6b4dd9cb5cf929746b3a289105b48db1fd476", func := "scrim/scrimlaw13.CutBlind", spec := "cutBlind", unfollowed := true, recurses := true, loops := true, apart := false, narrowed := true }
def CutBlindUptoSaid : Prop := cutBlindUptoRow.holds Try.pinned (OpenSpec.upto cutBlindSpec)

/-- 'scrimlaw16.FindWhole', WHERE WHAT IT READS IS OF BULK AT MOST 1048576: true; the input reads as it did. -/
def findWholeUptoRow : OpenClaim := { program := "ytcgfpibkajagjaa", sum := "12c52386eeaa3c6efd9a6b3866e6b4dd9cb5cf929746b3a289105b48db1fd476", func := "scrim/scrimlaw16.FindWhole", spec := "findWhole", unfollowed := true, recurses := true, loops := true, apart := false, narrowed := true }
def FindWholeUptoSaid : Prop := findWholeUptoRow.holds Try.pinned (OpenSpec.upto findWholeSpec)

/-- 'scrimlaw13.CutWhole', WHERE WHAT IT READS IS OF BULK AT MOST 1048576: true; the input reads as it did. -/
def cutWholeUptoRow : OpenClaim := { program := "ytcgfpibkajagjaa", sum := "12c52386eeaa3c6efd9a6b3866e6b4dd9cb5cf929746b3a289105b48db1fd476", func := "scrim/scrimlaw13.CutWhole", spec := "cutWhole", unfollowed := true, recurses := true, loops := true, apart := false, narrowed := true }
def CutWholeUptoSaid : Prop := cutWholeUptoRow.holds Try.pinned (OpenSpec.upto cutWholeSpec)

end Rows
end Go.Proofs.Ytcgfpibkajagjaa
