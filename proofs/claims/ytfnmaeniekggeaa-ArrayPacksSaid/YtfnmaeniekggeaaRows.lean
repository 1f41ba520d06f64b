/-
  NARROWER THAN 'FOR EVERY INPUT', by the rows' own cells (each row's printed sentence says how): MoldReshapes: loops · MoldBoxes: loops · MoldTells: loops · MoldBack: loops · MoldBlind: loops · ArrayRight: loops · ArrayLabels: loops · ArraySame: loops · ArrayPacks: loops.
  DERIVED. THE GIVEN ROWS OF THIS SEAT. 9 by the template 'for every input the law returns true; each argument reads behind the call as it read before'; 0 by the template 'total and deterministic' (their statements: YtfnmaeniekggeaaTotals.lean).
  GIVEN WITH THE SEED: the statements are not yours to turn. If you find one false, say at which input.
  Laid BY PROGRAM, IN A SANDBOX (cutbox-rows.mjs): the forced cells as the released guide's own fill.sh prints them over the translation 11754d71de32d910… (all of the seat's roots in one cut). By AI agents, Wed Nov 11 2026. No macro, syntax, notation, axiom, sorry.
-/
import Derived.Test.YtfnmaeniekggeaaChecked
import GoSem.Claim
import GoSem.ClaimJoined
import GoSem.ClaimMapViews
import Derived.JoinedTies
import Derived.KernelRfl
namespace Go.Proofs.Ytfnmaeniekggeaa
/- THE CELL 'sum', in the pinned program and in every row, IS THE sha256 OF THE DUMP (.gsa) THAT YtfnmaeniekggeaaProg.lean LOADS. Nothing in Lean hashes anything: it is a label: what it is worth is what the hold of that sum in a sandbox is worth. -/
noncomputable def Try.pinned : Pinned := { name := "ytfnmaeniekggeaa", sum := "11754d71de32d910c538c6181dff53584607fe1a720f2bd6fa266094f7275c17", checked := Try.checked }
namespace Rows
def none {H : Type} : Left H := { results := [], args := [] }

/-- 'scrimlaw11.MoldReshapes': WHATEVER THE INPUT: true; the input reads as it did. -/
def moldReshapesSpec : ChangeSpec := { name := "moldReshapes", fn := fun _ => fun
  | [d1, d2] => { results := [.lit (.bool true)], args := [d1, d2] }
  | _ => none }
def moldReshapesRow : OpenClaim := { program := "ytfnmaeniekggeaa", sum := "11754d71de32d910c538c6181dff53584607fe1a720f2bd6fa266094f7275c17", func := "scrim/scrimlaw11.MoldReshapes", spec := "moldReshapes", unfollowed := true, recurses := true, loops := true, apart := false }
def MoldReshapesSaid : Prop := moldReshapesRow.holds Try.pinned (OpenSpec.ofChange moldReshapesSpec)

/-- ITS FALSE NEIGHBOUR: 'it returns false'. Refute it at one input. -/
def moldReshapesWrong : ChangeSpec := { name := "moldReshapes", fn := fun _ => fun
  | [d1, d2] => { results := [.lit (.bool false)], args := [d1, d2] }
  | _ => none }
def MoldReshapesWrongFalsely : Prop := moldReshapesRow.holds Try.pinned (OpenSpec.ofChange moldReshapesWrong)

/-- 'scrimlaw11.MoldBoxes': WHATEVER THE INPUT: true; the input reads as it did. -/
def moldBoxesSpec : ChangeSpec := { name := "moldBoxes", fn := fun _ => fun
  | [d] => { results := [.lit (.bool true)], args := [d] }
  | _ => none }
def moldBoxesRow : OpenClaim := { program := "ytfnmaeniekggeaa", sum := "11754d71de32d910c538c6181dff53584607fe1a720f2bd6fa266094f7275c17", func := "scrim/scrimlaw11.MoldBoxes", spec := "moldBoxes", unfollowed := true, recurses := true, loops := true, apart := false }
def MoldBoxesSaid : Prop := moldBoxesRow.holds Try.pinned (OpenSpec.ofChange moldBoxesSpec)

/-- ITS FALSE NEIGHBOUR: 'it returns false'. Refute it at one input. -/
def moldBoxesWrong : ChangeSpec := { name := "moldBoxes", fn := fun _ => fun
  | [d] => { results := [.lit (.bool false)], args := [d] }
  | _ => none }
def MoldBoxesWrongFalsely : Prop := moldBoxesRow.holds Try.pinned (OpenSpec.ofChange moldBoxesWrong)

/-- 'scrimlaw11.MoldTells': WHATEVER THE INPUT: true; the input reads as it did. -/
def moldTellsSpec : ChangeSpec := { name := "moldTells", fn := fun _ => fun
  | [d1, d2, d3] => { results := [.lit (.bool true)], args := [d1, d2, d3] }
  | _ => none }
def moldTellsRow : OpenClaim := { program := "ytfnmaeniekggeaa", sum := "11754d71de32d910c538c6181dff53584607fe1a720f2bd6fa266094f7275c17", func := "scrim/scrimlaw11.MoldTells", spec := "moldTells", unfollowed := true, recurses := true, loops := true, apart := false }
def MoldTellsSaid : Prop := moldTellsRow.holds Try.pinned (OpenSpec.ofChange moldTellsSpec)

/-- ITS FALSE NEIGHBOUR: 'it returns false'. Refute it at one input. -/
def moldTellsWrong : ChangeSpec := { name := "moldTells", fn := fun _ => fun
  | [d1, d2, d3] => { results := [.lit (.bool false)], args := [d1, d2, d3] }
  | _ => none }
def MoldTellsWrongFalsely : Prop := moldTellsRow.holds Try.pinned (OpenSpec.ofChange moldTellsWrong)

/-- 'scrimlaw11.MoldBack': WHATEVER THE INPUT: true; the input reads as it did. -/
def moldBackSpec : ChangeSpec := { name := "moldBack", fn := fun _ => fun
  | [d] => { results := [.lit (.bool true)], args := [d] }
  | _ => none }
def moldBackRow : OpenClaim := { program := "ytfnmaeniekggeaa", sum := "11754d71de32d910c538c6181dff53584607fe1a720f2bd6fa266094f7275c17", func := "scrim/scrimlaw11.MoldBack", spec := "moldBack", unfollowed := true, recurses := true, loops := true, apart := false }
def MoldBackSaid : Prop := moldBackRow.holds Try.pinned (OpenSpec.ofChange moldBackSpec)

/-- ITS FALSE NEIGHBOUR: 'it returns false'. Refute it at one input. -/
def moldBackWrong : ChangeSpec := { name := "moldBack", fn := fun _ => fun
  | [d] => { results := [.lit (.bool false)], args := [d] }
  | _ => none }
def MoldBackWrongFalsely : Prop := moldBackRow.holds Try.pinned (OpenSpec.ofChange moldBackWrong)

/-- 'scrimlaw11.MoldBlind': WHATEVER THE INPUT: true; the input reads as it did. -/
def moldBlindSpec : ChangeSpec := { name := "moldBlind", fn := fun _ => fun
  | [d1, d2, d3, d4, d5] => { results := [.lit (.bool true)], args := [d1, d2, d3, d4, d5] }
  | _ => none }
def moldBlindRow : OpenClaim := { program := "ytfnmaeniekggeaa", sum := "11754d71de32d910c538c6181dff53584607fe1a720f2bd6fa266094f7275c17", func := "scrim/scrimlaw11.MoldBlind", spec := "moldBlind", unfollowed := true, recurses := true, loops := true, apart := false }
def MoldBlindSaid : Prop := moldBlindRow.holds Try.pinned (OpenSpec.ofChange moldBlindSpec)

/-- ITS FALSE NEIGHBOUR: 'it returns false'. Refute it at one input. -/
def moldBlindWrong : ChangeSpec := { name := "moldBlind", fn := fun _ => fun
  | [d1, d2, d3, d4, d5] => { results := [.lit (.bool false)], args := [d1, d2, d3, d4, d5] }
  | _ => none }
def MoldBlindWrongFalsely : Prop := moldBlindRow.holds Try.pinned (OpenSpec.ofChange moldBlindWrong)

/-- 'scrimlaw08.ArrayRight': WHATEVER THE INPUT: true; the input reads as it did. -/
def arrayRightSpec : ChangeSpec := { name := "arrayRight", fn := fun _ => fun
  | [d] => { results := [.lit (.bool true)], args := [d] }
  | _ => none }
def arrayRightRow : OpenClaim := { program := "ytfnmaeniekggeaa", sum := "11754d71de32d910c538c6181dff53584607fe1a720f2bd6fa266094f7275c17", func := "scrim/scrimlaw08.ArrayRight", spec := "arrayRight", unfollowed := true, recurses := true, loops := true, apart := false }
def ArrayRightSaid : Prop := arrayRightRow.holds Try.pinned (OpenSpec.ofChange arrayRightSpec)

/-- ITS FALSE NEIGHBOUR: 'it returns false'. Refute it at one input. -/
def arrayRightWrong : ChangeSpec := { name := "arrayRight", fn := fun _ => fun
  | [d] => { results := [.lit (.bool false)], args := [d] }
  | _ => none }
def ArrayRightWrongFalsely : Prop := arrayRightRow.holds Try.pinned (OpenSpec.ofChange arrayRightWrong)

/-- 'scrimlaw08.ArrayLabels': WHATEVER THE INPUT: true; the input reads as it did. -/
def arrayLabelsSpec : ChangeSpec := { name := "arrayLabels", fn := fun _ => fun
  | [d1, d2] => { results := [.lit (.bool true)], args := [d1, d2] }
  | _ => none }
def arrayLabelsRow : OpenClaim := { program := "ytfnmaeniekggeaa", sum := "11754d71de32d910c538c6181dff53584607fe1a720f2bd6fa266094f7275c17", func := "scrim/scrimlaw08.ArrayLabels", spec := "arrayLabels", unfollowed := true, recurses := true, loops := true, apart := false }
def ArrayLabelsSaid : Prop := arrayLabelsRow.holds Try.pinned (OpenSpec.ofChange arrayLabelsSpec)

/-- ITS FALSE NEIGHBOUR: 'it returns false'. Refute it at one input. -/
def arrayLabelsWrong : ChangeSpec := { name := "arrayLabels", fn := fun _ => fun
  | [d1, d2] => { results := [.lit (.bool false)], args := [d1, d2] }
  | _ => none }
def ArrayLabelsWrongFalsely : Prop := arrayLabelsRow.holds Try.pinned (OpenSpec.ofChange arrayLabelsWrong)

/-- 'scrimlaw08.ArraySame': WHATEVER THE INPUT: true; the input reads as it did. -/
def arraySameSpec : ChangeSpec := { name := "arraySame", fn := fun _ => fun
  | [d1, d2] => { results := [.lit (.bool true)], args := [d1, d2] }
  | _ => none }
def arraySameRow : OpenClaim := { program := "ytfnmaeniekggeaa", sum := "11754d71de32d910c538c6181dff53584607fe1a720f2bd6fa266094f7275c17", func := "scrim/scrimlaw08.ArraySame", spec := "arraySame", unfollowed := true, recurses := true, loops := true, apart := false }
def ArraySameSaid : Prop := arraySameRow.holds Try.pinned (OpenSpec.ofChange arraySameSpec)

/-- ITS FALSE NEIGHBOUR: 'it returns false'. Refute it at one input. -/
def arraySameWrong : ChangeSpec := { name := "arraySame", fn := fun _ => fun
  | [d1, d2] => { results := [.lit (.bool false)], args := [d1, d2] }
  | _ => none }
def ArraySameWrongFalsely : Prop := arraySameRow.holds Try.pinned (OpenSpec.ofChange arraySameWrong)

/-- 'scrimlaw08.ArrayPacks': WHATEVER THE INPUT: true; the input reads as it did. -/
def arrayPacksSpec : ChangeSpec := { name := "arrayPacks", fn := fun _ => fun
  | [d1, d2] => { results := [.lit (.bool true)], args := [d1, d2] }
  | _ => none }
def arrayPacksRow : OpenClaim := { program := "ytfnmaeniekggeaa", sum := "11754d71de32d910c538c6181dff53584607fe1a720f2bd6fa266094f7275c17", func := "scrim/scrimlaw08.ArrayPacks", spec := "arrayPacks", unfollowed := true, recurses := true, loops := true, apart := false }
def ArrayPacksSaid : Prop := arrayPacksRow.holds Try.pinned (OpenSpec.ofChange arrayPacksSpec)

/-- ITS FALSE NEIGHBOUR: 'it returns false'. Refute it at one input. -/
def arrayPacksWrong : ChangeSpec := { name := "arrayPacks", fn := fun _ => fun
  | [d1, d2] => { results := [.lit (.bool false)], args := [d1, d2] }
  | _ => none }
def ArrayPacksWrongFalsely : Prop := arrayPacksRow.holds Try.pinned (OpenSpec.ofChange arrayPacksWrong)

/- THE SECOND FORM. 'bulk': how many values and letters a reading holds, each counted each time it is reached (what is shared counts as often as it is met; a slice's spare places count too). A statement '..UptoSaid' is the law's where the arguments, and the package variables that the reading takes, are together of bulk at most 1048576: NARROWER than '..Said'. Prove '..Said' where nothing that the law and all that it calls make is longer than what came in: it says more and counts as full. Else prove '..UptoSaid'. A law counts once. -/
mutual
def uptoBulk {H : Type} : DataW H → Nat
  | .lit (.string bytes) => bytes.length + 1
  | .lit _ => 1
  | .nil => 1
  | .ptr d => uptoBulk d + 1
  | .slice elems spare => uptoBulkAll elems + uptoBulkAll spare + 1
  | .agg parts => uptoBulkAll parts + 1
  | .iface _ d => uptoBulk d + 1
  | .map entries => uptoBulkEntries entries + 1
  | .held _ => 1
def uptoBulkAll {H : Type} : List (DataW H) → Nat
  | [] => 0
  | d :: r => uptoBulk d + uptoBulkAll r
def uptoBulkEntries {H : Type} : List (Lit × DataW H) → Nat
  | [] => 0
  | x :: r => uptoBulkEntry x + uptoBulkEntries r
def uptoBulkEntry {H : Type} : Lit × DataW H → Nat
  | (.string bytes, d) => bytes.length + uptoBulk d + 1
  | (_, d) => uptoBulk d + 1
 end
def uptoSmall : (H : Type) → List (DataW H) → Bool := fun _ ds => decide (uptoBulkAll ds ≤ 1048576)
def OpenSpec.upto (s : _root_.Go.ChangeSpec) : _root_.Go.OpenSpec := { _root_.Go.OpenSpec.ofChange s with cond := some uptoSmall }

/-- 'scrimlaw11.MoldReshapes', WHERE WHAT IT READS IS OF BULK AT MOST 1048576: true; the input reads as it did. -/
def moldReshapesUptoRow : OpenClaim := { program := "ytfnmaeniekggeaa", sum := "11754d71de32d910c538c6181dff53584607fe1a720f2bd6fa266094f7275c17", func := "scrim/scrimlaw11.MoldReshapes", spec := "moldReshapes", unfollowed := true, recurses := true, loops := true, apart := false, narrowed := true }
def MoldReshapesUptoSaid : Prop := moldReshapesUptoRow.holds Try.pinned (OpenSpec.upto moldReshapesSpec)

/-- 'scrimlaw11.MoldBoxes', WHERE WHAT IT READS IS OF BULK AT MOST 1048576: true; the input reads as it did. -/
def moldBoxesUptoRow : OpenClaim := { program := "ytfnmaeniekggeaa", sum := "11754d71de32d910c538c6181dff53584607fe1a720f2bd6fa266094f7275c17", func := "scrim/scrimlaw11.MoldBoxes", spec := "moldBoxes", unfollowed := true, recurses := true, loops := true, apart := false, narrowed := true }
def MoldBoxesUptoSaid : Prop := moldBoxesUptoRow.holds Try.pinned (OpenSpec.upto moldBoxesSpec)

/-- 'scrimlaw11.MoldTells', WHERE WHAT IT READS IS OF BULK AT MOST 1048576: true; the input reads as it did. -/
def moldTellsUptoRow : OpenClaim := { program := "ytfnmaeniekggeaa", sum := "11754d71de32d910c538c6181dff53584607fe1a720f2bd6fa266094f7275c17", func := "scrim/scrimlaw11.MoldTells", spec := "moldTells", unfollowed := true, recurses := true, loops := true, apart := false, narrowed := true }
def MoldTellsUptoSaid : Prop := moldTellsUptoRow.holds Try.pinned (OpenSpec.upto moldTellsSpec)

/-- 'scrimlaw11.MoldBack', WHERE WHAT IT READS IS OF BULK AT MOST 1048576: true; the input reads as it did. -/
def moldBackUptoRow : OpenClaim := { program := "ytfnmaeniekggeaa", sum := "11754d71de32d910c538c6181dff53584607fe1a720f2bd6fa266094f7275c17", func := "scrim/scrimlaw11.MoldBack", spec := "moldBack", unfollowed := true, recurses := true, loops := true, apart := false, narrowed := true }
def MoldBackUptoSaid : Prop := moldBackUptoRow.holds Try.pinned (OpenSpec.upto moldBackSpec)

/-- 'scrimlaw11.MoldBlind', WHERE WHAT IT READS IS OF BULK AT MOST 1048576: true; the input reads as it did. -/
def moldBlindUptoRow : OpenClaim := { program := "ytfnmaeniekggeaa", sum := "11754d71de32d910c538c6181dff53584607fe1a720f2bd6fa266094f7275c17", func := "scrim/scrimlaw11.MoldBlind", spec := "moldBlind", unfollowed := true, recurses := true, loops := true, apart := false, narrowed := true }
def MoldBlindUptoSaid : Prop := moldBlindUptoRow.holds Try.pinned (OpenSpec.upto moldBlindSpec)

/-- 'scrimlaw08.ArrayRight', WHERE WHAT IT READS IS OF BULK AT MOST 1048576: true; the input reads as it did. -/
def arrayRightUptoRow : OpenClaim := { program := "ytfnmaeniekggeaa", sum := "11754d71de32d910c538c6181dff53584607fe1a720f2bd6fa266094f7275c17", func := "scrim/scrimlaw08.ArrayRight", spec := "arrayRight", unfollowed := true, recurses := true, loops := true, apart := false, narrowed := true }
def ArrayRightUptoSaid : Prop := arrayRightUptoRow.holds Try.pinned (OpenSpec.upto arrayRightSpec)

/-- 'scrimlaw08.ArrayLabels', WHERE WHAT IT READS IS OF BULK AT MOST 1048576: true; the input reads as it did. -/
def arrayLabelsUptoRow : OpenClaim := { program := "ytfnmaeniekggeaa", sum := "11754d71de32d910c538c6181dff53584607fe1a720f2bd6fa266094f7275c17", func := "scrim/scrimlaw08.ArrayLabels", spec := "arrayLabels", unfollowed := true, recurses := true, loops := true, apart := false, narrowed := true }
def ArrayLabelsUptoSaid : Prop := arrayLabelsUptoRow.holds Try.pinned (OpenSpec.upto arrayLabelsSpec)

/-- 'scrimlaw08.ArraySame', WHERE WHAT IT READS IS OF BULK AT MOST 1048576: true; the input reads as it did. -/
def arraySameUptoRow : OpenClaim := { program := "ytfnmaeniekggeaa", sum := "11754d71de32d910c538c6181dff53584607fe1a720f2bd6fa266094f7275c17", func := "scrim/scrimlaw08.ArraySame", spec := "arraySame", unfollowed := true, recurses := true, loops := true, apart := false, narrowed := true }
def ArraySameUptoSaid : Prop := arraySameUptoRow.holds Try.pinned (OpenSpec.upto arraySameSpec)

/-- 'scrimlaw08.ArrayPacks', WHERE WHAT IT READS IS OF BULK AT MOST 1048576: true; the input reads as it did. -/
def arrayPacksUptoRow : OpenClaim := { program := "ytfnmaeniekggeaa", sum := "11754d71de32d910c538c6181dff53584607fe1a720f2bd6fa266094f7275c17", func := "scrim/scrimlaw08.ArrayPacks", spec := "arrayPacks", unfollowed := true, recurses := true, loops := true, apart := false, narrowed := true }
def ArrayPacksUptoSaid : Prop := arrayPacksUptoRow.holds Try.pinned (OpenSpec.upto arrayPacksSpec)

end Rows
end Go.Proofs.Ytfnmaeniekggeaa
