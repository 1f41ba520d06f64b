/-
  NARROWER THAN 'FOR EVERY INPUT', by the rows' own cells (each row's printed sentence says how): ArrayRight: loops · GradeGrades: loops · GradeBlind: loops · GradeRow: loops · TreeParts: loops · TreeSame: loops · GradeCompares: loops.
  DERIVED. THE GIVEN ROWS OF THIS SEAT. 8 by the template 'for every input the law returns true; each argument reads behind the call as it read before'; 0 by the template 'total and deterministic' (their statements: YtdkanalnpbllcaaTotals.lean).
  GIVEN WITH THE SEED: the statements are not yours to turn. If you find one false, say at which input.
  Laid BY PROGRAM, IN A SANDBOX (cutbox-rows.mjs): the forced cells as the released guide's own fill.sh prints them over the translation 79380aa2968bdf6c… (all of the seat's roots in one cut). By AI agents, Wed Nov 11 2026. No macro, syntax, notation, axiom, sorry.
-/
import Derived.Test.YtdkanalnpbllcaaChecked
import GoSem.Claim
import GoSem.ClaimJoined
import GoSem.ClaimMapViews
import Derived.JoinedTies
import Derived.KernelRfl
namespace Go.Proofs.Ytdkanalnpbllcaa
/- THE CELL 'sum', in the pinned program and in every row, IS THE sha256 OF THE DUMP (.gsa) THAT YtdkanalnpbllcaaProg.lean LOADS. Nothing in Lean hashes anything: it is a label: what it is worth is what the hold of that sum in a sandbox is worth. -/
noncomputable def Try.pinned : Pinned := { name := "ytdkanalnpbllcaa", sum := "79380aa2968bdf6cc0471dc515bf4fd03319992e66302465f3f782081f626b4a", checked := Try.checked }
namespace Rows
def none {H : Type} : Left H := { results := [], args := [] }

/-- 'scrimlaw08.ArrayRight': WHATEVER THE INPUT: true; the input reads as it did. -/
def arrayRightSpec : ChangeSpec := { name := "arrayRight", fn := fun _ => fun
  | [d] => { results := [.lit (.bool true)], args := [d] }
  | _ => none }
def arrayRightRow : OpenClaim := { program := "ytdkanalnpbllcaa", sum := "79380aa2968bdf6cc0471dc515bf4fd03319992e66302465f3f782081f626b4a", func := "scrim/scrimlaw08.ArrayRight", spec := "arrayRight", unfollowed := true, recurses := true, loops := true, apart := false }
def ArrayRightSaid : Prop := arrayRightRow.holds Try.pinned (OpenSpec.ofChange arrayRightSpec)

/-- ITS FALSE NEIGHBOUR: 'it returns false'. Refute it at one input. -/
def arrayRightWrong : ChangeSpec := { name := "arrayRight", fn := fun _ => fun
  | [d] => { results := [.lit (.bool false)], args := [d] }
  | _ => none }
def ArrayRightWrongFalsely : Prop := arrayRightRow.holds Try.pinned (OpenSpec.ofChange arrayRightWrong)

/-- 'scrimlaw17.GradeGrades': WHATEVER THE INPUT: true; the input reads as it did. -/
def gradeGradesSpec : ChangeSpec := { name := "gradeGrades", fn := fun _ => fun
  | [d1, d2] => { results := [.lit (.bool true)], args := [d1, d2] }
  | _ => none }
def gradeGradesRow : OpenClaim := { program := "ytdkanalnpbllcaa", sum := "79380aa2968bdf6cc0471dc515bf4fd03319992e66302465f3f782081f626b4a", func := "scrim/scrimlaw17.GradeGrades", spec := "gradeGrades", unfollowed := true, recurses := true, loops := true, apart := false }
def GradeGradesSaid : Prop := gradeGradesRow.holds Try.pinned (OpenSpec.ofChange gradeGradesSpec)

/-- ITS FALSE NEIGHBOUR: 'it returns false'. Refute it at one input. -/
def gradeGradesWrong : ChangeSpec := { name := "gradeGrades", fn := fun _ => fun
  | [d1, d2] => { results := [.lit (.bool false)], args := [d1, d2] }
  | _ => none }
def GradeGradesWrongFalsely : Prop := gradeGradesRow.holds Try.pinned (OpenSpec.ofChange gradeGradesWrong)

/-- 'scrimlaw17.GradeBlind': WHATEVER THE INPUT: true; the input reads as it did. -/
def gradeBlindSpec : ChangeSpec := { name := "gradeBlind", fn := fun _ => fun
  | [d1, d2, d3, d4] => { results := [.lit (.bool true)], args := [d1, d2, d3, d4] }
  | _ => none }
def gradeBlindRow : OpenClaim := { program := "ytdkanalnpbllcaa", sum := "79380aa2968bdf6cc0471dc515bf4fd03319992e66302465f3f782081f626b4a", func := "scrim/scrimlaw17.GradeBlind", spec := "gradeBlind", unfollowed := true, recurses := true, loops := true, apart := false }
def GradeBlindSaid : Prop := gradeBlindRow.holds Try.pinned (OpenSpec.ofChange gradeBlindSpec)

/-- ITS FALSE NEIGHBOUR: 'it returns false'. Refute it at one input. -/
def gradeBlindWrong : ChangeSpec := { name := "gradeBlind", fn := fun _ => fun
  | [d1, d2, d3, d4] => { results := [.lit (.bool false)], args := [d1, d2, d3, d4] }
  | _ => none }
def GradeBlindWrongFalsely : Prop := gradeBlindRow.holds Try.pinned (OpenSpec.ofChange gradeBlindWrong)

/-- 'scrimlaw17.GradeRow': WHATEVER THE INPUT: true; the input reads as it did. -/
def gradeRowSpec : ChangeSpec := { name := "gradeRow", fn := fun _ => fun
  | [d1, d2, d3] => { results := [.lit (.bool true)], args := [d1, d2, d3] }
  | _ => none }
def gradeRowRow : OpenClaim := { program := "ytdkanalnpbllcaa", sum := "79380aa2968bdf6cc0471dc515bf4fd03319992e66302465f3f782081f626b4a", func := "scrim/scrimlaw17.GradeRow", spec := "gradeRow", unfollowed := true, recurses := true, loops := true, apart := false }
def GradeRowSaid : Prop := gradeRowRow.holds Try.pinned (OpenSpec.ofChange gradeRowSpec)

/-- ITS FALSE NEIGHBOUR: 'it returns false'. Refute it at one input. -/
def gradeRowWrong : ChangeSpec := { name := "gradeRow", fn := fun _ => fun
  | [d1, d2, d3] => { results := [.lit (.bool false)], args := [d1, d2, d3] }
  | _ => none }
def GradeRowWrongFalsely : Prop := gradeRowRow.holds Try.pinned (OpenSpec.ofChange gradeRowWrong)

/-- 'scrimlaw21.TreeKinds': WHATEVER THE INPUT: true; the input reads as it did. -/
def treeKindsSpec : ChangeSpec := { name := "treeKinds", fn := fun _ => fun
  | [d1, d2] => { results := [.lit (.bool true)], args := [d1, d2] }
  | _ => none }
def treeKindsRow : OpenClaim := { program := "ytdkanalnpbllcaa", sum := "79380aa2968bdf6cc0471dc515bf4fd03319992e66302465f3f782081f626b4a", func := "scrim/scrimlaw21.TreeKinds", spec := "treeKinds", unfollowed := true, recurses := true, apart := false }
def TreeKindsSaid : Prop := treeKindsRow.holds Try.pinned (OpenSpec.ofChange treeKindsSpec)

/-- ITS FALSE NEIGHBOUR: 'it returns false'. Refute it at one input. -/
def treeKindsWrong : ChangeSpec := { name := "treeKinds", fn := fun _ => fun
  | [d1, d2] => { results := [.lit (.bool false)], args := [d1, d2] }
  | _ => none }
def TreeKindsWrongFalsely : Prop := treeKindsRow.holds Try.pinned (OpenSpec.ofChange treeKindsWrong)

/-- 'scrimlaw21.TreeParts': WHATEVER THE INPUT: true; the input reads as it did. -/
def treePartsSpec : ChangeSpec := { name := "treeParts", fn := fun _ => fun
  | [d] => { results := [.lit (.bool true)], args := [d] }
  | _ => none }
def treePartsRow : OpenClaim := { program := "ytdkanalnpbllcaa", sum := "79380aa2968bdf6cc0471dc515bf4fd03319992e66302465f3f782081f626b4a", func := "scrim/scrimlaw21.TreeParts", spec := "treeParts", unfollowed := true, recurses := true, loops := true, apart := false }
def TreePartsSaid : Prop := treePartsRow.holds Try.pinned (OpenSpec.ofChange treePartsSpec)

/-- ITS FALSE NEIGHBOUR: 'it returns false'. Refute it at one input. -/
def treePartsWrong : ChangeSpec := { name := "treeParts", fn := fun _ => fun
  | [d] => { results := [.lit (.bool false)], args := [d] }
  | _ => none }
def TreePartsWrongFalsely : Prop := treePartsRow.holds Try.pinned (OpenSpec.ofChange treePartsWrong)

/-- 'scrimlaw21.TreeSame': WHATEVER THE INPUT: true; the input reads as it did. -/
def treeSameSpec : ChangeSpec := { name := "treeSame", fn := fun _ => fun
  | [d1, d2] => { results := [.lit (.bool true)], args := [d1, d2] }
  | _ => none }
def treeSameRow : OpenClaim := { program := "ytdkanalnpbllcaa", sum := "79380aa2968bdf6cc0471dc515bf4fd03319992e66302465f3f782081f626b4a", func := "scrim/scrimlaw21.TreeSame", spec := "treeSame", unfollowed := true, recurses := true, loops := true, apart := false }
def TreeSameSaid : Prop := treeSameRow.holds Try.pinned (OpenSpec.ofChange treeSameSpec)

/-- ITS FALSE NEIGHBOUR: 'it returns false'. Refute it at one input. -/
def treeSameWrong : ChangeSpec := { name := "treeSame", fn := fun _ => fun
  | [d1, d2] => { results := [.lit (.bool false)], args := [d1, d2] }
  | _ => none }
def TreeSameWrongFalsely : Prop := treeSameRow.holds Try.pinned (OpenSpec.ofChange treeSameWrong)

/-- 'scrimlaw17.GradeCompares': WHATEVER THE INPUT: true; the input reads as it did. -/
def gradeComparesSpec : ChangeSpec := { name := "gradeCompares", fn := fun _ => fun
  | [d1, d2, d3, d4] => { results := [.lit (.bool true)], args := [d1, d2, d3, d4] }
  | _ => none }
def gradeComparesRow : OpenClaim := { program := "ytdkanalnpbllcaa", sum := "79380aa2968bdf6cc0471dc515bf4fd03319992e66302465f3f782081f626b4a", func := "scrim/scrimlaw17.GradeCompares", spec := "gradeCompares", unfollowed := true, recurses := true, loops := true, apart := false }
def GradeComparesSaid : Prop := gradeComparesRow.holds Try.pinned (OpenSpec.ofChange gradeComparesSpec)

/-- ITS FALSE NEIGHBOUR: 'it returns false'. Refute it at one input. -/
def gradeComparesWrong : ChangeSpec := { name := "gradeCompares", fn := fun _ => fun
  | [d1, d2, d3, d4] => { results := [.lit (.bool false)], args := [d1, d2, d3, d4] }
  | _ => none }
def GradeComparesWrongFalsely : Prop := gradeComparesRow.holds Try.pinned (OpenSpec.ofChange gradeComparesWrong)

/- THE SECOND FORM. 'bulk': how many values and letters a reading holds, each counted each time it is reached (what is shared counts as often as it is met; a slice's spare places count too). A statement '..UptoSaid' is the law's where the arguments, and the package variables that the reading takes, are together of bulk at most 1048576: NARROWER than '..Said'. Prove '..Said' where nothing that the law and all that it calls make is longer than what came in: it says more and counts as full. Else prove '..UptoSaid'. A law counts once. -/
mutual
def uptoBulk {H : Type} : DataW H → Nat
  | .lit (.string bytes) => bytes.length + 1
  | .lit _ => 1
  | .nil => 1
  | .ptr d => uptoBulk d + 1
  | .slice elems spare => uptoBulkAll elems + uptoBulkAll spare + 1
  | .agg parts => uptoBulkAll parts + 1
  | .iface _ d => uptoBulk d + 1
  | .map entries => uptoBulkEntries entries + 1
  | .held _ => 1
def uptoBulkAll {H : Type} : List (DataW H) → Nat
  | [] => 0
  | d :: r => uptoBulk d + uptoBulkAll r
def uptoBulkEntries {H : Type} : List (Lit × DataW H) → Nat
  | [] => 0
  | x :: r => uptoBulkEntry x + uptoBulkEntries r
def uptoBulkEntry {H : Type} : Lit × DataW H → Nat
  | (.string bytes, d) => bytes.length + uptoBulk d + 1
  | (_, d) => uptoBulk d + 1
 end
def uptoSmall : (H : Type) → List (DataW H) → Bool := fun _ ds => decide (uptoBulkAll ds ≤ 1048576)
def OpenSpec.upto (s : _root_.Go.ChangeSpec) : _root_.Go.OpenSpec := { _root_.Go.OpenSpec.ofChange s with cond := some uptoSmall }

/-- 'scrimlaw08.ArrayRight', WHERE WHAT IT READS IS OF BULK AT MOST 1048576: true; the input reads as it did. -/
def arrayRightUptoRow : OpenClaim := { program := "ytdkanalnpbllcaa", sum := "79380aa2968bdf6cc0471dc515bf4fd03319992e66302465f3f782081f626b4a", func := "scrim/scrimlaw08.ArrayRight", spec := "arrayRight", unfollowed := true, recurses := true, loops := true, apart := false, narrowed := true }
def ArrayRightUptoSaid : Prop := arrayRightUptoRow.holds Try.pinned (OpenSpec.upto arrayRightSpec)

/-- 'scrimlaw17.GradeGrades', WHERE WHAT IT READS IS OF BULK AT MOST 1048576: true; the input reads as it did. -/
def gradeGradesUptoRow : OpenClaim := { program := "ytdkanalnpbllcaa", sum := "79380aa2968bdf6cc0471dc515bf4fd03319992e66302465f3f782081f626b4a", func := "scrim/scrimlaw17.GradeGrades", spec := "gradeGrades", unfollowed := true, recurses := true, loops := true, apart := false, narrowed := true }
def GradeGradesUptoSaid : Prop := gradeGradesUptoRow.holds Try.pinned (OpenSpec.upto gradeGradesSpec)

/-- 'scrimlaw17.GradeBlind', WHERE WHAT IT READS IS OF BULK AT MOST 1048576: true; the input reads as it did. -/
def gradeBlindUptoRow : OpenClaim := { program := "ytdkanalnpbllcaa", sum := "79380aa2968bdf6cc0471dc515bf4fd03319992e66302465f3f782081f626b4a", func := "scrim/scrimlaw17.GradeBlind", spec := "gradeBlind", unfollowed := true, recurses := true, loops := true, apart := false, narrowed := true }
def GradeBlindUptoSaid : Prop := gradeBlindUptoRow.holds Try.pinned (OpenSpec.upto gradeBlindSpec)

/-- 'scrimlaw17.GradeRow', WHERE WHAT IT READS IS OF BULK AT MOST 1048576: true; the input reads as it did. -/
def gradeRowUptoRow : OpenClaim := { program := "ytdkanalnpbllcaa", sum := "79380aa2968bdf6cc0471dc515bf4fd03319992e66302465f3f782081f626b4a", func := "scrim/scrimlaw17.GradeRow", spec := "gradeRow", unfollowed := true, recurses := true, loops := true, apart := false, narrowed := true }
def GradeRowUptoSaid : Prop := gradeRowUptoRow.holds Try.pinned (OpenSpec.upto gradeRowSpec)

/-- 'scrimlaw21.TreeKinds', WHERE WHAT IT READS IS OF BULK AT MOST 1048576: true; the input reads as it did. -/
def treeKindsUptoRow : OpenClaim := { program := "ytdkanalnpbllcaa", sum := "79380aa2968bdf6cc0471dc515bf4fd03319992e66302465f3f782081f626b4a", func := "scrim/scrimlaw21.TreeKinds", spec := "treeKinds", unfollowed := true, recurses := true, apart := false, narrowed := true }
def TreeKindsUptoSaid : Prop := treeKindsUptoRow.holds Try.pinned (OpenSpec.upto treeKindsSpec)

/-- 'scrimlaw21.TreeParts', WHERE WHAT IT READS IS OF BULK AT MOST 1048576: true; the input reads as it did. -/
def treePartsUptoRow : OpenClaim := { program := "ytdkanalnpbllcaa", sum := "79380aa2968bdf6cc0471dc515bf4fd03319992e66302465f3f782081f626b4a", func := "scrim/scrimlaw21.TreeParts", spec := "treeParts", unfollowed := true, recurses := true, loops := true, apart := false, narrowed := true }
def TreePartsUptoSaid : Prop := treePartsUptoRow.holds Try.pinned (OpenSpec.upto treePartsSpec)

/-- 'scrimlaw21.TreeSame', WHERE WHAT IT READS IS OF BULK AT MOST 1048576: true; the input reads as it did. -/
def treeSameUptoRow : OpenClaim := { program := "ytdkanalnpbllcaa", sum := "79380aa2968bdf6cc0471dc515bf4fd03319992e66302465f3f782081f626b4a", func := "scrim/scrimlaw21.TreeSame", spec := "treeSame", unfollowed := true, recurses := true, loops := true, apart := false, narrowed := true }
def TreeSameUptoSaid : Prop := treeSameUptoRow.holds Try.pinned (OpenSpec.upto treeSameSpec)

/-- 'scrimlaw17.GradeCompares', WHERE WHAT IT READS IS OF BULK AT MOST 1048576: true; the input reads as it did. -/
def gradeComparesUptoRow : OpenClaim := { program := "ytdkanalnpbllcaa", sum := "79380aa2968bdf6cc0471dc515bf4fd03319992e66302465f3f782081f626b4a", func := "scrim/scrimlaw17.GradeCompares", spec := "gradeCompares", unfollowed := true, recurses := true, loops := true, apart := false, narrowed := true }
def GradeComparesUptoSaid : Prop := gradeComparesUptoRow.holds Try.pinned (OpenSpec.upto gradeComparesSpec)

end Rows
end Go.Proofs.Ytdkanalnpbllcaa
