/-
  NARROWER THAN 'FOR EVERY INPUT', by the rows' own cells (each row's printed sentence says how): GradeGrades: loops · GradeBlind: loops · GradeRow: loops · GradeCompares: loops.
  DERIVED. THE GIVEN ROWS OF THIS SEAT. 4 by the template 'for every input the law returns true; each argument reads behind the call as it read before'; 0 by the template 'total and deterministic' (their statements: YtbgcadcpeabpgaaTotals.lean).
  GIVEN WITH THE SEED: the statements are not yours to turn. If you find one false, say at which input.
  Laid BY PROGRAM, IN A SANDBOX (cutbox-rows.mjs): the forced cells as the released guide's own fill.sh prints them over the translation d2a93884efe5cdd2… (all of the seat's roots in one cut). By AI agents, Wed Nov 11 2026. No macro, syntax, notation, axiom, sorry.
-/
import Derived.Test.YtbgcadcpeabpgaaChecked
import GoSem.Claim
import GoSem.ClaimJoined
import GoSem.ClaimMapViews
import Derived.JoinedTies
import Derived.KernelRfl
namespace Go.Proofs.Ytbgcadcpeabpgaa
/- THE CELL 'sum', in the pinned program and in every row, IS THE sha256 OF THE DUMP (.gsa) THAT YtbgcadcpeabpgaaProg.lean LOADS. Nothing in Lean hashes anything: it is a label: what it is worth is what the hold of that sum in a sandbox is worth. -/
noncomputable def Try.pinned : Pinned := { name := "ytbgcadcpeabpgaa", sum := "d2a93884efe5cdd2ec23d2560b539bc68a796b9ea795d8ded2e5aac78e1eccb9", checked := Try.checked }
namespace Rows
def none {H : Type} : Left H := { results := [], args := [] }

/-- 'scrimlaw17.GradeGrades': WHATEVER THE INPUT: true; the input reads as it did. -/
def gradeGradesSpec : ChangeSpec := { name := "gradeGrades", fn := fun _ => fun
  | [d1, d2] => { results := [.lit (.bool true)], args := [d1, d2] }
  | _ => none }
def gradeGradesRow : OpenClaim := { program := "ytbgcadcpeabpgaa", sum := "d2a93884efe5cdd2ec23d2560b539bc68a796b9ea795d8ded2e5aac78e1eccb9", func := "scrim/scrimlaw17.GradeGrades", spec := "gradeGrades", unfollowed := true, recurses := true, loops := true, apart := false }
def GradeGradesSaid : Prop := gradeGradesRow.holds Try.pinned (OpenSpec.ofChange gradeGradesSpec)

/-- ITS FALSE NEIGHBOUR: 'it returns false'. Refute it at one input. -/
def gradeGradesWrong : ChangeSpec := { name := "gradeGrades", fn := fun _ => fun
  | [d1, d2] => { results := [.lit (.bool false)], args := [d1, d2] }
  | _ => none }
def GradeGradesWrongFalsely : Prop := gradeGradesRow.holds Try.pinned (OpenSpec.ofChange gradeGradesWrong)

/-- 'scrimlaw17.GradeBlind': WHATEVER THE INPUT: true; the input reads as it did. -/
def gradeBlindSpec : ChangeSpec := { name := "gradeBlind", fn := fun _ => fun
  | [d1, d2, d3, d4] => { results := [.lit (.bool true)], args := [d1, d2, d3, d4] }
  | _ => none }
def gradeBlindRow : OpenClaim := { program := "ytbgcadcpeabpgaa", sum := "d2a93884efe5cdd2ec23d2560b539bc68a796b9ea795d8ded2e5aac78e1eccb9", func := "scrim/scrimlaw17.GradeBlind", spec := "gradeBlind", unfollowed := true, recurses := true, loops := true, apart := false }
def GradeBlindSaid : Prop := gradeBlindRow.holds Try.pinned (OpenSpec.ofChange gradeBlindSpec)

/-- ITS FALSE NEIGHBOUR: 'it returns false'. Refute it at one input. -/
def gradeBlindWrong : ChangeSpec := { name := "gradeBlind", fn := fun _ => fun
  | [d1, d2, d3, d4] => { results := [.lit (.bool false)], args := [d1, d2, d3, d4] }
  | _ => none }
def GradeBlindWrongFalsely : Prop := gradeBlindRow.holds Try.pinned (OpenSpec.ofChange gradeBlindWrong)

/-- 'scrimlaw17.GradeRow': WHATEVER THE INPUT: true; the input reads as it did. -/
def gradeRowSpec : ChangeSpec := { name := "gradeRow", fn := fun _ => fun
  | [d1, d2, d3] => { results := [.lit (.bool true)], args := [d1, d2, d3] }
  | _ => none }
def gradeRowRow : OpenClaim := { program := "ytbgcadcpeabpgaa", sum := "d2a93884efe5cdd2ec23d2560b539bc68a796b9ea795d8ded2e5aac78e1eccb9", func := "scrim/scrimlaw17.GradeRow", spec := "gradeRow", unfollowed := true, recurses := true, loops := true, apart := false }
def GradeRowSaid : Prop := gradeRowRow.holds Try.pinned (OpenSpec.ofChange gradeRowSpec)

/-- ITS FALSE NEIGHBOUR: 'it returns false'. Refute it at one input. -/
def gradeRowWrong : ChangeSpec := { name := "gradeRow", fn := fun _ => fun
  | [d1, d2, d3] => { results := [.lit (.bool false)], args := [d1, d2, d3] }
  | _ => none }
def GradeRowWrongFalsely : Prop := gradeRowRow.holds Try.pinned (OpenSpec.ofChange gradeRowWrong)

/-- 'scrimlaw17.GradeCompares': WHATEVER THE INPUT: true; the input reads as it did. -/
def gradeComparesSpec : ChangeSpec := { name := "gradeCompares", fn := fun _ => fun
  | [d1, d2, d3, d4] => { results := [.lit (.bool true)], args := [d1, d2, d3, d4] }
  | _ => none }
def gradeComparesRow : OpenClaim := { program := "ytbgcadcpeabpgaa", sum := "d2a93884efe5cdd2ec23d2560b539bc68a796b9ea795d8ded2e5aac78e1eccb9", func := "scrim/scrimlaw17.GradeCompares", spec := "gradeCompares", unfollowed := true, recurses := true, loops := true, apart := false }
def GradeComparesSaid : Prop := gradeComparesRow.holds Try.pinned (OpenSpec.ofChange gradeComparesSpec)

/-- ITS FALSE NEIGHBOUR: 'it returns false'. Refute it at one input. -/
def gradeComparesWrong : ChangeSpec := { name := "gradeCompares", fn := fun _ => fun
  | [d1, d2, d3, d4] => { results := [.lit (.bool false)], args := [d1, d2, d3, d4] }
  | _ => none }
def GradeComparesWrongFalsely : Prop := gradeComparesRow.holds Try.pinned (OpenSpec.ofChange gradeComparesWrong)

/- THE SECOND FORM. 'bulk': how many values and letters a reading holds, each counted each time it is reached (what is shared counts as often as it is met; a slice's spare places count too). A statement '..UptoSaid' is the law's where the arguments, and the package variables that the reading takes, are together of bulk at most 1048576: NARROWER than '..Said'. Prove '..Said' where nothing that the law and all that it calls make is longer than what came in: it says more and counts as full. Else prove '..UptoSaid'. A law counts once. -/
mutual
def uptoBulk {H : Type} : DataW H → Nat
  | .lit (.string bytes) => bytes.length + 1
  | .lit _ => 1
  | .nil => 1
  | .ptr d => uptoBulk d + 1
  | .slice elems spare => uptoBulkAll elems + uptoBulkAll spare + 1
  | .agg parts => uptoBulkAll parts + 1
  | .iface _ d => uptoBulk d + 1
  | .map entries => uptoBulkEntries entries + 1
  | .held _ => 1
def uptoBulkAll {H : Type} : List (DataW H) → Nat
  | [] => 0
  | d :: r => uptoBulk d + uptoBulkAll r
def uptoBulkEntries {H : Type} : List (Lit × DataW H) → Nat
  | [] => 0
  | x :: r => uptoBulkEntry x + uptoBulkEntries r
def uptoBulkEntry {H : Type} : Lit × DataW H → Nat
  | (.string bytes, d) => bytes.length + uptoBulk d + 1
  | (_, d) => uptoBulk d + 1
 end
def uptoSmall : (H : Type) → List (DataW H) → Bool := fun _ ds => decide (uptoBulkAll ds ≤ 1048576)
def OpenSpec.upto (s : _root_.Go.ChangeSpec) : _root_.Go.OpenSpec := { _root_.Go.OpenSpec.ofChange s with cond := some uptoSmall }

/-- 'scrimlaw17.GradeGrades', WHERE WHAT IT READS IS OF BULK AT MOST 1048576: true; the input reads as it did. -/
def gradeGradesUptoRow : OpenClaim := { program := "ytbgcadcpeabpgaa", sum := "d2a93884efe5cdd2ec23d2560b539bc68a796b9ea795d8ded2e5aac78e1eccb9", func := "scrim/scrimlaw17.GradeGrades", spec := "gradeGrades", unfollowed := true, recurses := true, loops := true, apart := false, narrowed := true }
def GradeGradesUptoSaid : Prop := gradeGradesUptoRow.holds Try.pinned (OpenSpec.upto gradeGradesSpec)

/-- 'scrimlaw17.GradeBlind', WHERE WHAT IT READS IS OF BULK AT MOST 1048576: true; the input reads as it did. -/
def gradeBlindUptoRow : OpenClaim := { program := "ytbgcadcpeabpgaa", sum := "d2a93884efe5cdd2ec23d2560b539bc68a796b9ea795d8ded2e5aac78e1eccb9", func := "scrim/scrimlaw17.GradeBlind", spec := "gradeBlind", unfollowed := true, recurses := true, loops := true, apart := false, narrowed := true }
def GradeBlindUptoSaid : Prop := gradeBlindUptoRow.holds Try.pinned (OpenSpec.upto gradeBlindSpec)

/-- 'scrimlaw17.GradeRow', WHERE WHAT IT READS IS OF BULK AT MOST 1048576: true; the input reads as it did. -/
def gradeRowUptoRow : OpenClaim := { program := "ytbgcadcpeabpgaa", sum := "d2a93884efe5cdd2ec23d2560b539bc68a796b9ea795d8ded2e5aac78e1eccb9", func := "scrim/scrimlaw17.GradeRow", spec := "gradeRow", unfollowed := true, recurses := true, loops := true, apart := false, narrowed := true }
def GradeRowUptoSaid : Prop := gradeRowUptoRow.holds Try.pinned (OpenSpec.upto gradeRowSpec)

/-- 'scrimlaw17.GradeCompares', WHERE WHAT IT READS IS OF BULK AT MOST 1048576: true; the input reads as it did. -/
def gradeComparesUptoRow : OpenClaim := { program := "ytbgcadcpeabpgaa", sum := "d2a93884efe5cdd2ec23d2560b539bc68a796b9ea795d8ded2e5aac78e1eccb9", func := "scrim/scrimlaw17.GradeCompares", spec := "gradeCompares", unfollowed := true, recurses := true, loops := true, apart := false, narrowed := true }
def GradeComparesUptoSaid : Prop := gradeComparesUptoRow.holds Try.pinned (OpenSpec.upto gradeComparesSpec)

end Rows
end Go.Proofs.Ytbgcadcpeabpgaa
