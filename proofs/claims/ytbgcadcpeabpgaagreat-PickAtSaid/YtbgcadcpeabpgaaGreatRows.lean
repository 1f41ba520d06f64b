/-
  NARROWER THAN 'FOR EVERY INPUT', by the rows' own cells (each row's printed sentence says how): PickReplicates: loops · PickExpands: loops · PickAt: loops · PickBlind: loops · PickWhere: loops · GradeSorts: loops.
  DERIVED. THE GIVEN ROWS OF THIS SEAT. 6 by the template 'for every input the law returns true; each argument reads behind the call as it read before'; 0 by the template 'total and deterministic' (their statements: YtbgcadcpeabpgaaGreatTotals.lean).
  GIVEN WITH THE SEED: the statements are not yours to turn. If you find one false, say at which input.
  Laid BY PROGRAM, IN A SANDBOX (cutbox-rows.mjs): the forced cells as the released guide's own fill.sh prints them over the translation a12abb6ce57c64fc… (all of the seat's roots in one cut). By AI agents, Wed Nov 11 2026. No macro, syntax, notation, axiom, sorry.
-/
import Derived.Test.YtbgcadcpeabpgaaGreatChecked
import GoSem.Claim
import GoSem.ClaimJoined
import GoSem.ClaimMapViews
import Derived.JoinedTies
import Derived.KernelRfl
namespace Go.Proofs.YtbgcadcpeabpgaaGreat
/- THE CELL 'sum', in the pinned program and in every row, IS THE sha256 OF THE DUMP (.gsa) THAT YtbgcadcpeabpgaaGreatProg.lean LOADS. Nothing in Lean hashes anything: it is a label: what it is worth is what the hold of that sum in a sandbox is worth. -/
noncomputable def Tryz.pinned : Pinned := { name := "ytbgcadcpeabpgaagreat", sum := "a12abb6ce57c64fcb7853fc0084314dad184bc1a76f2815564426651050a471c", checked := Tryz.checked }
namespace Rows
def none {H : Type} : Left H := { results := [], args := [] }

/-- 'scrimlaw15.PickReplicates': WHATEVER THE INPUT: true; the input reads as it did. -/
def pickReplicatesSpec : ChangeSpec := { name := "pickReplicates", fn := fun _ => fun
  | [d1, d2, d3] => { results := [.lit (.bool true)], args := [d1, d2, d3] }
  | _ => none }
def pickReplicatesRow : OpenClaim := { program := "ytbgcadcpeabpgaagreat", sum := "a12abb6ce57c64fcb7853fc0084314dad184bc1a76f2815564426651050a471c", func := "scrim/scrimlaw15.PickReplicates", spec := "pickReplicates", unfollowed := true, recurses := true, loops := true, apart := false }
def PickReplicatesSaid : Prop := pickReplicatesRow.holds Tryz.pinned (OpenSpec.ofChange pickReplicatesSpec)

/-- ITS FALSE NEIGHBOUR: 'it returns false'. Refute it at one input. -/
def pickReplicatesWrong : ChangeSpec := { name := "pickReplicates", fn := fun _ => fun
  | [d1, d2, d3] => { results := [.lit (.bool false)], args := [d1, d2, d3] }
  | _ => none }
def PickReplicatesWrongFalsely : Prop := pickReplicatesRow.holds Tryz.pinned (OpenSpec.ofChange pickReplicatesWrong)

/-- 'scrimlaw15.PickExpands': WHATEVER THE INPUT: true; the input reads as it did. -/
def pickExpandsSpec : ChangeSpec := { name := "pickExpands", fn := fun _ => fun
  | [d1, d2, d3] => { results := [.lit (.bool true)], args := [d1, d2, d3] }
  | _ => none }
def pickExpandsRow : OpenClaim := { program := "ytbgcadcpeabpgaagreat", sum := "a12abb6ce57c64fcb7853fc0084314dad184bc1a76f2815564426651050a471c", func := "scrim/scrimlaw15.PickExpands", spec := "pickExpands", unfollowed := true, recurses := true, loops := true, apart := false }
def PickExpandsSaid : Prop := pickExpandsRow.holds Tryz.pinned (OpenSpec.ofChange pickExpandsSpec)

/-- ITS FALSE NEIGHBOUR: 'it returns false'. Refute it at one input. -/
def pickExpandsWrong : ChangeSpec := { name := "pickExpands", fn := fun _ => fun
  | [d1, d2, d3] => { results := [.lit (.bool false)], args := [d1, d2, d3] }
  | _ => none }
def PickExpandsWrongFalsely : Prop := pickExpandsRow.holds Tryz.pinned (OpenSpec.ofChange pickExpandsWrong)

/-- 'scrimlaw15.PickAt': WHATEVER THE INPUT: true; the input reads as it did. -/
def pickAtSpec : ChangeSpec := { name := "pickAt", fn := fun _ => fun
  | [d1, d2] => { results := [.lit (.bool true)], args := [d1, d2] }
  | _ => none }
def pickAtRow : OpenClaim := { program := "ytbgcadcpeabpgaagreat", sum := "a12abb6ce57c64fcb7853fc0084314dad184bc1a76f2815564426651050a471c", func := "scrim/scrimlaw15.PickAt", spec := "pickAt", unfollowed := true, recurses := true, loops := true, apart := false }
def PickAtSaid : Prop := pickAtRow.holds Tryz.pinned (OpenSpec.ofChange pickAtSpec)

/-- ITS FALSE NEIGHBOUR: 'it returns false'. Refute it at one input. -/
def pickAtWrong : ChangeSpec := { name := "pickAt", fn := fun _ => fun
  | [d1, d2] => { results := [.lit (.bool false)], args := [d1, d2] }
  | _ => none }
def PickAtWrongFalsely : Prop := pickAtRow.holds Tryz.pinned (OpenSpec.ofChange pickAtWrong)

/-- 'scrimlaw15.PickBlind': WHATEVER THE INPUT: true; the input reads as it did. -/
def pickBlindSpec : ChangeSpec := { name := "pickBlind", fn := fun _ => fun
  | [d1, d2, d3, d4, d5, d6] => { results := [.lit (.bool true)], args := [d1, d2, d3, d4, d5, d6] }
  | _ => none }
def pickBlindRow : OpenClaim := { program := "ytbgcadcpeabpgaagreat", sum := "a12abb6ce57c64fcb7853fc0084314dad184bc1a76f2815564426651050a471c", func := "scrim/scrimlaw15.PickBlind", spec := "pickBlind", unfollowed := true, recurses := true, loops := true, apart := false }
def PickBlindSaid : Prop := pickBlindRow.holds Tryz.pinned (OpenSpec.ofChange pickBlindSpec)

/-- ITS FALSE NEIGHBOUR: 'it returns false'. Refute it at one input. -/
def pickBlindWrong : ChangeSpec := { name := "pickBlind", fn := fun _ => fun
  | [d1, d2, d3, d4, d5, d6] => { results := [.lit (.bool false)], args := [d1, d2, d3, d4, d5, d6] }
  | _ => none }
def PickBlindWrongFalsely : Prop := pickBlindRow.holds Tryz.pinned (OpenSpec.ofChange pickBlindWrong)

/-- 'scrimlaw15.PickWhere': WHATEVER THE INPUT: true; the input reads as it did. -/
def pickWhereSpec : ChangeSpec := { name := "pickWhere", fn := fun _ => fun
  | [d1, d2] => { results := [.lit (.bool true)], args := [d1, d2] }
  | _ => none }
def pickWhereRow : OpenClaim := { program := "ytbgcadcpeabpgaagreat", sum := "a12abb6ce57c64fcb7853fc0084314dad184bc1a76f2815564426651050a471c", func := "scrim/scrimlaw15.PickWhere", spec := "pickWhere", unfollowed := true, recurses := true, loops := true, apart := false }
def PickWhereSaid : Prop := pickWhereRow.holds Tryz.pinned (OpenSpec.ofChange pickWhereSpec)

/-- ITS FALSE NEIGHBOUR: 'it returns false'. Refute it at one input. -/
def pickWhereWrong : ChangeSpec := { name := "pickWhere", fn := fun _ => fun
  | [d1, d2] => { results := [.lit (.bool false)], args := [d1, d2] }
  | _ => none }
def PickWhereWrongFalsely : Prop := pickWhereRow.holds Tryz.pinned (OpenSpec.ofChange pickWhereWrong)

/-- 'scrimlaw17.GradeSorts': WHATEVER THE INPUT: true; the input reads as it did. -/
def gradeSortsSpec : ChangeSpec := { name := "gradeSorts", fn := fun _ => fun
  | [d1, d2] => { results := [.lit (.bool true)], args := [d1, d2] }
  | _ => none }
def gradeSortsRow : OpenClaim := { program := "ytbgcadcpeabpgaagreat", sum := "a12abb6ce57c64fcb7853fc0084314dad184bc1a76f2815564426651050a471c", func := "scrim/scrimlaw17.GradeSorts", spec := "gradeSorts", unfollowed := true, recurses := true, loops := true, apart := false }
def GradeSortsSaid : Prop := gradeSortsRow.holds Tryz.pinned (OpenSpec.ofChange gradeSortsSpec)

/-- ITS FALSE NEIGHBOUR: 'it returns false'. Refute it at one input. -/
def gradeSortsWrong : ChangeSpec := { name := "gradeSorts", fn := fun _ => fun
  | [d1, d2] => { results := [.lit (.bool false)], args := [d1, d2] }
  | _ => none }
def GradeSortsWrongFalsely : Prop := gradeSortsRow.holds Tryz.pinned (OpenSpec.ofChange gradeSortsWrong)

/- THE SECOND FORM. 'bulk': how many values and letters a reading holds, each counted each time it is reached (what is shared counts as often as it is met; a slice's spare places count too). A statement '..UptoSaid' is the law's where the arguments, and the package variables that the reading takes, are together of bulk at most 1048576: NARROWER than '..Said'. Prove '..Said' where nothing that the law and all that it calls make is longer than what came in: it says more and counts as full. Else prove '..UptoSaid'. A law counts once. -/
mutual
def uptoBulk {H : Type} : DataW H → Nat
  | .lit (.string bytes) => bytes.length + 1
  | .lit _ => 1
  | .nil => 1
  | .ptr d => uptoBulk d + 1
  | .slice elems spare => uptoBulkAll elems + uptoBulkAll spare + 1
  | .agg parts => uptoBulkAll parts + 1
  | .iface _ d => uptoBulk d + 1
  | .map entries => uptoBulkEntries entries + 1
  | .held _ => 1
def uptoBulkAll {H : Type} : List (DataW H) → Nat
  | [] => 0
  | d :: r => uptoBulk d + uptoBulkAll r
def uptoBulkEntries {H : Type} : List (Lit × DataW H) → Nat
  | [] => 0
  | x :: r => uptoBulkEntry x + uptoBulkEntries r
def uptoBulkEntry {H : Type} : Lit × DataW H → Nat
  | (.string bytes, d) => bytes.length + uptoBulk d + 1
  | (_, d) => uptoBulk d + 1
 end
def uptoSmall : (H : Type) → List (DataW H) → Bool := fun _ ds => decide (uptoBulkAll ds ≤ 1048576)
def OpenSpec.upto (s : _root_.Go.ChangeSpec) : _root_.Go.OpenSpec := { _root_.Go.OpenSpec.ofChange s with cond := some uptoSmall }

/-- 'scrimlaw15.PickReplicates', WHERE WHAT IT READS IS OF BULK AT MOST 1048576: true; the input reads as it did. -/
def pickReplicatesUptoRow : OpenClaim := { program := "ytbgcadcpeabpgaagreat", sum := "a12abb6ce57c64fcb7853fc0084314dad184bc1a76f2815564426651050a471c", func := "scrim/scrimlaw15.PickReplicates", spec := "pickReplicates", unfollowed := true, recurses := true, loops := true, apart := false, narrowed := true }
def PickReplicatesUptoSaid : Prop := pickReplicatesUptoRow.holds Tryz.pinned (OpenSpec.upto pickReplicatesSpec)

/-- 'scrimlaw15.PickExpands', WHERE WHAT IT READS IS OF BULK AT MOST 1048576: true; the input reads as it did. -/
def pickExpandsUptoRow : OpenClaim := { program := "ytbgcadcpeabpgaagreat", sum := "a12abb6ce57c64fcb7853fc0084314dad184bc1a76f2815564426651050a471c", func := "scrim/scrimlaw15.PickExpands", spec := "pickExpands", unfollowed := true, recurses := true, loops := true, apart := false, narrowed := true }
def PickExpandsUptoSaid : Prop := pickExpandsUptoRow.holds Tryz.pinned (OpenSpec.upto pickExpandsSpec)

/-- 'scrimlaw15.PickAt', WHERE WHAT IT READS IS OF BULK AT MOST 1048576: true; the input reads as it did. -/
def pickAtUptoRow : OpenClaim := { program := "ytbgcadcpeabpgaagreat", sum := "a12abb6ce57c64fcb7853fc0084314dad184bc1a76f2815564426651050a471c", func := "scrim/scrimlaw15.PickAt", spec := "pickAt", unfollowed := true, recurses := true, loops := true, apart := false, narrowed := true }
def PickAtUptoSaid : Prop := pickAtUptoRow.holds Tryz.pinned (OpenSpec.upto pickAtSpec)

/-- 'scrimlaw15.PickBlind', WHERE WHAT IT READS IS OF BULK AT MOST 1048576: true; the input reads as it did. -/
def pickBlindUptoRow : OpenClaim := { program := "ytbgcadcpeabpgaagreat", sum := "a12abb6ce57c64fcb7853fc0084314dad184bc1a76f2815564426651050a471c", func := "scrim/scrimlaw15.PickBlind", spec := "pickBlind", unfollowed := true, recurses := true, loops := true, apart := false, narrowed := true }
def PickBlindUptoSaid : Prop := pickBlindUptoRow.holds Tryz.pinned (OpenSpec.upto pickBlindSpec)

/-- 'scrimlaw15.PickWhere', WHERE WHAT IT READS IS OF BULK AT MOST 1048576: true; the input reads as it did. -/
def pickWhereUptoRow : OpenClaim := { program := "ytbgcadcpeabpgaagreat", sum := "a12abb6ce57c64fcb7853fc0084314dad184bc1a76f2815564426651050a471c", func := "scrim/scrimlaw15.PickWhere", spec := "pickWhere", unfollowed := true, recurses := true, loops := true, apart := false, narrowed := true }
def PickWhereUptoSaid : Prop := pickWhereUptoRow.holds Tryz.pinned (OpenSpec.upto pickWhereSpec)

/-- 'scrimlaw17.GradeSorts', WHERE WHAT IT READS IS OF BULK AT MOST 1048576: true; the input reads as it did. -/
def gradeSortsUptoRow : OpenClaim := { program := "ytbgcadcpeabpgaagreat", sum := "a12abb6ce57c64fcb7853fc0084314dad184bc1a76f2815564426651050a471c", func := "scrim/scrimlaw17.GradeSorts", spec := "gradeSorts", unfollowed := true, recurses := true, loops := true, apart := false, narrowed := true }
def GradeSortsUptoSaid : Prop := gradeSortsUptoRow.holds Tryz.pinned (OpenSpec.upto gradeSortsSpec)

end Rows
end Go.Proofs.YtbgcadcpeabpgaaGreat
