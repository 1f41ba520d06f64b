/-
  NARROWER THAN 'FOR EVERY INPUT', by the rows' own cells (each row's printed sentence says how): PrimTwo: loops · PrimBlind: loops · PrimFaults: loops · PrimErases: loops · PrimHas: loops.
  DERIVED. THE GIVEN ROWS OF THIS SEAT. 5 by the template 'for every input the law returns true; each argument reads behind the call as it read before'; 0 by the template 'total and deterministic' (their statements: YtokkbgpgaheakaaGreatTotals.lean).
  GIVEN WITH THE SEED: the statements are not yours to turn. If you find one false, say at which input.
  Laid BY PROGRAM, IN A SANDBOX (cutbox-rows.mjs): the forced cells as the released guide's own fill.sh prints them over the translation ae65087da2e5dc89… (all of the seat's roots in one cut). By AI agents, Wed Nov 11 2026. No macro, syntax, notation, axiom, sorry.
-/
import Derived.Test.YtokkbgpgaheakaaGreatChecked
import GoSem.Claim
import GoSem.ClaimJoined
import GoSem.ClaimMapViews
import Derived.JoinedTies
import Derived.KernelRfl
namespace Go.Proofs.YtokkbgpgaheakaaGreat
/- THE CELL 'sum', in the pinned program and in every row, IS THE sha256 OF THE DUMP (.gsa) THAT YtokkbgpgaheakaaGreatProg.lean LOADS. Nothing in Lean hashes anything: it is a label: what it is worth is what the hold of that sum in a sandbox is worth. -/
noncomputable def Tryz.pinned : Pinned := { name := "ytokkbgpgaheakaagreat", sum := "ae65087da2e5dc898c6483e8193b0ab3a04dfabeb55d0ba0fe5ed2d6edca6dc2", checked := Tryz.checked }
namespace Rows
def none {H : Type} : Left H := { results := [], args := [] }

/-- 'scrimlaw19.PrimTwo': WHATEVER THE INPUT: true; the input reads as it did. -/
def primTwoSpec : ChangeSpec := { name := "primTwo", fn := fun _ => fun
  | [d1, d2, d3] => { results := [.lit (.bool true)], args := [d1, d2, d3] }
  | _ => none }
def primTwoRow : OpenClaim := { program := "ytokkbgpgaheakaagreat", sum := "ae65087da2e5dc898c6483e8193b0ab3a04dfabeb55d0ba0fe5ed2d6edca6dc2", func := "scrim/scrimlaw19.PrimTwo", spec := "primTwo", unfollowed := true, recurses := true, loops := true, apart := false }
def PrimTwoSaid : Prop := primTwoRow.holds Tryz.pinned (OpenSpec.ofChange primTwoSpec)

/-- ITS FALSE NEIGHBOUR: 'it returns false'. Refute it at one input. -/
def primTwoWrong : ChangeSpec := { name := "primTwo", fn := fun _ => fun
  | [d1, d2, d3] => { results := [.lit (.bool false)], args := [d1, d2, d3] }
  | _ => none }
def PrimTwoWrongFalsely : Prop := primTwoRow.holds Tryz.pinned (OpenSpec.ofChange primTwoWrong)

/-- 'scrimlaw19.PrimBlind': WHATEVER THE INPUT: true; the input reads as it did. -/
def primBlindSpec : ChangeSpec := { name := "primBlind", fn := fun _ => fun
  | [d1, d2, d3, d4, d5, d6] => { results := [.lit (.bool true)], args := [d1, d2, d3, d4, d5, d6] }
  | _ => none }
def primBlindRow : OpenClaim := { program := "ytokkbgpgaheakaagreat", sum := "ae65087da2e5dc898c6483e8193b0ab3a04dfabeb55d0ba0fe5ed2d6edca6dc2", func := "scrim/scrimlaw19.PrimBlind", spec := "primBlind", unfollowed := true, recurses := true, loops := true, apart := false }
def PrimBlindSaid : Prop := primBlindRow.holds Tryz.pinned (OpenSpec.ofChange primBlindSpec)

/-- ITS FALSE NEIGHBOUR: 'it returns false'. Refute it at one input. -/
def primBlindWrong : ChangeSpec := { name := "primBlind", fn := fun _ => fun
  | [d1, d2, d3, d4, d5, d6] => { results := [.lit (.bool false)], args := [d1, d2, d3, d4, d5, d6] }
  | _ => none }
def PrimBlindWrongFalsely : Prop := primBlindRow.holds Tryz.pinned (OpenSpec.ofChange primBlindWrong)

/-- 'scrimlaw19.PrimFaults': WHATEVER THE INPUT: true; the input reads as it did. -/
def primFaultsSpec : ChangeSpec := { name := "primFaults", fn := fun _ => fun
  | [d1, d2, d3, d4, d5, d6] => { results := [.lit (.bool true)], args := [d1, d2, d3, d4, d5, d6] }
  | _ => none }
def primFaultsRow : OpenClaim := { program := "ytokkbgpgaheakaagreat", sum := "ae65087da2e5dc898c6483e8193b0ab3a04dfabeb55d0ba0fe5ed2d6edca6dc2", func := "scrim/scrimlaw19.PrimFaults", spec := "primFaults", unfollowed := true, recurses := true, loops := true, apart := false }
def PrimFaultsSaid : Prop := primFaultsRow.holds Tryz.pinned (OpenSpec.ofChange primFaultsSpec)

/-- ITS FALSE NEIGHBOUR: 'it returns false'. Refute it at one input. -/
def primFaultsWrong : ChangeSpec := { name := "primFaults", fn := fun _ => fun
  | [d1, d2, d3, d4, d5, d6] => { results := [.lit (.bool false)], args := [d1, d2, d3, d4, d5, d6] }
  | _ => none }
def PrimFaultsWrongFalsely : Prop := primFaultsRow.holds Tryz.pinned (OpenSpec.ofChange primFaultsWrong)

/-- 'scrimlaw19.PrimErases': WHATEVER THE INPUT: true; the input reads as it did. -/
def primErasesSpec : ChangeSpec := { name := "primErases", fn := fun _ => fun
  | [d1, d2, d3] => { results := [.lit (.bool true)], args := [d1, d2, d3] }
  | _ => none }
def primErasesRow : OpenClaim := { program := "ytokkbgpgaheakaagreat", sum := "ae65087da2e5dc898c6483e8193b0ab3a04dfabeb55d0ba0fe5ed2d6edca6dc2", func := "scrim/scrimlaw19.PrimErases", spec := "primErases", unfollowed := true, recurses := true, loops := true, apart := false }
def PrimErasesSaid : Prop := primErasesRow.holds Tryz.pinned (OpenSpec.ofChange primErasesSpec)

/-- ITS FALSE NEIGHBOUR: 'it returns false'. Refute it at one input. -/
def primErasesWrong : ChangeSpec := { name := "primErases", fn := fun _ => fun
  | [d1, d2, d3] => { results := [.lit (.bool false)], args := [d1, d2, d3] }
  | _ => none }
def PrimErasesWrongFalsely : Prop := primErasesRow.holds Tryz.pinned (OpenSpec.ofChange primErasesWrong)

/-- 'scrimlaw19.PrimHas': WHATEVER THE INPUT: true; the input reads as it did. -/
def primHasSpec : ChangeSpec := { name := "primHas", fn := fun _ => fun
  | [d1, d2, d3] => { results := [.lit (.bool true)], args := [d1, d2, d3] }
  | _ => none }
def primHasRow : OpenClaim := { program := "ytokkbgpgaheakaagreat", sum := "ae65087da2e5dc898c6483e8193b0ab3a04dfabeb55d0ba0fe5ed2d6edca6dc2", func := "scrim/scrimlaw19.PrimHas", spec := "primHas", unfollowed := true, recurses := true, loops := true, apart := false }
def PrimHasSaid : Prop := primHasRow.holds Tryz.pinned (OpenSpec.ofChange primHasSpec)

/-- ITS FALSE NEIGHBOUR: 'it returns false'. Refute it at one input. -/
def primHasWrong : ChangeSpec := { name := "primHas", fn := fun _ => fun
  | [d1, d2, d3] => { results := [.lit (.bool false)], args := [d1, d2, d3] }
  | _ => none }
def PrimHasWrongFalsely : Prop := primHasRow.holds Tryz.pinned (OpenSpec.ofChange primHasWrong)

/- THE SECOND FORM. 'bulk': how many values and letters a reading holds, each counted each time it is reached (what is shared counts as often as it is met; a slice's spare places count too). A statement '..UptoSaid' is the law's where the arguments, and the package variables that the reading takes, are together of bulk at most 1048576: NARROWER than '..Said'. Prove '..Said' where nothing that the law and all that it calls make is longer than what came in: it says more and counts as full. Else prove '..UptoSaid'. A law counts once. -/
mutual
def uptoBulk {H : Type} : DataW H → Nat
  | .lit (.string bytes) => bytes.length + 1
  | .lit _ => 1
  | .nil => 1
  | .ptr d => uptoBulk d + 1
  | .slice elems spare => uptoBulkAll elems + uptoBulkAll spare + 1
  | .agg parts => uptoBulkAll parts + 1
  | .iface _ d => uptoBulk d + 1
  | .map entries => uptoBulkEntries entries + 1
  | .held _ => 1
def uptoBulkAll {H : Type} : List (DataW H) → Nat
  | [] => 0
  | d :: r => uptoBulk d + uptoBulkAll r
def uptoBulkEntries {H : Type} : List (Lit × DataW H) → Nat
  | [] => 0
  | x :: r => uptoBulkEntry x + uptoBulkEntries r
def uptoBulkEntry {H : Type} : Lit × DataW H → Nat
  | (.string bytes, d) => bytes.length + uptoBulk d + 1
  | (_, d) => uptoBulk d + 1
 end
def uptoSmall : (H : Type) → List (DataW H) → Bool := fun _ ds => decide (uptoBulkAll ds ≤ 1048576)
def OpenSpec.upto (s : _root_.Go.ChangeSpec) : _root_.Go.OpenSpec := { _root_.Go.OpenSpec.ofChange s with cond := some uptoSmall }

/-- 'scrimlaw19.PrimTwo', WHERE WHAT IT READS IS OF BULK AT MOST 1048576: true; the input reads as it did. -/
def primTwoUptoRow : OpenClaim := { program := "ytokkbgpgaheakaagreat", sum := "ae65087da2e5dc898c6483e8193b0ab3a04dfabeb55d0ba0fe5ed2d6edca6dc2", func := "scrim/scrimlaw19.PrimTwo", spec := "primTwo", unfollowed := true, recurses := true, loops := true, apart := false, narrowed := true }
def PrimTwoUptoSaid : Prop := primTwoUptoRow.holds Tryz.pinned (OpenSpec.upto primTwoSpec)

/-- 'scrimlaw19.PrimBlind', WHERE WHAT IT READS IS OF BULK AT MOST 1048576: true; the input reads as it did. -/
def primBlindUptoRow : OpenClaim := { program := "ytokkbgpgaheakaagreat", sum := "ae65087da2e5dc898c6483e8193b0ab3a04dfabeb55d0ba0fe5ed2d6edca6dc2", func := "scrim/scrimlaw19.PrimBlind", spec := "primBlind", unfollowed := true, recurses := true, loops := true, apart := false, narrowed := true }
def PrimBlindUptoSaid : Prop := primBlindUptoRow.holds Tryz.pinned (OpenSpec.upto primBlindSpec)

/-- 'scrimlaw19.PrimFaults', WHERE WHAT IT READS IS OF BULK AT MOST 1048576: true; the input reads as it did. -/
def primFaultsUptoRow : OpenClaim := { program := "ytokkbgpgaheakaagreat", sum := "ae65087da2e5dc898c6483e8193b0ab3a04dfabeb55d0ba0fe5ed2d6edca6dc2", func := "scrim/scrimlaw19.PrimFaults", spec := "primFaults", unfollowed := true, recurses := true, loops := true, apart := false, narrowed := true }
def PrimFaultsUptoSaid : Prop := primFaultsUptoRow.holds Tryz.pinned (OpenSpec.upto primFaultsSpec)

/-- 'scrimlaw19.PrimErases', WHERE WHAT IT READS IS OF BULK AT MOST 1048576: true; the input reads as it did. -/
def primErasesUptoRow : OpenClaim := { program := "ytokkbgpgaheakaagreat", sum := "ae65087da2e5dc898c6483e8193b0ab3a04dfabeb55d0ba0fe5ed2d6edca6dc2", func := "scrim/scrimlaw19.PrimErases", spec := "primErases", unfollowed := true, recurses := true, loops := true, apart := false, narrowed := true }
def PrimErasesUptoSaid : Prop := primErasesUptoRow.holds Tryz.pinned (OpenSpec.upto primErasesSpec)

/-- 'scrimlaw19.PrimHas', WHERE WHAT IT READS IS OF BULK AT MOST 1048576: true; the input reads as it did. -/
def primHasUptoRow : OpenClaim := { program := "ytokkbgpgaheakaagreat", sum := "ae65087da2e5dc898c6483e8193b0ab3a04dfabeb55d0ba0fe5ed2d6edca6dc2", func := "scrim/scrimlaw19.PrimHas", spec := "primHas", unfollowed := true, recurses := true, loops := true, apart := false, narrowed := true }
def PrimHasUptoSaid : Prop := primHasUptoRow.holds Tryz.pinned (OpenSpec.upto primHasSpec)

end Rows
end Go.Proofs.YtokkbgpgaheakaaGreat
