/- Proved: lemmas for the law of this folder, part 4. No condition. -/
import Derived.Test.YtjmddikeadbmjaaGreatRows
import Derived.WalkKit
import Derived.WalkSpells
import Derived.WalkLawsBesides
import Derived.Lib.Hide
import Derived.Laws.CopyOwn
import Derived.Deep.QuietTactic
import Derived.BigQuiet
import Derived.Orders
import Derived.Defers
import Derived.Recover
import Derived.Test.YtjmddikeadbmjaaGreatProg
import Derived.KernelRfl
import Derived.ProofKit
import Derived.OpenShut
import Derived.Test.YtjmddikeadbmjaaGreatZ3bb57ae3
set_option linter.unusedSimpArgs false
set_option linter.unusedVariables false
namespace Go.Proofs.YtjmddikeadbmjaaGreat
def mdL : List (Nat × FMode) := [(139, { own := [(0, [])] }), (47, { own := [(0, [])] }), (132, { own := [(0, [])] }), (133, { own := [(0, [])] }), (156, { arg := some 0, back := true }), (161, { own := [(0, [])] })]
def md (f : Nat) : FMode := mdAt mdL f
theorem wfP : WfP Tryz.prog := wf_of (by kernel_rfl)
theorem mixP : Tryz.prog.follows .mixedOrders = true := by kernel_rfl
theorem noopP : NoopP Tryz.prog md := noop_all (by
  intro p hp hn
  simp only [mdL, List.mem_cons, List.not_mem_nil, or_false] at hp
  rcases hp with rfl | rfl | rfl | rfl | rfl | rfl
  all_goals first | exact absurd hn (by decide) | skip
  )
theorem sound_ {f : Nat} {cts : List CT} {xs ys : List D} {orc : List (Nat × Orc)} {t : Tree} (n : Nat) (h : evFun Tryz.prog md orc n f cts xs = t) (ht : t.wp Tryz.prog md (fun zs => zs = ys)) : Spec Tryz.prog md f cts xs ys :=
  fun_sound wfP mixP noopP (orc := orc) (n := n) (by rw [h]; exact ht)
end Go.Proofs.YtjmddikeadbmjaaGreat
set_option maxRecDepth 100000
namespace Go.Proofs.YtjmddikeadbmjaaGreat
/-! scrim/scrimref04.Small -/
def ref04_Small_orc : List (Nat × Orc) := []
theorem ref04_Small_tree (n : Nat) (a0 : D) : evFun Tryz.prog md ref04_Small_orc n 23 [] [a0] =
 .call 51 [] [a0] fun yy1 =>
 .br (!((yy1.getD 0 D.nil).toBool)) (.ret [D.int 0, D.bool false])
 (.call 53 [] [a0] fun yy2 =>
 .call 52 [] [yy2.getD 0 D.nil] fun yy3 =>
 .ret [D.int ((yy3.getD 0 D.nil).toInt), D.bool ((yy3.getD 1 D.nil).toBool)]) := by kernel_rfl

/-! scrim/scrimref04.Right -/
def ref04_Right_orc : List (Nat × Orc) := []
theorem ref04_Right_tree (n : Nat) (a0 : D) : evFun Tryz.prog md ref04_Right_orc n 24 [] [a0] =
 .br (decide (32 < (((a0.fld 1).els).length : Int))) (.ret [D.bool false])
 (.br (decide (32 < (((a0.fld 2).els).length : Int))) (.ret [D.bool false])
 (.call 53 [] [a0] fun yy1 =>
 .call 55 [] [a0] fun yy2 =>
 .call 54 [] [yy1.getD 0 D.nil, yy2.getD 0 D.nil] fun yy3 =>
 .br (((yy3.getD 1 D.nil).toInt) == 0) (.call 30 [] [a0, yy3.getD 0 D.nil] fun yy4 =>
 .ret [D.bool ((yy4.getD 0 D.nil).toBool)])
 (.ret [D.bool false]))) := by kernel_rfl

/-! scrim/scrimref04.Same -/
def ref04_Same_orc : List (Nat × Orc) := []
theorem ref04_Same_tree (n : Nat) (a0 : D) (b1 : D) : evFun Tryz.prog md ref04_Same_orc n 30 [] [a0, b1] =
 .br (((a0.fld 0).toBool) == ((b1.fld 0).toBool)) (.call 88 [] [a0.fld 1, b1.fld 1] fun yy1 =>
 .br ((yy1.getD 0 D.nil).toBool) (.call 88 [] [a0.fld 2, b1.fld 2] fun yy2 =>
 .ret [D.bool ((yy2.getD 0 D.nil).toBool)])
 (.ret [D.bool false]))
 (.ret [D.bool false]) := by kernel_rfl

/-! scrim/scrimref04.Of -/
def ref04_Of_orc : List (Nat × Orc) := []
theorem ref04_Of_tree (n : Nat) (n0 : D) : evFun Tryz.prog md ref04_Of_orc n 39 [] [n0] =
 .call 95 [] [D.int n0.toInt] fun yy1 =>
 .call 94 [] [yy1.getD 0 D.nil] fun yy2 =>
 .ret [yy2.getD 0 D.nil] := by kernel_rfl

/-! scrim/scrimref04.IsWhole -/
def ref04_IsWhole_orc : List (Nat × Orc) := []
theorem ref04_IsWhole_tree (n : Nat) (a0 : D) : evFun Tryz.prog md ref04_IsWhole_orc n 51 [] [a0] =
 .br ((((a0.fld 2).els).length : Int) == 1) (.br (decide (0 ≤ 0)) (.br (decide (0 < (((a0.fld 2).els).length : Int))) (.ret [D.bool (((((a0.fld 2).els).getD (Int.toNat 0) D.nil).toInt) == 1)]) .fail) .fail)
 (.ret [D.bool false]) := by kernel_rfl

/-! scrim/scrimref04.Top -/
def ref04_Top_orc : List (Nat × Orc) := []
theorem ref04_Top_tree (n : Nat) (a0 : D) : evFun Tryz.prog md ref04_Top_orc n 53 [] [a0] =
 .call 105 [] [D.agg [D.bool ((a0.fld 0).toBool), a0.fld 1]] fun yy1 =>
 .ret [yy1.getD 0 D.nil] := by kernel_rfl

/-! scrim/scrimref04.Make -/
def ref04_Make_orc : List (Nat × Orc) := []
theorem ref04_Make_tree (n : Nat) (p0 : D) (q1 : D) : evFun Tryz.prog md ref04_Make_orc n 54 [] [p0, q1] =
 .call 105 [] [p0] fun yy1 =>
 .call 105 [] [q1] fun yy2 =>
 .br (((((yy2.getD 0 D.nil).fld 1).els).length : Int) == 0) (.ret [D.agg [D.bool false, D.sl [], D.sl []], D.int 3])
 (.call 107 [] [(yy1.getD 0 D.nil).fld 1, (yy2.getD 0 D.nil).fld 1] fun yy3 =>
 .call 108 [] [(yy1.getD 0 D.nil).fld 1, yy3.getD 0 D.nil] fun yy4 =>
 .call 108 [] [(yy2.getD 0 D.nil).fld 1, yy3.getD 0 D.nil] fun yy5 =>
 .br (decide (32 < (((yy4.getD 0 D.nil).els).length : Int))) (.ret [D.agg [D.bool false, D.sl [], D.sl []], D.int 7])
 (.br (decide (32 < (((yy5.getD 0 D.nil).els).length : Int))) (.ret [D.agg [D.bool false, D.sl [], D.sl []], D.int 7])
 (.br (decide (0 < (((yy4.getD 0 D.nil).els).length : Int))) (.ret [D.agg [D.bool (!((((yy1.getD 0 D.nil).fld 0).toBool) == (((yy2.getD 0 D.nil).fld 0).toBool))), yy4.getD 0 D.nil, yy5.getD 0 D.nil], D.int 0])
 (.ret [D.agg [D.bool false, yy4.getD 0 D.nil, yy5.getD 0 D.nil], D.int 0])))) := by kernel_rfl

/-! scrim/scrimref04.Bot -/
def ref04_Bot_orc : List (Nat × Orc) := []
theorem ref04_Bot_tree (n : Nat) (a0 : D) : evFun Tryz.prog md ref04_Bot_orc n 55 [] [a0] =
 .call 105 [] [D.agg [D.bool false, a0.fld 2]] fun yy1 =>
 .ret [yy1.getD 0 D.nil] := by kernel_rfl

/-! scrim/ratio.Neg -/
def ratio_Neg_orc : List (Nat × Orc) := []
theorem ratio_Neg_tree (n : Nat) (a0 : D) : evFun Tryz.prog md ratio_Neg_orc n 57 [] [a0] =
 .call 109 [] [D.bool (!((a0.fld 0).toBool)), a0] fun yy1 =>
 .ret [yy1.getD 0 D.nil] := by kernel_rfl

/-! scrim/ratio.Of -/
def ratio_Of_orc : List (Nat × Orc) := []
theorem ratio_Of_tree (n : Nat) (n0 : D) : evFun Tryz.prog md ratio_Of_orc n 58 [] [n0] =
 .call 111 [] [D.int n0.toInt] fun yy1 =>
 .call 110 [] [yy1.getD 0 D.nil] fun yy2 =>
 .ret [yy2.getD 0 D.nil] := by kernel_rfl

/-! scrim/ratio.Sign -/
def ratio_Sign_orc : List (Nat × Orc) := []
theorem ratio_Sign_tree (n : Nat) (a0 : D) : evFun Tryz.prog md ratio_Sign_orc n 59 [] [a0] =
 .call 113 [] [a0] fun yy1 =>
 .call 112 [] [yy1.getD 0 D.nil] fun yy2 =>
 .ret [D.int ((yy2.getD 0 D.nil).toInt)] := by kernel_rfl

/-! scrim/ratio.Div -/
def ratio_Div_orc : List (Nat × Orc) := []
theorem ratio_Div_tree (n : Nat) (a0 : D) (b1 : D) : evFun Tryz.prog md ratio_Div_orc n 60 [] [a0, b1] =
 .call 113 [] [a0] fun yy1 =>
 .call 116 [] [b1] fun yy2 =>
 .call 115 [] [yy1.getD 0 D.nil, yy2.getD 0 D.nil] fun yy3 =>
 .call 116 [] [a0] fun yy4 =>
 .call 113 [] [b1] fun yy5 =>
 .call 115 [] [yy4.getD 0 D.nil, yy5.getD 0 D.nil] fun yy6 =>
 .call 114 [] [yy3.getD 0 D.nil, yy6.getD 0 D.nil] fun yy7 =>
 .ret [yy7.getD 0 D.nil, D.int ((yy7.getD 1 D.nil).toInt)] := by kernel_rfl

/-! scrim/ratio.Ceil -/
def ratio_Ceil_orc : List (Nat × Orc) := []
theorem ratio_Ceil_tree (n : Nat) (a0 : D) : evFun Tryz.prog md ratio_Ceil_orc n 61 [] [a0] =
 .call 57 [] [a0] fun yy1 =>
 .call 62 [] [yy1.getD 0 D.nil] fun yy2 =>
 .call 57 [] [yy2.getD 0 D.nil] fun yy3 =>
 .ret [yy3.getD 0 D.nil] := by kernel_rfl

/-! scrim/ratio.Floor -/
def ratio_Floor_orc : List (Nat × Orc) := []
theorem ratio_Floor_tree (n : Nat) (a0 : D) : evFun Tryz.prog md ratio_Floor_orc n 62 [] [a0] =
 .call 113 [] [a0] fun yy1 =>
 .call 116 [] [a0] fun yy2 =>
 .call 117 [] [yy1.getD 0 D.nil, yy2.getD 0 D.nil] fun yy3 =>
 .call 110 [] [yy3.getD 0 D.nil] fun yy4 =>
 .ret [yy4.getD 0 D.nil] := by kernel_rfl

/-! scrim/ratio.Abs -/
def ratio_Abs_orc : List (Nat × Orc) := []
theorem ratio_Abs_tree (n : Nat) (a0 : D) : evFun Tryz.prog md ratio_Abs_orc n 63 [] [a0] =
 .call 109 [] [D.bool false, a0] fun yy1 =>
 .ret [yy1.getD 0 D.nil] := by kernel_rfl

/-! scrim/ratio.Small -/
def ratio_Small_orc : List (Nat × Orc) := []
theorem ratio_Small_tree (n : Nat) (a0 : D) : evFun Tryz.prog md ratio_Small_orc n 64 [] [a0] =
 .call 118 [] [a0.fld 2] fun yy1 =>
 .br (!((yy1.getD 0 D.nil).toBool)) (.ret [D.int 0, D.bool false])
 (.call 113 [] [a0] fun yy2 =>
 .call 119 [] [yy2.getD 0 D.nil] fun yy3 =>
 .ret [D.int ((yy3.getD 0 D.nil).toInt), D.bool ((yy3.getD 1 D.nil).toBool)]) := by kernel_rfl

/-! scrim/scrimref04.Neg -/
def ref04_Neg_orc : List (Nat × Orc) := []
theorem ref04_Neg_tree (n : Nat) (a0 : D) : evFun Tryz.prog md ref04_Neg_orc n 66 [] [a0] =
 .br ((((a0.fld 1).els).length : Int) == 0) (.call 39 [] [D.int 0] fun yy1 =>
 .ret [yy1.getD 0 D.nil])
 (.ret [D.agg [D.bool (!((a0.fld 0).toBool)), a0.fld 1, a0.fld 2]]) := by kernel_rfl

/-! scrim/scrimref04.Cmp -/
def ref04_Cmp_orc : List (Nat × Orc) := []
theorem ref04_Cmp_tree (n : Nat) (a0 : D) (b1 : D) : evFun Tryz.prog md ref04_Cmp_orc n 67 [] [a0, b1] =
 .call 53 [] [a0] fun yy1 =>
 .call 55 [] [b1] fun yy2 =>
 .call 123 [] [yy1.getD 0 D.nil, yy2.getD 0 D.nil] fun yy3 =>
 .call 53 [] [b1] fun yy4 =>
 .call 55 [] [a0] fun yy5 =>
 .call 123 [] [yy4.getD 0 D.nil, yy5.getD 0 D.nil] fun yy6 =>
 .call 122 [] [yy3.getD 0 D.nil, yy6.getD 0 D.nil] fun yy7 =>
 .call 121 [] [yy7.getD 0 D.nil] fun yy8 =>
 .ret [D.int ((yy8.getD 0 D.nil).toInt)] := by kernel_rfl

/-! scrim/scrimref04.Div -/
def ref04_Div_orc : List (Nat × Orc) := []
theorem ref04_Div_tree (n : Nat) (a0 : D) (b1 : D) : evFun Tryz.prog md ref04_Div_orc n 68 [] [a0, b1] =
 .call 53 [] [a0] fun yy1 =>
 .call 55 [] [b1] fun yy2 =>
 .call 123 [] [yy1.getD 0 D.nil, yy2.getD 0 D.nil] fun yy3 =>
 .call 55 [] [a0] fun yy4 =>
 .call 53 [] [b1] fun yy5 =>
 .call 123 [] [yy4.getD 0 D.nil, yy5.getD 0 D.nil] fun yy6 =>
 .call 54 [] [yy3.getD 0 D.nil, yy6.getD 0 D.nil] fun yy7 =>
 .ret [yy7.getD 0 D.nil, D.int ((yy7.getD 1 D.nil).toInt)] := by kernel_rfl

/-! scrim/scrimref04.Floor -/
def ref04_Floor_orc : List (Nat × Orc) := []
theorem ref04_Floor_tree (n : Nat) (a0 : D) : evFun Tryz.prog md ref04_Floor_orc n 69 [] [a0] =
 .call 53 [] [a0] fun yy1 =>
 .call 55 [] [a0] fun yy2 =>
 .call 124 [] [yy1.getD 0 D.nil, yy2.getD 0 D.nil] fun yy3 =>
 .call 94 [] [yy3.getD 0 D.nil] fun yy4 =>
 .ret [yy4.getD 0 D.nil] := by kernel_rfl

/-! scrim/ratio.Add -/
def ratio_Add_orc : List (Nat × Orc) := []
theorem ratio_Add_tree (n : Nat) (a0 : D) (b1 : D) : evFun Tryz.prog md ratio_Add_orc n 71 [] [a0, b1] =
 .call 113 [] [a0] fun yy1 =>
 .call 116 [] [b1] fun yy2 =>
 .call 115 [] [yy1.getD 0 D.nil, yy2.getD 0 D.nil] fun yy3 =>
 .call 113 [] [b1] fun yy4 =>
 .call 116 [] [a0] fun yy5 =>
 .call 115 [] [yy4.getD 0 D.nil, yy5.getD 0 D.nil] fun yy6 =>
 .call 125 [] [yy3.getD 0 D.nil, yy6.getD 0 D.nil] fun yy7 =>
 .call 116 [] [a0] fun yy8 =>
 .call 116 [] [b1] fun yy9 =>
 .call 115 [] [yy8.getD 0 D.nil, yy9.getD 0 D.nil] fun yy10 =>
 .call 114 [] [yy7.getD 0 D.nil, yy10.getD 0 D.nil] fun yy11 =>
 .ret [yy11.getD 0 D.nil, D.int ((yy11.getD 1 D.nil).toInt)] := by kernel_rfl

/-! scrim/ratio.Sub -/
def ratio_Sub_orc : List (Nat × Orc) := []
theorem ratio_Sub_tree (n : Nat) (a0 : D) (b1 : D) : evFun Tryz.prog md ratio_Sub_orc n 72 [] [a0, b1] =
 .call 57 [] [b1] fun yy1 =>
 .call 71 [] [a0, yy1.getD 0 D.nil] fun yy2 =>
 .ret [yy2.getD 0 D.nil, D.int ((yy2.getD 1 D.nil).toInt)] := by kernel_rfl

/-! scrim/ratio.Mul -/
def ratio_Mul_orc : List (Nat × Orc) := []
theorem ratio_Mul_tree (n : Nat) (a0 : D) (b1 : D) : evFun Tryz.prog md ratio_Mul_orc n 73 [] [a0, b1] =
 .call 113 [] [a0] fun yy1 =>
 .call 113 [] [b1] fun yy2 =>
 .call 115 [] [yy1.getD 0 D.nil, yy2.getD 0 D.nil] fun yy3 =>
 .call 116 [] [a0] fun yy4 =>
 .call 116 [] [b1] fun yy5 =>
 .call 115 [] [yy4.getD 0 D.nil, yy5.getD 0 D.nil] fun yy6 =>
 .call 114 [] [yy3.getD 0 D.nil, yy6.getD 0 D.nil] fun yy7 =>
 .ret [yy7.getD 0 D.nil, D.int ((yy7.getD 1 D.nil).toInt)] := by kernel_rfl

/-! scrim/ratio.Cmp -/
def ratio_Cmp_orc : List (Nat × Orc) := []
theorem ratio_Cmp_tree (n : Nat) (a0 : D) (b1 : D) : evFun Tryz.prog md ratio_Cmp_orc n 74 [] [a0, b1] =
 .call 118 [] [a0.fld 2] fun yy1 =>
 .br ((yy1.getD 0 D.nil).toBool) (.call 118 [] [b1.fld 2] fun yy2 =>
 .br ((yy2.getD 0 D.nil).toBool) (.call 113 [] [a0] fun yy3 =>
 .call 113 [] [b1] fun yy4 =>
 .call 126 [] [yy3.getD 0 D.nil, yy4.getD 0 D.nil] fun yy5 =>
 .ret [D.int ((yy5.getD 0 D.nil).toInt)])
 (.call 113 [] [a0] fun yy6 =>
 .call 116 [] [b1] fun yy7 =>
 .call 115 [] [yy6.getD 0 D.nil, yy7.getD 0 D.nil] fun yy8 =>
 .call 113 [] [b1] fun yy9 =>
 .call 116 [] [a0] fun yy10 =>
 .call 115 [] [yy9.getD 0 D.nil, yy10.getD 0 D.nil] fun yy11 =>
 .call 126 [] [yy8.getD 0 D.nil, yy11.getD 0 D.nil] fun yy12 =>
 .ret [D.int ((yy12.getD 0 D.nil).toInt)]))
 (.call 113 [] [a0] fun yy13 =>
 .call 116 [] [b1] fun yy14 =>
 .call 115 [] [yy13.getD 0 D.nil, yy14.getD 0 D.nil] fun yy15 =>
 .call 113 [] [b1] fun yy16 =>
 .call 116 [] [a0] fun yy17 =>
 .call 115 [] [yy16.getD 0 D.nil, yy17.getD 0 D.nil] fun yy18 =>
 .call 126 [] [yy15.getD 0 D.nil, yy18.getD 0 D.nil] fun yy19 =>
 .ret [D.int ((yy19.getD 0 D.nil).toInt)]) := by kernel_rfl

/-! scrim/ratio.Mod -/
def ratio_Mod_orc : List (Nat × Orc) := []
theorem ratio_Mod_tree (n : Nat) (a0 : D) (b1 : D) : evFun Tryz.prog md ratio_Mod_orc n 75 [] [a0, b1] =
 .call 59 [] [a0] fun yy1 =>
 .br (((yy1.getD 0 D.nil).toInt) == 0) (.call 109 [] [D.bool ((b1.fld 0).toBool), b1] fun yy2 =>
 .ret [yy2.getD 0 D.nil, D.int 0])
 (.call 60 [] [b1, a0] fun yy3 =>
 .br (((yy3.getD 1 D.nil).toInt) != 0) (.ret [D.agg [D.bool false, D.sl [], D.sl []], D.int ((yy3.getD 1 D.nil).toInt)])
 (.call 62 [] [yy3.getD 0 D.nil] fun yy4 =>
 .call 73 [] [a0, yy4.getD 0 D.nil] fun yy5 =>
 .br (((yy5.getD 1 D.nil).toInt) != 0) (.ret [D.agg [D.bool false, D.sl [], D.sl []], D.int ((yy5.getD 1 D.nil).toInt)])
 (.call 72 [] [b1, yy5.getD 0 D.nil] fun yy6 =>
 .ret [yy6.getD 0 D.nil, D.int ((yy6.getD 1 D.nil).toInt)]))) := by kernel_rfl

/-! scrim/ratio.Pow -/
def ratio_Pow_orc : List (Nat × Orc) := []
theorem ratio_Pow_tree (n : Nat) (a0 : D) (n1 : D) : evFun Tryz.prog md ratio_Pow_orc n 76 [] [a0, n1] =
 .call 113 [] [a0] fun yy1 =>
 .call 116 [] [a0] fun yy2 =>
 .br (decide (n1.toInt < 0)) (.call 112 [] [yy1.getD 0 D.nil] fun yy3 =>
 .br (((yy3.getD 0 D.nil).toInt) == 0) (.ret [D.agg [D.bool false, D.sl [], D.sl []], D.int 3])
 (.br (n1.toInt == (-9223372036854775808)) (.ret [D.agg [D.bool false, D.sl [], D.sl []], D.int 3])
 (.call 127 [] [yy2.getD 0 D.nil, D.int (IntKind.wrap .i64 (0 - n1.toInt))] fun yy4 =>
 .br (((yy4.getD 1 D.nil).toInt) != 0) (.ret [D.agg [D.bool false, D.sl [], D.sl []], D.int ((yy4.getD 1 D.nil).toInt)])
 (.call 127 [] [yy1.getD 0 D.nil, D.int (IntKind.wrap .i64 (0 - n1.toInt))] fun yy5 =>
 .br (((yy5.getD 1 D.nil).toInt) != 0) (.ret [D.agg [D.bool false, D.sl [], D.sl []], D.int ((yy5.getD 1 D.nil).toInt)])
 (.call 114 [] [yy4.getD 0 D.nil, yy5.getD 0 D.nil] fun yy6 =>
 .ret [yy6.getD 0 D.nil, D.int ((yy6.getD 1 D.nil).toInt)])))))
 (.call 127 [] [yy1.getD 0 D.nil, D.int n1.toInt] fun yy7 =>
 .br (((yy7.getD 1 D.nil).toInt) != 0) (.ret [D.agg [D.bool false, D.sl [], D.sl []], D.int ((yy7.getD 1 D.nil).toInt)])
 (.call 127 [] [yy2.getD 0 D.nil, D.int n1.toInt] fun yy8 =>
 .br (((yy8.getD 1 D.nil).toInt) != 0) (.ret [D.agg [D.bool false, D.sl [], D.sl []], D.int ((yy8.getD 1 D.nil).toInt)])
 (.call 114 [] [yy7.getD 0 D.nil, yy8.getD 0 D.nil] fun yy9 =>
 .ret [yy9.getD 0 D.nil, D.int ((yy9.getD 1 D.nil).toInt)]))) := by kernel_rfl

/-! scrim/ratio.Lcm -/
def ratio_Lcm_orc : List (Nat × Orc) := []
theorem ratio_Lcm_tree (n : Nat) (a0 : D) (b1 : D) : evFun Tryz.prog md ratio_Lcm_orc n 77 [] [a0, b1] =
 .call 78 [] [a0, b1] fun yy1 =>
 .br (((yy1.getD 1 D.nil).toInt) != 0) (.ret [D.agg [D.bool false, D.sl [], D.sl []], D.int ((yy1.getD 1 D.nil).toInt)])
 (.call 59 [] [yy1.getD 0 D.nil] fun yy2 =>
 .br (((yy2.getD 0 D.nil).toInt) == 0) (.call 58 [] [D.int 0] fun yy3 =>
 .ret [yy3.getD 0 D.nil, D.int 0])
 (.call 60 [] [a0, yy1.getD 0 D.nil] fun yy4 =>
 .br (((yy4.getD 1 D.nil).toInt) != 0) (.ret [D.agg [D.bool false, D.sl [], D.sl []], D.int ((yy4.getD 1 D.nil).toInt)])
 (.call 73 [] [yy4.getD 0 D.nil, b1] fun yy5 =>
 .ret [yy5.getD 0 D.nil, D.int ((yy5.getD 1 D.nil).toInt)]))) := by kernel_rfl

/-! scrim/ratio.Gcd -/
def ratio_Gcd_orc : List (Nat × Orc) := []
theorem ratio_Gcd_tree (n : Nat) (a0 : D) (b1 : D) : evFun Tryz.prog md ratio_Gcd_orc n 78 [] [a0, b1] =
 .call 118 [] [a0.fld 2] fun yy1 =>
 .br (!((yy1.getD 0 D.nil).toBool)) (.ret [D.agg [D.bool false, D.sl [], D.sl []], D.int 3])
 (.call 118 [] [b1.fld 2] fun yy2 =>
 .br (!((yy2.getD 0 D.nil).toBool)) (.ret [D.agg [D.bool false, D.sl [], D.sl []], D.int 3])
 (.call 128 [] [a0.fld 1, b1.fld 1] fun yy3 =>
 .call 110 [] [D.agg [D.bool false, yy3.getD 0 D.nil]] fun yy4 =>
 .ret [yy4.getD 0 D.nil, D.int 0])) := by kernel_rfl

/-! scrim/scrimref04.Add -/
def ref04_Add_orc : List (Nat × Orc) := []
theorem ref04_Add_tree (n : Nat) (a0 : D) (b1 : D) : evFun Tryz.prog md ref04_Add_orc n 80 [] [a0, b1] =
 .call 53 [] [a0] fun yy1 =>
 .call 55 [] [b1] fun yy2 =>
 .call 123 [] [yy1.getD 0 D.nil, yy2.getD 0 D.nil] fun yy3 =>
 .call 53 [] [b1] fun yy4 =>
 .call 55 [] [a0] fun yy5 =>
 .call 123 [] [yy4.getD 0 D.nil, yy5.getD 0 D.nil] fun yy6 =>
 .call 129 [] [yy3.getD 0 D.nil, yy6.getD 0 D.nil] fun yy7 =>
 .call 55 [] [a0] fun yy8 =>
 .call 55 [] [b1] fun yy9 =>
 .call 123 [] [yy8.getD 0 D.nil, yy9.getD 0 D.nil] fun yy10 =>
 .call 54 [] [yy7.getD 0 D.nil, yy10.getD 0 D.nil] fun yy11 =>
 .ret [yy11.getD 0 D.nil, D.int ((yy11.getD 1 D.nil).toInt)] := by kernel_rfl

/-! scrim/scrimref04.Sub -/
def ref04_Sub_orc : List (Nat × Orc) := []
theorem ref04_Sub_tree (n : Nat) (a0 : D) (b1 : D) : evFun Tryz.prog md ref04_Sub_orc n 81 [] [a0, b1] =
 .call 66 [] [b1] fun yy1 =>
 .call 80 [] [a0, yy1.getD 0 D.nil] fun yy2 =>
 .ret [yy2.getD 0 D.nil, D.int ((yy2.getD 1 D.nil).toInt)] := by kernel_rfl

/-! scrim/scrimref04.Mul -/
def ref04_Mul_orc : List (Nat × Orc) := []
theorem ref04_Mul_tree (n : Nat) (a0 : D) (b1 : D) : evFun Tryz.prog md ref04_Mul_orc n 82 [] [a0, b1] =
 .call 53 [] [a0] fun yy1 =>
 .call 53 [] [b1] fun yy2 =>
 .call 123 [] [yy1.getD 0 D.nil, yy2.getD 0 D.nil] fun yy3 =>
 .call 55 [] [a0] fun yy4 =>
 .call 55 [] [b1] fun yy5 =>
 .call 123 [] [yy4.getD 0 D.nil, yy5.getD 0 D.nil] fun yy6 =>
 .call 54 [] [yy3.getD 0 D.nil, yy6.getD 0 D.nil] fun yy7 =>
 .ret [yy7.getD 0 D.nil, D.int ((yy7.getD 1 D.nil).toInt)] := by kernel_rfl

/-! scrim/scrimref04.Mod -/
def ref04_Mod_orc : List (Nat × Orc) := []
theorem ref04_Mod_tree (n : Nat) (a0 : D) (b1 : D) : evFun Tryz.prog md ref04_Mod_orc n 83 [] [a0, b1] =
 .br ((((a0.fld 1).els).length : Int) == 0) (.ret [b1, D.int 0])
 (.call 68 [] [b1, a0] fun yy1 =>
 .br (((yy1.getD 1 D.nil).toInt) != 0) (.ret [D.agg [D.bool false, D.sl [], D.sl []], D.int ((yy1.getD 1 D.nil).toInt)])
 (.call 69 [] [yy1.getD 0 D.nil] fun yy2 =>
 .call 82 [] [a0, yy2.getD 0 D.nil] fun yy3 =>
 .br (((yy3.getD 1 D.nil).toInt) != 0) (.ret [D.agg [D.bool false, D.sl [], D.sl []], D.int ((yy3.getD 1 D.nil).toInt)])
 (.call 81 [] [b1, yy3.getD 0 D.nil] fun yy4 =>
 .ret [yy4.getD 0 D.nil, D.int ((yy4.getD 1 D.nil).toInt)]))) := by kernel_rfl

/-! scrim/scrimref04.Pow -/
def ref04_Pow_orc : List (Nat × Orc) := []
theorem ref04_Pow_tree (n : Nat) (a0 : D) (n1 : D) : evFun Tryz.prog md ref04_Pow_orc n 84 [] [a0, n1] =
 .call 53 [] [a0] fun yy1 =>
 .call 55 [] [a0] fun yy2 =>
 .br (decide (n1.toInt < 0)) (.br ((((a0.fld 1).els).length : Int) == 0) (.ret [D.agg [D.bool false, D.sl [], D.sl []], D.int 3])
 (.br (decide (n1.toInt < (-9223372036854775807))) (.ret [D.agg [D.bool false, D.sl [], D.sl []], D.int 3])
 (.call 55 [] [a0] fun yy3 =>
 .call 53 [] [a0] fun yy4 =>
 .call 130 [] [yy3.getD 0 D.nil, D.int (IntKind.wrap .i64 (0 - n1.toInt))] fun yy5 =>
 .br (((yy5.getD 1 D.nil).toInt) != 0) (.ret [D.agg [D.bool false, D.sl [], D.sl []], D.int ((yy5.getD 1 D.nil).toInt)])
 (.call 130 [] [yy4.getD 0 D.nil, D.int (IntKind.wrap .i64 (0 - n1.toInt))] fun yy6 =>
 .br (((yy6.getD 1 D.nil).toInt) != 0) (.ret [D.agg [D.bool false, D.sl [], D.sl []], D.int ((yy6.getD 1 D.nil).toInt)])
 (.call 54 [] [yy5.getD 0 D.nil, yy6.getD 0 D.nil] fun yy7 =>
 .ret [yy7.getD 0 D.nil, D.int ((yy7.getD 1 D.nil).toInt)])))))
 (.call 130 [] [yy1.getD 0 D.nil, D.int n1.toInt] fun yy8 =>
 .br (((yy8.getD 1 D.nil).toInt) != 0) (.ret [D.agg [D.bool false, D.sl [], D.sl []], D.int ((yy8.getD 1 D.nil).toInt)])
 (.call 130 [] [yy2.getD 0 D.nil, D.int n1.toInt] fun yy9 =>
 .br (((yy9.getD 1 D.nil).toInt) != 0) (.ret [D.agg [D.bool false, D.sl [], D.sl []], D.int ((yy9.getD 1 D.nil).toInt)])
 (.call 54 [] [yy8.getD 0 D.nil, yy9.getD 0 D.nil] fun yy10 =>
 .ret [yy10.getD 0 D.nil, D.int ((yy10.getD 1 D.nil).toInt)]))) := by kernel_rfl

/-! scrim/scrimref04.Lcm -/
def ref04_Lcm_orc : List (Nat × Orc) := []
theorem ref04_Lcm_tree (n : Nat) (a0 : D) (b1 : D) : evFun Tryz.prog md ref04_Lcm_orc n 86 [] [a0, b1] =
 .call 87 [] [a0, b1] fun yy1 =>
 .br (((yy1.getD 1 D.nil).toInt) != 0) (.ret [D.agg [D.bool false, D.sl [], D.sl []], D.int ((yy1.getD 1 D.nil).toInt)])
 (.br (((((yy1.getD 0 D.nil).fld 1).els).length : Int) == 0) (.ret [yy1.getD 0 D.nil, D.int 0])
 (.call 68 [] [a0, yy1.getD 0 D.nil] fun yy2 =>
 .br (((yy2.getD 1 D.nil).toInt) != 0) (.ret [D.agg [D.bool false, D.sl [], D.sl []], D.int ((yy2.getD 1 D.nil).toInt)])
 (.call 82 [] [yy2.getD 0 D.nil, b1] fun yy3 =>
 .ret [yy3.getD 0 D.nil, D.int ((yy3.getD 1 D.nil).toInt)]))) := by kernel_rfl

/-! scrim/scrimref04.Gcd -/
def ref04_Gcd_orc : List (Nat × Orc) := []
theorem ref04_Gcd_tree (n : Nat) (a0 : D) (b1 : D) : evFun Tryz.prog md ref04_Gcd_orc n 87 [] [a0, b1] =
 .call 51 [] [a0] fun yy1 =>
 .br (!((yy1.getD 0 D.nil).toBool)) (.ret [D.agg [D.bool false, D.sl [], D.sl []], D.int 3])
 (.call 51 [] [b1] fun yy2 =>
 .br (!((yy2.getD 0 D.nil).toBool)) (.ret [D.agg [D.bool false, D.sl [], D.sl []], D.int 3])
 (.call 107 [] [a0.fld 1, b1.fld 1] fun yy3 =>
 .call 94 [] [D.agg [D.bool false, yy3.getD 0 D.nil]] fun yy4 =>
 .ret [yy4.getD 0 D.nil, D.int 0])) := by kernel_rfl

/-! scrim/scrimref04.Whole -/
def ref04_Whole_orc : List (Nat × Orc) := []
theorem ref04_Whole_tree (n : Nat) (n0 : D) : evFun Tryz.prog md ref04_Whole_orc n 94 [] [n0] =
 .call 105 [] [n0] fun yy1 =>
 .ret [D.agg [D.bool (((yy1.getD 0 D.nil).fld 0).toBool), (yy1.getD 0 D.nil).fld 1, D.sl [D.int 1]]] := by kernel_rfl

/-! scrim/ratio.copied -/
def ratio_copied_orc : List (Nat × Orc) := []
theorem ratio_copied_tree (n : Nat) (neg0 : D) (a1 : D) : evFun Tryz.prog md ratio_copied_orc n 109 [] [neg0, a1] =
 .call 139 [] [a1.fld 1] fun yy1 =>
 .call 139 [] [a1.fld 2] fun yy2 =>
 .br neg0.toBool (.ret [D.agg [D.bool (decide (0 < (((yy1.getD 0 D.nil).els).length : Int))), D.sl ((yy1.getD 0 D.nil).els), D.sl ((yy2.getD 0 D.nil).els)]])
 (.ret [D.agg [D.bool false, D.sl ((yy1.getD 0 D.nil).els), D.sl ((yy2.getD 0 D.nil).els)]]) := by kernel_rfl

/-! scrim/ratio.Whole -/
def ratio_Whole_orc : List (Nat × Orc) := []
theorem ratio_Whole_tree (n : Nat) (n0 : D) : evFun Tryz.prog md ratio_Whole_orc n 110 [] [n0] =
 .call 140 [] [n0] fun yy1 =>
 .br (decide (32 < ((((yy1.getD 0 D.nil).fld 1).els).length : Int))) (.ret [D.agg [D.bool false, D.sl [], D.sl []]])
 (.ret [D.agg [D.bool (((yy1.getD 0 D.nil).fld 0).toBool), (yy1.getD 0 D.nil).fld 1, D.sl [D.int 1]]]) := by kernel_rfl

/-! scrim/ratio.top -/
def ratio_top_orc : List (Nat × Orc) := []
theorem ratio_top_tree (n : Nat) (a0 : D) : evFun Tryz.prog md ratio_top_orc n 113 [] [a0] =
 .ret [D.agg [D.bool ((a0.fld 0).toBool), a0.fld 1]] := by kernel_rfl

/-! scrim/ratio.Make -/
def ratio_Make_orc : List (Nat × Orc) := []
theorem ratio_Make_tree (n : Nat) (p0 : D) (q1 : D) : evFun Tryz.prog md ratio_Make_orc n 114 [] [p0, q1] =
 .call 139 [] [p0.fld 1] fun yy1 =>
 .call 139 [] [q1.fld 1] fun yy2 =>
 .br ((((yy2.getD 0 D.nil).els).length : Int) == 0) (.ret [D.agg [D.bool false, D.sl [], D.sl []], D.int 3])
 (.call 118 [] [D.sl ((yy2.getD 0 D.nil).els)] fun yy3 =>
 .br (!((yy3.getD 0 D.nil).toBool)) (.call 128 [] [D.sl ((yy1.getD 0 D.nil).els), D.sl ((yy2.getD 0 D.nil).els)] fun yy4 =>
 .call 118 [] [yy4.getD 0 D.nil] fun yy5 =>
 .br (!((yy5.getD 0 D.nil).toBool)) (.call 143 [] [D.sl ((yy1.getD 0 D.nil).els), yy4.getD 0 D.nil] fun yy6 =>
 .call 143 [] [D.sl ((yy2.getD 0 D.nil).els), yy4.getD 0 D.nil] fun yy7 =>
 .br (decide (32 < (((yy6.getD 0 D.nil).els).length : Int))) (.ret [D.agg [D.bool false, D.sl [], D.sl []], D.int 7])
 (.br (decide (32 < (((yy7.getD 0 D.nil).els).length : Int))) (.ret [D.agg [D.bool false, D.sl [], D.sl []], D.int 7])
 (.br (decide (0 < (((yy6.getD 0 D.nil).els).length : Int))) (.ret [D.agg [D.bool (!(((p0.fld 0).toBool) == ((q1.fld 0).toBool))), yy6.getD 0 D.nil, yy7.getD 0 D.nil], D.int 0])
 (.ret [D.agg [D.bool false, yy6.getD 0 D.nil, yy7.getD 0 D.nil], D.int 0]))))
 (.br (decide (32 < (((yy1.getD 0 D.nil).els).length : Int))) (.ret [D.agg [D.bool false, D.sl [], D.sl []], D.int 7])
 (.br (decide (32 < (((yy2.getD 0 D.nil).els).length : Int))) (.ret [D.agg [D.bool false, D.sl [], D.sl []], D.int 7])
 (.br (decide (0 < (((yy1.getD 0 D.nil).els).length : Int))) (.ret [D.agg [D.bool (!(((p0.fld 0).toBool) == ((q1.fld 0).toBool))), D.sl ((yy1.getD 0 D.nil).els), D.sl ((yy2.getD 0 D.nil).els)], D.int 0])
 (.ret [D.agg [D.bool false, D.sl ((yy1.getD 0 D.nil).els), D.sl ((yy2.getD 0 D.nil).els)], D.int 0])))))
 (.br (decide (32 < (((yy1.getD 0 D.nil).els).length : Int))) (.ret [D.agg [D.bool false, D.sl [], D.sl []], D.int 7])
 (.br (decide (32 < (((yy2.getD 0 D.nil).els).length : Int))) (.ret [D.agg [D.bool false, D.sl [], D.sl []], D.int 7])
 (.br (decide (0 < (((yy1.getD 0 D.nil).els).length : Int))) (.ret [D.agg [D.bool (!(((p0.fld 0).toBool) == ((q1.fld 0).toBool))), D.sl ((yy1.getD 0 D.nil).els), D.sl ((yy2.getD 0 D.nil).els)], D.int 0])
 (.ret [D.agg [D.bool false, D.sl ((yy1.getD 0 D.nil).els), D.sl ((yy2.getD 0 D.nil).els)], D.int 0]))))) := by kernel_rfl

/-! scrim/ratio.bot -/
def ratio_bot_orc : List (Nat × Orc) := []
theorem ratio_bot_tree (n : Nat) (a0 : D) : evFun Tryz.prog md ratio_bot_orc n 116 [] [a0] =
 .ret [D.agg [D.bool false, a0.fld 2]] := by kernel_rfl

/-! scrim/ratio.isOne -/
def ratio_isOne_orc : List (Nat × Orc) := []
theorem ratio_isOne_tree (n : Nat) (a0 : D) : evFun Tryz.prog md ratio_isOne_orc n 118 [] [a0] =
 .br ((a0.els.length : Int) == 1) (.br (decide (0 ≤ 0)) (.br (decide (0 < (a0.els.length : Int))) (.ret [D.bool (((a0.els.getD (Int.toNat 0) D.nil).toInt) == 1)]) .fail) .fail)
 (.ret [D.bool false]) := by kernel_rfl

/-! scrim/ratio.Int -/
def ratio_Int_orc : List (Nat × Orc) := []
theorem ratio_Int_tree (n : Nat) (a0 : D) : evFun Tryz.prog md ratio_Int_orc n 120 [] [a0] =
 .call 118 [] [a0.fld 2] fun yy1 =>
 .br (!((yy1.getD 0 D.nil).toBool)) (.ret [D.agg [D.bool false, D.sl []], D.bool false])
 (.call 113 [] [a0] fun yy2 =>
 .call 140 [] [yy2.getD 0 D.nil] fun yy3 =>
 .ret [yy3.getD 0 D.nil, D.bool true]) := by kernel_rfl

end Go.Proofs.YtjmddikeadbmjaaGreat
set_option maxRecDepth 100000
namespace Go.Proofs.YtjmddikeadbmjaaGreat
/-! scrim/scrimref07.Ints -/
def ref07_Ints_orc : List (Nat × Orc) := [(4, ⟨[(0, some 23), (1, some 23), (5, none)], [], []⟩)]
def ref07_Ints_ps : List Nat := [23, 23]
def ref07_Ints_rs : List ResultVar := [.tmp 4]
def ref07_Ints_ts : List Nat := [4]
noncomputable def ref07_Ints_l4 (n m4 : Nat) (a0 : D) (b1 : D) (i5 : Int) : Tree :=
  evLoop Tryz.prog md (ev Tryz.prog md n ref07_Ints_orc (cAt (bodyOf Tryz.prog 17) [1, 1, 0, 1, 0, 0])) (orcAt ref07_Ints_orc 4) m4 ⟨[.d 23 a0, .d 23 b1, .undef, .undef, .undef, .i .i64 i5, .undef, .undef, .undef, .undef, .undef, .undef, .undef, .undef, .undef, .undef, .undef, .undef, .undef, .undef, .undef, .undef, .undef, .undef, .undef, .undef], [], [], [], []⟩
   (blockK 0 (seqK (joinE Tryz.prog md (joinAt ref07_Ints_orc (cAt (bodyOf Tryz.prog 17) [1, 1, 1])) (ev Tryz.prog md n ref07_Ints_orc (cAt (bodyOf Tryz.prog 17) [1, 1, 1]))) (retK Tryz.prog md (md 17) ref07_Ints_ps ref07_Ints_rs ref07_Ints_ts)))
theorem ref07_Ints_l4_succ (n m4 : Nat) (a0 : D) (b1 : D) (i5 : Int) : ref07_Ints_l4 n (m4 + 1) a0 b1 i5 =
 .br (decide (i5 < (a0.els.length : Int))) (.br (decide (0 ≤ i5)) (.br (decide (i5 < (a0.els.length : Int))) (.br (decide (0 ≤ i5)) (.br (decide (i5 < (b1.els.length : Int))) (.br (((a0.els.getD (Int.toNat i5) D.nil).toInt) != ((b1.els.getD (Int.toNat i5) D.nil).toInt)) (.ret [D.bool false])
 (ref07_Ints_l4 n m4 a0 b1 (IntKind.wrap .i64 (i5 + 1)))) .fail) .fail) .fail) .fail)
 (.ret [D.bool true]) := by kernel_rfl
theorem ref07_Ints_tree (n : Nat) (a0 : D) (b1 : D) : evFun Tryz.prog md ref07_Ints_orc n 17 [] [a0, b1] =
 .br ((a0.els.length : Int) != (b1.els.length : Int)) (.ret [D.bool false])
 (ref07_Ints_l4 n n a0 b1 0) := by kernel_rfl

/-! scrim/scrimref07.Count -/
def ref07_Count_orc : List (Nat × Orc) := [(5, ⟨[(0, some 23), (4, none), (5, none), (6, none)], [], []⟩), (17, ⟨[(0, some 23), (7, none), (8, none)], [], []⟩)]
def ref07_Count_ps : List Nat := [23]
def ref07_Count_rs : List ResultVar := [.tmp 2, .tmp 3]
def ref07_Count_ts : List Nat := [3, 3]
noncomputable def ref07_Count_l17 (n m17 : Nat) (s0 : D) (n7 : Int) (i8 : Int) : Tree :=
  evLoop Tryz.prog md (ev Tryz.prog md n ref07_Count_orc (cAt (bodyOf Tryz.prog 43) [1, 1, 1, 1, 1, 1, 1, 0, 1, 0, 0])) (orcAt ref07_Count_orc 17) m17 ⟨[.d 23 s0, .undef, .undef, .undef, .undef, .undef, .undef, .i .i64 n7, .i .i64 i8, .undef, .undef, .undef, .undef, .undef, .undef, .undef, .undef, .undef, .undef, .undef, .undef, .undef, .undef, .undef, .undef, .undef, .undef, .undef, .undef, .undef, .undef, .undef, .undef, .undef, .undef, .undef, .undef, .undef, .undef, .undef, .undef, .undef, .undef, .undef, .undef, .undef, .undef, .undef, .undef, .undef, .undef, .undef, .undef, .undef, .undef, .undef], [], [], [], []⟩
   (blockK 2 (seqK (joinE Tryz.prog md (joinAt ref07_Count_orc (cAt (bodyOf Tryz.prog 43) [1, 1, 1, 1, 1, 1, 1, 1])) (ev Tryz.prog md n ref07_Count_orc (cAt (bodyOf Tryz.prog 43) [1, 1, 1, 1, 1, 1, 1, 1]))) (retK Tryz.prog md (md 43) ref07_Count_ps ref07_Count_rs ref07_Count_ts)))
noncomputable def ref07_Count_l5 (n m5 : Nat) (s0 : D) (big4 : Bool) (none5 : Bool) (i6 : Int) : Tree :=
  evLoop Tryz.prog md (ev Tryz.prog md n ref07_Count_orc (cAt (bodyOf Tryz.prog 43) [1, 1, 1, 0, 1, 0, 0])) (orcAt ref07_Count_orc 5) m5 ⟨[.d 23 s0, .undef, .undef, .undef, .b big4, .b none5, .i .i64 i6, .undef, .undef, .undef, .undef, .undef, .undef, .undef, .undef, .undef, .undef, .undef, .undef, .undef, .undef, .undef, .undef, .undef, .undef, .undef, .undef, .undef, .undef, .undef, .undef, .undef, .undef, .undef, .undef, .undef, .undef, .undef, .undef, .undef, .undef, .undef, .undef, .undef, .undef, .undef, .undef, .undef, .undef, .undef, .undef, .undef, .undef, .undef, .undef, .undef], [], [], [], []⟩
   (blockK 0 (seqK (joinE Tryz.prog md (joinAt ref07_Count_orc (cAt (bodyOf Tryz.prog 43) [1, 1, 1, 1])) (ev Tryz.prog md n ref07_Count_orc (cAt (bodyOf Tryz.prog 43) [1, 1, 1, 1]))) (retK Tryz.prog md (md 43) ref07_Count_ps ref07_Count_rs ref07_Count_ts)))
theorem ref07_Count_l17_succ (n m17 : Nat) (s0 : D) (n7 : Int) (i8 : Int) : ref07_Count_l17 n (m17 + 1) s0 n7 i8 =
 .br (decide (i8 < (s0.els.length : Int))) (.br (decide (0 ≤ i8)) (.br (decide (i8 < (s0.els.length : Int))) (.br (decide (2048 < (IntKind.wrap .i64 (n7 * ((s0.els.getD (Int.toNat i8) D.nil).toInt))))) (.ret [D.int 0, D.int 7])
 (ref07_Count_l17 n m17 s0 (IntKind.wrap .i64 (n7 * ((s0.els.getD (Int.toNat i8) D.nil).toInt))) (IntKind.wrap .i64 (i8 + 1)))) .fail) .fail)
 (.ret [D.int n7, D.int 0]) := by kernel_rfl
theorem ref07_Count_l5_succ (n m5 : Nat) (s0 : D) (big4 : Bool) (none5 : Bool) (i6 : Int) : ref07_Count_l5 n (m5 + 1) s0 big4 none5 i6 =
 .br (decide (i6 < (s0.els.length : Int))) (.br (decide (0 ≤ i6)) (.br (decide (i6 < (s0.els.length : Int))) (.br (decide (((s0.els.getD (Int.toNat i6) D.nil).toInt) < 0)) (.ret [D.int 0, D.int 3])
 (.br big4 (.br none5 (ref07_Count_l5 n m5 s0 true true (IntKind.wrap .i64 (i6 + 1)))
 (.br (decide (0 ≤ i6)) (.br (decide (i6 < (s0.els.length : Int))) (ref07_Count_l5 n m5 s0 true (((s0.els.getD (Int.toNat i6) D.nil).toInt) == 0) (IntKind.wrap .i64 (i6 + 1))) .fail) .fail))
 (.br (decide (0 ≤ i6)) (.br (decide (i6 < (s0.els.length : Int))) (.br none5 (ref07_Count_l5 n m5 s0 (decide (2048 < ((s0.els.getD (Int.toNat i6) D.nil).toInt))) true (IntKind.wrap .i64 (i6 + 1)))
 (.br (decide (0 ≤ i6)) (.br (decide (i6 < (s0.els.length : Int))) (ref07_Count_l5 n m5 s0 (decide (2048 < ((s0.els.getD (Int.toNat i6) D.nil).toInt))) (((s0.els.getD (Int.toNat i6) D.nil).toInt) == 0) (IntKind.wrap .i64 (i6 + 1))) .fail) .fail)) .fail) .fail))) .fail) .fail)
 (.br big4 (.ret [D.int 0, D.int 7])
 (.br none5 (.ret [D.int 0, D.int 0])
 (ref07_Count_l17 n n s0 1 0))) := by kernel_rfl
theorem ref07_Count_tree (n : Nat) (s0 : D) : evFun Tryz.prog md ref07_Count_orc n 43 [] [s0] =
 .br (decide (6 < (s0.els.length : Int))) (.ret [D.int 0, D.int 7])
 (ref07_Count_l5 n n s0 false false 0) := by kernel_rfl

/-! slices.Clone[[]int,int] -/
def slices_Clone_int_int_orc : List (Nat × Orc) := []
theorem slices_Clone_int_int_tree (n : Nat) (s0 : D) : evFun Tryz.prog md slices_Clone_int_int_orc n 47 [] [s0] =
 .amb s0.els.isEmpty (.ret [D.sl []])
 (.br (decide (([] : List D).length + s0.els.length ≤ bigN)) (.ret [D.sl ([] ++ s0.els)]) .fail) := by kernel_rfl

/-! slices.Equal[[]int,int] -/
def slices_Equal_int_int_orc : List (Nat × Orc) := [(4, ⟨[(0, some 23), (1, some 23), (12, none), (13, none)], [], []⟩)]
def slices_Equal_int_int_ps : List Nat := [23, 23]
def slices_Equal_int_int_rs : List ResultVar := [.tmp 4]
def slices_Equal_int_int_ts : List Nat := [4]
noncomputable def slices_Equal_int_int_l4 (n m4 : Nat) (s10 : D) (s21 : D) (t12 : Int) (t13 : Int) : Tree :=
  evLoop Tryz.prog md (ev Tryz.prog md n slices_Equal_int_int_orc (cAt (bodyOf Tryz.prog 48) [1, 1, 0, 1, 0, 0])) (orcAt slices_Equal_int_int_orc 4) m4 ⟨[.d 23 s10, .d 23 s21, .undef, .undef, .undef, .undef, .undef, .undef, .undef, .undef, .undef, .undef, .i .i64 t12, .i .i64 t13, .undef, .undef, .undef, .undef, .undef, .undef, .undef, .undef, .undef, .undef, .undef, .undef], [], [], [], []⟩
   (blockK 0 (seqK (joinE Tryz.prog md (joinAt slices_Equal_int_int_orc (cAt (bodyOf Tryz.prog 48) [1, 1, 1])) (ev Tryz.prog md n slices_Equal_int_int_orc (cAt (bodyOf Tryz.prog 48) [1, 1, 1]))) (retK Tryz.prog md (md 48) slices_Equal_int_int_ps slices_Equal_int_int_rs slices_Equal_int_int_ts)))
theorem slices_Equal_int_int_l4_succ (n m4 : Nat) (s10 : D) (s21 : D) (t12 : Int) (t13 : Int) : slices_Equal_int_int_l4 n (m4 + 1) s10 s21 t12 t13 =
 .br (decide (t13 < t12)) (.br (decide (0 ≤ t13)) (.br (decide (t13 < (s10.els.length : Int))) (.br (decide (0 ≤ t13)) (.br (decide (t13 < (s21.els.length : Int))) (.br (((s10.els.getD (Int.toNat t13) D.nil).toInt) != ((s21.els.getD (Int.toNat t13) D.nil).toInt)) (.ret [D.bool false])
 (slices_Equal_int_int_l4 n m4 s10 s21 t12 (IntKind.wrap .i64 (t13 + 1)))) .fail) .fail) .fail) .fail)
 (.ret [D.bool true]) := by kernel_rfl
theorem slices_Equal_int_int_tree (n : Nat) (s10 : D) (s21 : D) : evFun Tryz.prog md slices_Equal_int_int_orc n 48 [] [s10, s21] =
 .br ((s10.els.length : Int) != (s21.els.length : Int)) (.ret [D.bool false])
 (slices_Equal_int_int_l4 n n s10 s21 (s10.els.length : Int) 0) := by kernel_rfl

/-! slices.Clone[[]uint32,uint32] -/
def slices_Clone_uint32_uint32_orc : List (Nat × Orc) := []
theorem slices_Clone_uint32_uint32_tree (n : Nat) (s0 : D) : evFun Tryz.prog md slices_Clone_uint32_uint32_orc n 132 [] [s0] =
 .amb s0.els.isEmpty (.ret [D.sl []])
 (.br (decide (([] : List D).length + s0.els.length ≤ bigN)) (.ret [D.sl ([] ++ s0.els)]) .fail) := by kernel_rfl

/-! slices.Clone[[]scrim/api.Array,scrim/api.Array] -/
def slices_Clone_api_Array_api_Array_orc : List (Nat × Orc) := []
theorem slices_Clone_api_Array_api_Array_tree (n : Nat) (s0 : D) : evFun Tryz.prog md slices_Clone_api_Array_api_Array_orc n 133 [] [s0] =
 .amb s0.els.isEmpty (.ret [D.sl []])
 (.br (decide (([] : List D).length + s0.els.length ≤ bigN)) (.ret [D.sl ([] ++ s0.els)]) .fail) := by kernel_rfl

end Go.Proofs.YtjmddikeadbmjaaGreat
set_option maxRecDepth 100000
namespace Go.Proofs.YtjmddikeadbmjaaGreat
/-! scrim/scrimref03.Small -/
def ref03_Small_orc : List (Nat × Orc) := [(6, ⟨[(4, none), (5, none), (6, none)], [(4, true)], []⟩)]
def ref03_Small_ps : List Nat := [84]
def ref03_Small_rs : List ResultVar := [.tmp 2, .tmp 3]
def ref03_Small_ts : List Nat := [3, 4]
noncomputable def ref03_Small_l6 (n m6 : Nat) (n5 : Int) (i6 : Int) (x4 : D) : Tree :=
  evLoop Tryz.prog md (ev Tryz.prog md n ref03_Small_orc (cAt (bodyOf Tryz.prog 52) [1, 1, 1, 1, 0, 1, 0, 0])) (orcAt ref03_Small_orc 6) m6 ⟨[.undef, .undef, .undef, .undef, .ptr 4 [], .i .i64 n5, .i .i64 i6, .undef, .undef, .undef, .undef, .undef, .undef, .undef, .undef, .undef, .undef, .undef, .undef, .undef, .undef, .undef, .undef, .undef, .undef, .undef, .undef, .undef, .undef, .undef, .undef, .undef, .undef, .undef, .undef, .undef, .undef, .undef, .undef, .undef, .undef, .undef, .undef, .undef, .undef, .undef, .undef, .undef, .undef, .undef, .undef, .undef, .undef, .undef], [(4, .var 84 (.d 84 x4) true)], [4], [], []⟩
   (blockK 0 (seqK (joinE Tryz.prog md (joinAt ref03_Small_orc (cAt (bodyOf Tryz.prog 52) [1, 1, 1, 1, 1])) (ev Tryz.prog md n ref03_Small_orc (cAt (bodyOf Tryz.prog 52) [1, 1, 1, 1, 1]))) (retK Tryz.prog md (md 52) ref03_Small_ps ref03_Small_rs ref03_Small_ts)))
theorem ref03_Small_l6_succ (n m6 : Nat) (n5 : Int) (i6 : Int) (x4 : D) : ref03_Small_l6 n (m6 + 1) n5 i6 x4 =
 .br (decide (0 ≤ i6)) (.br ((x4.fld 0).toBool) (.br (decide (0 ≤ i6)) (.br (decide (i6 < (((x4.fld 1).els).length : Int))) (ref03_Small_l6 n m6 (IntKind.wrap .i64 ((IntKind.wrap .i64 (n5 * 4294967296)) - (IntKind.wrap .i64 ((((x4.fld 1).els).getD (Int.toNat i6) D.nil).toInt)))) (IntKind.wrap .i64 (i6 - 1)) x4) .fail) .fail)
 (.br (decide (0 ≤ i6)) (.br (decide (i6 < (((x4.fld 1).els).length : Int))) (ref03_Small_l6 n m6 (IntKind.wrap .i64 ((IntKind.wrap .i64 (n5 * 4294967296)) + (IntKind.wrap .i64 ((((x4.fld 1).els).getD (Int.toNat i6) D.nil).toInt)))) (IntKind.wrap .i64 (i6 - 1)) x4) .fail) .fail))
 (.ret [D.int n5, D.bool true]) := by kernel_rfl
theorem ref03_Small_tree (n : Nat) (a0 : D) : evFun Tryz.prog md ref03_Small_orc n 52 [] [a0] =
 .call 105 [] [a0] fun yy1 =>
 .br (decide (2 < ((((yy1.getD 0 D.nil).fld 1).els).length : Int))) (.ret [D.int 0, D.bool false])
 (.call 95 [] [D.int 9223372036854775807] fun yy2 =>
 .call 106 [] [yy1.getD 0 D.nil, yy2.getD 0 D.nil] fun yy3 =>
 .br (decide (0 < ((yy3.getD 0 D.nil).toInt))) (.ret [D.int 0, D.bool false])
 (.call 95 [] [D.int (-9223372036854775808)] fun yy4 =>
 .call 106 [] [yy1.getD 0 D.nil, yy4.getD 0 D.nil] fun yy5 =>
 .br (decide (((yy5.getD 0 D.nil).toInt) < 0)) (.ret [D.int 0, D.bool false])
 (ref03_Small_l6 n n 0 (IntKind.wrap .i64 (((((yy1.getD 0 D.nil).fld 1).els).length : Int) - 1)) (yy1.getD 0 D.nil)))) := by kernel_rfl

/-! scrim/scrimref03.Of -/
def ref03_Of_orc : List (Nat × Orc) := []
theorem ref03_Of_tree (n : Nat) (n0 : D) : evFun Tryz.prog md ref03_Of_orc n 95 [] [n0] =
 .br (decide (0 ≤ n0.toInt)) (.br (!(4294967296 == (0 : Int))) (.br (!(4294967296 == (0 : Int))) (.call 105 [] [D.agg [D.bool false, D.sl [D.int (IntKind.wrap .u32 (Int.tmod n0.toInt 4294967296)), D.int (IntKind.wrap .u32 (IntKind.wrap .i64 (Int.tdiv n0.toInt 4294967296)))]]] fun yy1 =>
 .ret [yy1.getD 0 D.nil]) .fail) .fail)
 (.br (!(4294967296 == (0 : Int))) (.br (!(4294967296 == (0 : Int))) (.call 134 [] [D.sl [D.int (IntKind.wrap .u32 (Int.tmod (IntKind.wrap .i64 ((-1) - n0.toInt)) 4294967296)), D.int (IntKind.wrap .u32 (IntKind.wrap .i64 (Int.tdiv (IntKind.wrap .i64 ((-1) - n0.toInt)) 4294967296)))], D.sl [D.int 1]] fun yy2 =>
 .call 105 [] [D.agg [D.bool true, yy2.getD 0 D.nil]] fun yy3 =>
 .ret [yy3.getD 0 D.nil]) .fail) .fail) := by kernel_rfl

/-! scrim/scrimref03.Norm -/
def ref03_Norm_orc : List (Nat × Orc) := []
theorem ref03_Norm_tree (n : Nat) (a0 : D) : evFun Tryz.prog md ref03_Norm_orc n 105 [] [a0] =
 .call 135 [] [a0.fld 1] fun yy1 =>
 .br ((((yy1.getD 0 D.nil).els).length : Int) == 0) (.ret [D.agg [D.bool false, D.sl []]])
 (.ret [D.agg [D.bool ((a0.fld 0).toBool), yy1.getD 0 D.nil]]) := by kernel_rfl

/-! scrim/scrimref03.Cmp -/
def ref03_Cmp_orc : List (Nat × Orc) := []
theorem ref03_Cmp_tree (n : Nat) (a0 : D) (b1 : D) : evFun Tryz.prog md ref03_Cmp_orc n 106 [] [a0, b1] =
 .call 122 [] [a0, b1] fun yy1 =>
 .call 121 [] [yy1.getD 0 D.nil] fun yy2 =>
 .ret [D.int ((yy2.getD 0 D.nil).toInt)] := by kernel_rfl

/-! scrim/whole.Of -/
def whole_Of_orc : List (Nat × Orc) := []
theorem whole_Of_tree (n : Nat) (n0 : D) : evFun Tryz.prog md whole_Of_orc n 111 [] [n0] =
 .br (decide (n0.toInt < 0)) (.br (decide (0 ≤ 32)) (.call 139 [] [D.sl [D.int (IntKind.wrap .u32 (IntKind.wrap .u64 (0 - (IntKind.wrap .u64 n0.toInt)))), D.int (IntKind.wrap .u32 (Int.fdiv (IntKind.wrap .u64 (0 - (IntKind.wrap .u64 n0.toInt))) (2 ^ (min (Int.toNat 32) (IntKind.bits .u64)))))]] fun yy1 =>
 .call 141 [] [D.bool (decide (n0.toInt < 0)), D.sl ((yy1.getD 0 D.nil).els)] fun yy2 =>
 .ret [yy2.getD 0 D.nil]) .fail)
 (.br (decide (0 ≤ 32)) (.call 139 [] [D.sl [D.int (IntKind.wrap .u32 (IntKind.wrap .u64 n0.toInt)), D.int (IntKind.wrap .u32 (Int.fdiv (IntKind.wrap .u64 n0.toInt) (2 ^ (min (Int.toNat 32) (IntKind.bits .u64)))))]] fun yy3 =>
 .call 141 [] [D.bool (decide (n0.toInt < 0)), D.sl ((yy3.getD 0 D.nil).els)] fun yy4 =>
 .ret [yy4.getD 0 D.nil]) .fail) := by kernel_rfl

/-! scrim/whole.Sign -/
def whole_Sign_orc : List (Nat × Orc) := []
theorem whole_Sign_tree (n : Nat) (a0 : D) : evFun Tryz.prog md whole_Sign_orc n 112 [] [a0] =
 .call 142 [] [a0.fld 1, D.sl []] fun yy1 =>
 .br (((yy1.getD 0 D.nil).toInt) == 0) (.ret [D.int 0])
 (.br ((a0.fld 0).toBool) (.ret [D.int (-1)])
 (.ret [D.int 1])) := by kernel_rfl

/-! scrim/whole.Mul -/
def whole_Mul_orc : List (Nat × Orc) := []
theorem whole_Mul_tree (n : Nat) (a0 : D) (b1 : D) : evFun Tryz.prog md whole_Mul_orc n 115 [] [a0, b1] =
 .call 144 [] [a0.fld 1, b1.fld 1] fun yy1 =>
 .call 141 [] [D.bool (!(((a0.fld 0).toBool) == ((b1.fld 0).toBool))), yy1.getD 0 D.nil] fun yy2 =>
 .ret [yy2.getD 0 D.nil] := by kernel_rfl

/-! scrim/whole.DivMod -/
def whole_DivMod_orc : List (Nat × Orc) := []
theorem whole_DivMod_tree (n : Nat) (a0 : D) (b1 : D) : evFun Tryz.prog md whole_DivMod_orc n 117 [] [a0, b1] =
 .call 143 [] [a0.fld 1, b1.fld 1] fun yy1 =>
 .br (!((yy1.getD 2 D.nil).toBool)) (.ret [D.agg [D.bool false, D.sl []], D.agg [D.bool false, D.sl []], D.bool false])
 (.call 141 [] [D.bool (!(((a0.fld 0).toBool) == ((b1.fld 0).toBool))), yy1.getD 0 D.nil] fun yy2 =>
 .call 141 [] [D.bool ((a0.fld 0).toBool), yy1.getD 1 D.nil] fun yy3 =>
 .br (!(((a0.fld 0).toBool) == ((b1.fld 0).toBool))) (.br (decide (0 < (((yy1.getD 1 D.nil).els).length : Int))) (.call 111 [] [D.int 1] fun yy4 =>
 .call 145 [] [yy2.getD 0 D.nil, yy4.getD 0 D.nil] fun yy5 =>
 .call 125 [] [yy3.getD 0 D.nil, b1] fun yy6 =>
 .ret [yy5.getD 0 D.nil, yy6.getD 0 D.nil, D.bool true])
 (.ret [yy2.getD 0 D.nil, yy3.getD 0 D.nil, D.bool true]))
 (.ret [yy2.getD 0 D.nil, yy3.getD 0 D.nil, D.bool true])) := by kernel_rfl

/-! scrim/whole.Small -/
def whole_Small_orc : List (Nat × Orc) := [(6, ⟨[(1, none), (4, none), (14, some 42), (15, none), (16, none)], [(1, true)], []⟩)]
def whole_Small_ps : List Nat := [118]
def whole_Small_rs : List ResultVar := [.tmp 2, .tmp 3]
def whole_Small_ts : List Nat := [3, 4]
noncomputable def whole_Small_l6 (n m6 : Nat) (size4 : Int) (t14 : D) (t15 : Int) (t16 : Int) (a1 : D) : Tree :=
  evLoop Tryz.prog md (ev Tryz.prog md n whole_Small_orc (cAt (bodyOf Tryz.prog 119) [1, 1, 1, 1, 0, 1, 0, 0])) (orcAt whole_Small_orc 6) m6 ⟨[.undef, .ptr 1 [], .undef, .undef, .i .u64 size4, .undef, .undef, .undef, .undef, .undef, .undef, .undef, .undef, .undef, .d 42 t14, .i .i64 t15, .i .i64 t16, .undef, .undef, .undef, .undef, .undef, .undef, .undef, .undef, .undef, .undef, .undef, .undef, .undef, .undef, .undef, .undef, .undef, .undef, .undef, .undef, .undef, .undef, .undef, .undef], [(1, .var 118 (.d 118 a1) true)], [1], [], []⟩
   (blockK 0 (seqK (joinE Tryz.prog md (joinAt whole_Small_orc (cAt (bodyOf Tryz.prog 119) [1, 1, 1, 1, 1])) (ev Tryz.prog md n whole_Small_orc (cAt (bodyOf Tryz.prog 119) [1, 1, 1, 1, 1]))) (retK Tryz.prog md (md 119) whole_Small_ps whole_Small_rs whole_Small_ts)))
theorem whole_Small_l6_succ (n m6 : Nat) (size4 : Int) (t14 : D) (t15 : Int) (t16 : Int) (a1 : D) : whole_Small_l6 n (m6 + 1) size4 t14 t15 t16 a1 =
 .br (decide (t16 < t15)) (.br (decide (0 ≤ t16)) (.br (decide (t16 < (t14.els.length : Int))) (.br (decide (0 ≤ IntKind.wrap .u64 (IntKind.wrap .i64 (32 * t16)))) (whole_Small_l6 n m6 (bits_ .or .u64 size4 (IntKind.wrap .u64 ((IntKind.wrap .u64 ((t14.els.getD (Int.toNat t16) D.nil).toInt)) * 2 ^ (min (Int.toNat (IntKind.wrap .u64 (IntKind.wrap .i64 (32 * t16)))) (IntKind.bits .u64))))) t14 t15 (IntKind.wrap .i64 (t16 + 1)) a1) .fail) .fail) .fail)
 (.br ((a1.fld 0).toBool) (.br (decide (9223372036854775808 < size4)) (.ret [D.int 0, D.bool false])
 (.ret [D.int (IntKind.wrap .i64 (IntKind.wrap .u64 (0 - size4))), D.bool true]))
 (.br (decide (9223372036854775807 < size4)) (.ret [D.int 0, D.bool false])
 (.ret [D.int (IntKind.wrap .i64 size4), D.bool true]))) := by kernel_rfl
theorem whole_Small_tree (n : Nat) (a0 : D) : evFun Tryz.prog md whole_Small_orc n 119 [] [a0] =
 .call 140 [] [a0] fun yy1 =>
 .br (decide (2 < ((((yy1.getD 0 D.nil).fld 1).els).length : Int))) (.ret [D.int 0, D.bool false])
 (whole_Small_l6 n n 0 ((yy1.getD 0 D.nil).fld 1) ((((yy1.getD 0 D.nil).fld 1).els).length : Int) 0 (yy1.getD 0 D.nil)) := by kernel_rfl

/-! scrim/scrimref03.Sign -/
def ref03_Sign_orc : List (Nat × Orc) := []
theorem ref03_Sign_tree (n : Nat) (a0 : D) : evFun Tryz.prog md ref03_Sign_orc n 121 [] [a0] =
 .call 105 [] [a0] fun yy1 =>
 .br (((((yy1.getD 0 D.nil).fld 1).els).length : Int) == 0) (.ret [D.int 0])
 (.br (((yy1.getD 0 D.nil).fld 0).toBool) (.ret [D.int (-1)])
 (.ret [D.int 1])) := by kernel_rfl

/-! scrim/scrimref03.Sub -/
def ref03_Sub_orc : List (Nat × Orc) := []
theorem ref03_Sub_tree (n : Nat) (a0 : D) (b1 : D) : evFun Tryz.prog md ref03_Sub_orc n 122 [] [a0, b1] =
 .call 146 [] [b1] fun yy1 =>
 .call 129 [] [a0, yy1.getD 0 D.nil] fun yy2 =>
 .ret [yy2.getD 0 D.nil] := by kernel_rfl

/-! scrim/scrimref03.Mul -/
def ref03_Mul_orc : List (Nat × Orc) := []
theorem ref03_Mul_tree (n : Nat) (a0 : D) (b1 : D) : evFun Tryz.prog md ref03_Mul_orc n 123 [] [a0, b1] =
 .call 105 [] [a0] fun yy1 =>
 .call 105 [] [b1] fun yy2 =>
 .call 135 [] [a0.fld 1] fun yy3 =>
 .call 135 [] [b1.fld 1] fun yy4 =>
 .call 147 [] [yy3.getD 0 D.nil, yy4.getD 0 D.nil] fun yy5 =>
 .call 105 [] [D.agg [D.bool (!((((yy1.getD 0 D.nil).fld 0).toBool) == (((yy2.getD 0 D.nil).fld 0).toBool))), yy5.getD 0 D.nil]] fun yy6 =>
 .ret [yy6.getD 0 D.nil] := by kernel_rfl

/-! scrim/scrimref03.DivMod -/
def ref03_DivMod_orc : List (Nat × Orc) := []
theorem ref03_DivMod_tree (n : Nat) (a0 : D) (b1 : D) : evFun Tryz.prog md ref03_DivMod_orc n 124 [] [a0, b1] =
 .call 105 [] [a0] fun yy1 =>
 .call 105 [] [b1] fun yy2 =>
 .call 108 [] [(yy1.getD 0 D.nil).fld 1, (yy2.getD 0 D.nil).fld 1] fun yy3 =>
 .br (!((yy3.getD 2 D.nil).toBool)) (.ret [D.agg [D.bool false, D.sl []], D.agg [D.bool false, D.sl []], D.bool false])
 (.br ((((yy1.getD 0 D.nil).fld 0).toBool) == (((yy2.getD 0 D.nil).fld 0).toBool)) (.call 105 [] [D.agg [D.bool false, yy3.getD 0 D.nil]] fun yy4 =>
 .call 105 [] [D.agg [D.bool (((yy1.getD 0 D.nil).fld 0).toBool), yy3.getD 1 D.nil]] fun yy5 =>
 .ret [yy4.getD 0 D.nil, yy5.getD 0 D.nil, D.bool true])
 (.br ((((yy3.getD 1 D.nil).els).length : Int) == 0) (.call 105 [] [D.agg [D.bool true, yy3.getD 0 D.nil]] fun yy6 =>
 .ret [yy6.getD 0 D.nil, D.agg [D.bool false, D.sl []], D.bool true])
 (.call 138 [] [(yy2.getD 0 D.nil).fld 1, yy3.getD 1 D.nil] fun yy7 =>
 .call 134 [] [yy3.getD 0 D.nil, D.sl [D.int 1]] fun yy8 =>
 .call 105 [] [D.agg [D.bool true, yy8.getD 0 D.nil]] fun yy9 =>
 .call 105 [] [D.agg [D.bool (((yy2.getD 0 D.nil).fld 0).toBool), yy7.getD 0 D.nil]] fun yy10 =>
 .ret [yy9.getD 0 D.nil, yy10.getD 0 D.nil, D.bool true]))) := by kernel_rfl

/-! scrim/whole.Add -/
def whole_Add_orc : List (Nat × Orc) := []
theorem whole_Add_tree (n : Nat) (a0 : D) (b1 : D) : evFun Tryz.prog md whole_Add_orc n 125 [] [a0, b1] =
 .br (((a0.fld 0).toBool) == ((b1.fld 0).toBool)) (.call 148 [] [a0.fld 1, b1.fld 1] fun yy1 =>
 .call 141 [] [D.bool ((a0.fld 0).toBool), yy1.getD 0 D.nil] fun yy2 =>
 .ret [yy2.getD 0 D.nil])
 (.call 149 [] [a0.fld 1, b1.fld 1] fun yy3 =>
 .br ((yy3.getD 1 D.nil).toBool) (.call 141 [] [D.bool ((a0.fld 0).toBool), yy3.getD 0 D.nil] fun yy4 =>
 .ret [yy4.getD 0 D.nil])
 (.call 149 [] [b1.fld 1, a0.fld 1] fun yy5 =>
 .call 141 [] [D.bool ((b1.fld 0).toBool), yy5.getD 0 D.nil] fun yy6 =>
 .ret [yy6.getD 0 D.nil])) := by kernel_rfl

/-! scrim/whole.Cmp -/
def whole_Cmp_orc : List (Nat × Orc) := []
theorem whole_Cmp_tree (n : Nat) (a0 : D) (b1 : D) : evFun Tryz.prog md whole_Cmp_orc n 126 [] [a0, b1] =
 .call 112 [] [a0] fun yy1 =>
 .call 112 [] [b1] fun yy2 =>
 .br (decide (((yy1.getD 0 D.nil).toInt) < ((yy2.getD 0 D.nil).toInt))) (.ret [D.int (-1)])
 (.br (decide (((yy2.getD 0 D.nil).toInt) < ((yy1.getD 0 D.nil).toInt))) (.ret [D.int 1])
 (.br (decide (((yy1.getD 0 D.nil).toInt) < 0)) (.call 142 [] [b1.fld 1, a0.fld 1] fun yy3 =>
 .ret [D.int ((yy3.getD 0 D.nil).toInt)])
 (.call 142 [] [a0.fld 1, b1.fld 1] fun yy4 =>
 .ret [D.int ((yy4.getD 0 D.nil).toInt)]))) := by kernel_rfl

/-! scrim/whole.Pow -/
def whole_Pow_orc : List (Nat × Orc) := [(4, ⟨[(1, none), (4, none), (6, none), (7, none)], [(4, false), (6, true), (7, true)], []⟩)]
def whole_Pow_ps : List Nat := [118, 3]
def whole_Pow_rs : List ResultVar := [.cell 4 118, .tmp 5]
def whole_Pow_ts : List Nat := [118, 29]
noncomputable def whole_Pow_l4 (n m4 : Nat) (n1 : Int) (t4_0 : Bool) (out6 : D) (factor7 : D) : Tree :=
  evLoop Tryz.prog md (ev Tryz.prog md n whole_Pow_orc (cAt (bodyOf Tryz.prog 127) [1, 1, 1, 0, 0, 0])) (orcAt whole_Pow_orc 4) m4 ⟨[.undef, .i .i64 n1, .undef, .undef, .ptr 4 [], .undef, .ptr 6 [], .ptr 7 [], .undef, .undef, .undef, .undef, .undef, .undef, .undef, .undef, .undef, .undef, .undef, .undef, .undef, .undef, .undef, .undef, .undef, .undef, .undef, .undef, .undef, .undef, .undef, .undef, .undef, .undef, .undef, .undef, .undef, .undef, .undef, .undef], [(4, .var 118 (.agg 118 [.b t4_0, .mt]) true), (6, .var 118 (.d 118 out6) true), (7, .var 118 (.d 118 factor7) true)], [4, 6, 7], [], []⟩
   (blockK 0 (seqK (joinE Tryz.prog md (joinAt whole_Pow_orc (cAt (bodyOf Tryz.prog 127) [1, 1, 1, 1])) (ev Tryz.prog md n whole_Pow_orc (cAt (bodyOf Tryz.prog 127) [1, 1, 1, 1]))) (retK Tryz.prog md (md 127) whole_Pow_ps whole_Pow_rs whole_Pow_ts)))
theorem whole_Pow_l4_succ (n m4 : Nat) (n1 : Int) (t4_0 : Bool) (out6 : D) (factor7 : D) : whole_Pow_l4 n (m4 + 1) n1 t4_0 out6 factor7 =
 .br (decide (0 < n1)) (.br (decide (32 < (((factor7.fld 1).els).length : Int))) (.ret [D.agg [D.bool false, D.sl []], D.int 7])
 (.br ((bits_ .and .i64 n1 1) == 1) (.call 115 [] [out6, factor7] fun yy3 =>
 .br (decide (32 < ((((yy3.getD 0 D.nil).fld 1).els).length : Int))) (.ret [D.agg [D.bool false, D.sl []], D.int 7])
 (.br (decide (0 ≤ 1)) (.br (decide (0 < (Int.fdiv n1 (2 ^ (min (Int.toNat 1) (IntKind.bits .i64)))))) (.call 115 [] [factor7, factor7] fun yy4 =>
 whole_Pow_l4 n m4 (Int.fdiv n1 (2 ^ (min (Int.toNat 1) (IntKind.bits .i64)))) t4_0 (yy3.getD 0 D.nil) (yy4.getD 0 D.nil))
 (whole_Pow_l4 n m4 (Int.fdiv n1 (2 ^ (min (Int.toNat 1) (IntKind.bits .i64)))) t4_0 (yy3.getD 0 D.nil) factor7)) .fail))
 (.br (decide (32 < (((out6.fld 1).els).length : Int))) (.ret [D.agg [D.bool false, D.sl []], D.int 7])
 (.br (decide (0 ≤ 1)) (.br (decide (0 < (Int.fdiv n1 (2 ^ (min (Int.toNat 1) (IntKind.bits .i64)))))) (.call 115 [] [factor7, factor7] fun yy5 =>
 whole_Pow_l4 n m4 (Int.fdiv n1 (2 ^ (min (Int.toNat 1) (IntKind.bits .i64)))) t4_0 out6 (yy5.getD 0 D.nil))
 (whole_Pow_l4 n m4 (Int.fdiv n1 (2 ^ (min (Int.toNat 1) (IntKind.bits .i64)))) t4_0 out6 factor7)) .fail))))
 (.ret [out6, D.int 0]) := by kernel_rfl
theorem whole_Pow_tree (n : Nat) (a0 : D) (n1 : D) : evFun Tryz.prog md whole_Pow_orc n 127 [] [a0, n1] =
 .br (decide (n1.toInt < 0)) (.ret [D.agg [D.bool false, D.sl []], D.int 3])
 (.call 111 [] [D.int 1] fun yy1 =>
 .call 140 [] [a0] fun yy2 =>
 whole_Pow_l4 n n n1.toInt false (yy1.getD 0 D.nil) (yy2.getD 0 D.nil)) := by kernel_rfl

/-! scrim/scrimref03.Add -/
def ref03_Add_orc : List (Nat × Orc) := []
theorem ref03_Add_tree (n : Nat) (a0 : D) (b1 : D) : evFun Tryz.prog md ref03_Add_orc n 129 [] [a0, b1] =
 .call 105 [] [a0] fun yy1 =>
 .call 105 [] [b1] fun yy2 =>
 .br ((((yy1.getD 0 D.nil).fld 0).toBool) == (((yy2.getD 0 D.nil).fld 0).toBool)) (.call 134 [] [(yy1.getD 0 D.nil).fld 1, (yy2.getD 0 D.nil).fld 1] fun yy3 =>
 .call 105 [] [D.agg [D.bool (((yy1.getD 0 D.nil).fld 0).toBool), yy3.getD 0 D.nil]] fun yy4 =>
 .ret [yy4.getD 0 D.nil])
 (.call 153 [] [(yy1.getD 0 D.nil).fld 1, (yy2.getD 0 D.nil).fld 1] fun yy5 =>
 .br (decide (0 ≤ ((yy5.getD 0 D.nil).toInt))) (.call 138 [] [(yy1.getD 0 D.nil).fld 1, (yy2.getD 0 D.nil).fld 1] fun yy6 =>
 .call 105 [] [D.agg [D.bool (((yy1.getD 0 D.nil).fld 0).toBool), yy6.getD 0 D.nil]] fun yy7 =>
 .ret [yy7.getD 0 D.nil])
 (.call 138 [] [(yy2.getD 0 D.nil).fld 1, (yy1.getD 0 D.nil).fld 1] fun yy8 =>
 .call 105 [] [D.agg [D.bool (((yy2.getD 0 D.nil).fld 0).toBool), yy8.getD 0 D.nil]] fun yy9 =>
 .ret [yy9.getD 0 D.nil])) := by kernel_rfl

/-! scrim/scrimref03.Pow -/
def ref03_Pow_orc : List (Nat × Orc) := [(6, ⟨[(1, none), (4, none), (6, none), (7, none)], [(4, false), (6, true), (7, true)], []⟩)]
def ref03_Pow_ps : List Nat := [84, 3]
def ref03_Pow_rs : List ResultVar := [.cell 4 84, .tmp 5]
def ref03_Pow_ts : List Nat := [84, 3]
noncomputable def ref03_Pow_l6 (n m6 : Nat) (n1 : Int) (t4_0 : Bool) (out6 : D) (base7 : D) : Tree :=
  evLoop Tryz.prog md (ev Tryz.prog md n ref03_Pow_orc (cAt (bodyOf Tryz.prog 130) [1, 1, 1, 1, 0, 0, 0])) (orcAt ref03_Pow_orc 6) m6 ⟨[.undef, .i .i64 n1, .undef, .undef, .ptr 4 [], .undef, .ptr 6 [], .ptr 7 [], .undef, .undef, .undef, .undef, .undef, .undef, .undef, .undef, .undef, .undef, .undef, .undef, .undef, .undef, .undef, .undef, .undef, .undef, .undef, .undef, .undef, .undef, .undef, .undef, .undef, .undef, .undef, .undef, .undef, .undef, .undef, .undef, .undef, .undef, .undef, .undef, .undef, .undef, .undef, .undef, .undef, .undef], [(4, .var 84 (.agg 84 [.b t4_0, .mt]) true), (6, .var 84 (.d 84 out6) true), (7, .var 84 (.d 84 base7) true)], [4, 6, 7], [], []⟩
   (blockK 0 (seqK (joinE Tryz.prog md (joinAt ref03_Pow_orc (cAt (bodyOf Tryz.prog 130) [1, 1, 1, 1, 1])) (ev Tryz.prog md n ref03_Pow_orc (cAt (bodyOf Tryz.prog 130) [1, 1, 1, 1, 1]))) (retK Tryz.prog md (md 130) ref03_Pow_ps ref03_Pow_rs ref03_Pow_ts)))
theorem ref03_Pow_l6_succ (n m6 : Nat) (n1 : Int) (t4_0 : Bool) (out6 : D) (base7 : D) : ref03_Pow_l6 n (m6 + 1) n1 t4_0 out6 base7 =
 .br (decide (0 < n1)) (.br (!(2 == (0 : Int))) (.br ((Int.tmod n1 2) == 1) (.call 123 [] [out6, base7] fun yy3 =>
 .br (!(2 == (0 : Int))) (.br (decide (0 < (IntKind.wrap .i64 (Int.tdiv n1 2)))) (.call 123 [] [base7, base7] fun yy4 =>
 .br (decide (32 < ((((yy3.getD 0 D.nil).fld 1).els).length : Int))) (.ret [D.agg [D.bool false, D.sl []], D.int 7])
 (.br (decide (32 < ((((yy4.getD 0 D.nil).fld 1).els).length : Int))) (.ret [D.agg [D.bool false, D.sl []], D.int 7])
 (ref03_Pow_l6 n m6 (IntKind.wrap .i64 (Int.tdiv n1 2)) t4_0 (yy3.getD 0 D.nil) (yy4.getD 0 D.nil))))
 (.br (decide (32 < ((((yy3.getD 0 D.nil).fld 1).els).length : Int))) (.ret [D.agg [D.bool false, D.sl []], D.int 7])
 (.br (decide (32 < (((base7.fld 1).els).length : Int))) (.ret [D.agg [D.bool false, D.sl []], D.int 7])
 (ref03_Pow_l6 n m6 (IntKind.wrap .i64 (Int.tdiv n1 2)) t4_0 (yy3.getD 0 D.nil) base7)))) .fail)
 (.br (!(2 == (0 : Int))) (.br (decide (0 < (IntKind.wrap .i64 (Int.tdiv n1 2)))) (.call 123 [] [base7, base7] fun yy5 =>
 .br (decide (32 < (((out6.fld 1).els).length : Int))) (.ret [D.agg [D.bool false, D.sl []], D.int 7])
 (.br (decide (32 < ((((yy5.getD 0 D.nil).fld 1).els).length : Int))) (.ret [D.agg [D.bool false, D.sl []], D.int 7])
 (ref03_Pow_l6 n m6 (IntKind.wrap .i64 (Int.tdiv n1 2)) t4_0 out6 (yy5.getD 0 D.nil))))
 (.br (decide (32 < (((out6.fld 1).els).length : Int))) (.ret [D.agg [D.bool false, D.sl []], D.int 7])
 (.br (decide (32 < (((base7.fld 1).els).length : Int))) (.ret [D.agg [D.bool false, D.sl []], D.int 7])
 (ref03_Pow_l6 n m6 (IntKind.wrap .i64 (Int.tdiv n1 2)) t4_0 out6 base7)))) .fail)) .fail)
 (.ret [out6, D.int 0]) := by kernel_rfl
theorem ref03_Pow_tree (n : Nat) (a0 : D) (n1 : D) : evFun Tryz.prog md ref03_Pow_orc n 130 [] [a0, n1] =
 .br (decide (n1.toInt < 0)) (.ret [D.agg [D.bool false, D.sl []], D.int 3])
 (.call 95 [] [D.int 1] fun yy1 =>
 .call 105 [] [a0] fun yy2 =>
 .br (decide (32 < ((((yy2.getD 0 D.nil).fld 1).els).length : Int))) (.br (decide (0 < n1.toInt)) (.ret [D.agg [D.bool false, D.sl []], D.int 7])
 (ref03_Pow_l6 n n n1.toInt false (yy1.getD 0 D.nil) (yy2.getD 0 D.nil)))
 (ref03_Pow_l6 n n n1.toInt false (yy1.getD 0 D.nil) (yy2.getD 0 D.nil))) := by kernel_rfl

/-! scrim/whole.Norm -/
def whole_Norm_orc : List (Nat × Orc) := []
theorem whole_Norm_tree (n : Nat) (a0 : D) : evFun Tryz.prog md whole_Norm_orc n 140 [] [a0] =
 .call 139 [] [a0.fld 1] fun yy1 =>
 .call 141 [] [D.bool ((a0.fld 0).toBool), D.sl ((yy1.getD 0 D.nil).els)] fun yy2 =>
 .ret [yy2.getD 0 D.nil] := by kernel_rfl

/-! scrim/whole.signed -/
def whole_signed_orc : List (Nat × Orc) := []
theorem whole_signed_tree (n : Nat) (neg0 : D) (mag1 : D) : evFun Tryz.prog md whole_signed_orc n 141 [] [neg0, mag1] =
 .br ((mag1.els.length : Int) == 0) (.ret [D.agg [D.bool false, D.sl []]])
 (.ret [D.agg [D.bool neg0.toBool, mag1]]) := by kernel_rfl

/-! scrim/whole.Sub -/
def whole_Sub_orc : List (Nat × Orc) := []
theorem whole_Sub_tree (n : Nat) (a0 : D) (b1 : D) : evFun Tryz.prog md whole_Sub_orc n 145 [] [a0, b1] =
 .call 125 [] [a0, D.agg [D.bool (!((b1.fld 0).toBool)), b1.fld 1]] fun yy1 =>
 .ret [yy1.getD 0 D.nil] := by kernel_rfl

/-! scrim/scrimref03.Neg -/
def ref03_Neg_orc : List (Nat × Orc) := []
theorem ref03_Neg_tree (n : Nat) (a0 : D) : evFun Tryz.prog md ref03_Neg_orc n 146 [] [a0] =
 .call 105 [] [D.agg [D.bool (!((a0.fld 0).toBool)), a0.fld 1]] fun yy1 =>
 .ret [yy1.getD 0 D.nil] := by kernel_rfl

end Go.Proofs.YtjmddikeadbmjaaGreat
set_option maxRecDepth 100000
namespace Go.Proofs.YtjmddikeadbmjaaGreat
/-! scrim/scrimref02.Same -/
def ref02_Same_orc : List (Nat × Orc) := [(4, ⟨[(0, some 42), (1, some 42), (5, none)], [], []⟩)]
def ref02_Same_ps : List Nat := [42, 42]
def ref02_Same_rs : List ResultVar := [.tmp 4]
def ref02_Same_ts : List Nat := [4]
noncomputable def ref02_Same_l4 (n m4 : Nat) (a0 : D) (b1 : D) (i5 : Int) : Tree :=
  evLoop Tryz.prog md (ev Tryz.prog md n ref02_Same_orc (cAt (bodyOf Tryz.prog 88) [1, 1, 0, 1, 0, 0])) (orcAt ref02_Same_orc 4) m4 ⟨[.d 42 a0, .d 42 b1, .undef, .undef, .undef, .i .i64 i5, .undef, .undef, .undef, .undef, .undef, .undef, .undef, .undef, .undef, .undef, .undef, .undef, .undef, .undef, .undef, .undef, .undef, .undef, .undef, .undef], [], [], [], []⟩
   (blockK 0 (seqK (joinE Tryz.prog md (joinAt ref02_Same_orc (cAt (bodyOf Tryz.prog 88) [1, 1, 1])) (ev Tryz.prog md n ref02_Same_orc (cAt (bodyOf Tryz.prog 88) [1, 1, 1]))) (retK Tryz.prog md (md 88) ref02_Same_ps ref02_Same_rs ref02_Same_ts)))
theorem ref02_Same_l4_succ (n m4 : Nat) (a0 : D) (b1 : D) (i5 : Int) : ref02_Same_l4 n (m4 + 1) a0 b1 i5 =
 .br (decide (i5 < (a0.els.length : Int))) (.br (decide (0 ≤ i5)) (.br (decide (i5 < (a0.els.length : Int))) (.br (decide (0 ≤ i5)) (.br (decide (i5 < (b1.els.length : Int))) (.br (((a0.els.getD (Int.toNat i5) D.nil).toInt) != ((b1.els.getD (Int.toNat i5) D.nil).toInt)) (.ret [D.bool false])
 (ref02_Same_l4 n m4 a0 b1 (IntKind.wrap .i64 (i5 + 1)))) .fail) .fail) .fail) .fail)
 (.ret [D.bool true]) := by kernel_rfl
theorem ref02_Same_tree (n : Nat) (a0 : D) (b1 : D) : evFun Tryz.prog md ref02_Same_orc n 88 [] [a0, b1] =
 .br ((a0.els.length : Int) != (b1.els.length : Int)) (.ret [D.bool false])
 (ref02_Same_l4 n n a0 b1 0) := by kernel_rfl

/-! scrim/scrimref02.Gcd -/
def ref02_Gcd_orc : List (Nat × Orc) := [(3, ⟨[(5, some 42), (6, some 42), (7, none)], [], []⟩)]
def ref02_Gcd_ps : List Nat := [42, 42]
def ref02_Gcd_rs : List ResultVar := [.tmp 4]
def ref02_Gcd_ts : List Nat := [42]
noncomputable def ref02_Gcd_l3 (n m3 : Nat) (x5 : D) (y6 : D) (k7 : Int) : Tree :=
  evLoop Tryz.prog md (ev Tryz.prog md n ref02_Gcd_orc (cAt (bodyOf Tryz.prog 107) [1, 1, 0, 1, 0, 0])) (orcAt ref02_Gcd_orc 3) m3 ⟨[.undef, .undef, .undef, .undef, .undef, .d 42 x5, .d 42 y6, .i .i64 k7, .undef, .undef, .undef, .undef, .undef, .undef, .undef, .undef, .undef, .undef, .undef, .undef, .undef, .undef, .undef, .undef, .undef, .undef, .undef, .undef, .undef, .undef, .undef, .undef, .undef, .undef], [], [], [], []⟩
   (blockK 0 (seqK (joinE Tryz.prog md (joinAt ref02_Gcd_orc (cAt (bodyOf Tryz.prog 107) [1, 1, 1])) (ev Tryz.prog md n ref02_Gcd_orc (cAt (bodyOf Tryz.prog 107) [1, 1, 1]))) (retK Tryz.prog md (md 107) ref02_Gcd_ps ref02_Gcd_rs ref02_Gcd_ts)))
theorem ref02_Gcd_l3_succ (n m3 : Nat) (x5 : D) (y6 : D) (k7 : Int) : ref02_Gcd_l3 n (m3 + 1) x5 y6 k7 =
 .br (decide (k7 < 100000)) (.br (decide (0 < (y6.els.length : Int))) (.call 108 [] [x5, y6] fun yy3 =>
 ref02_Gcd_l3 n m3 y6 (yy3.getD 1 D.nil) (IntKind.wrap .i64 (k7 + 1)))
 (.ret [x5]))
 (.ret [x5]) := by kernel_rfl
theorem ref02_Gcd_tree (n : Nat) (a0 : D) (b1 : D) : evFun Tryz.prog md ref02_Gcd_orc n 107 [] [a0, b1] =
 .call 135 [] [a0] fun yy1 =>
 .call 135 [] [b1] fun yy2 =>
 ref02_Gcd_l3 n n (yy1.getD 0 D.nil) (yy2.getD 0 D.nil) 0 := by kernel_rfl

/-! scrim/scrimref02.DivMod -/
def ref02_DivMod_orc : List (Nat × Orc) := [(5, ⟨[(0, some 42), (1, some 42), (7, some 42), (8, some 42), (9, none)], [], []⟩)]
def ref02_DivMod_ps : List Nat := [42, 42]
def ref02_DivMod_rs : List ResultVar := [.tmp 4, .tmp 5, .tmp 6]
def ref02_DivMod_ts : List Nat := [42, 42, 4]
noncomputable def ref02_DivMod_l5 (n m5 : Nat) (a0 : D) (b1 : D) (q7 : D) (r8 : D) (i9 : Int) : Tree :=
  evLoop Tryz.prog md (ev Tryz.prog md n ref02_DivMod_orc (cAt (bodyOf Tryz.prog 108) [1, 1, 1, 0, 1, 0, 0])) (orcAt ref02_DivMod_orc 5) m5 ⟨[.d 42 a0, .d 42 b1, .undef, .undef, .undef, .undef, .undef, .d 42 q7, .d 42 r8, .i .i64 i9, .undef, .undef, .undef, .undef, .undef, .undef, .undef, .undef, .undef, .undef, .undef, .undef, .undef, .undef, .undef, .undef, .undef, .undef, .undef, .undef, .undef, .undef, .undef, .undef, .undef, .undef, .undef, .undef, .undef, .undef, .undef, .undef, .undef], [], [], [], []⟩
   (blockK 0 (seqK (joinE Tryz.prog md (joinAt ref02_DivMod_orc (cAt (bodyOf Tryz.prog 108) [1, 1, 1, 1])) (ev Tryz.prog md n ref02_DivMod_orc (cAt (bodyOf Tryz.prog 108) [1, 1, 1, 1]))) (retK Tryz.prog md (md 108) ref02_DivMod_ps ref02_DivMod_rs ref02_DivMod_ts)))
theorem ref02_DivMod_l5_succ (n m5 : Nat) (a0 : D) (b1 : D) (q7 : D) (r8 : D) (i9 : Int) : ref02_DivMod_l5 n (m5 + 1) a0 b1 q7 r8 i9 =
 .br (decide (0 ≤ i9)) (.call 137 [] [a0, D.int i9] fun yy2 =>
 .call 136 [] [r8, D.int ((yy2.getD 0 D.nil).toInt)] fun yy3 =>
 .call 138 [] [yy3.getD 0 D.nil, b1] fun yy4 =>
 .br ((yy4.getD 1 D.nil).toBool) (.call 136 [] [q7, D.int 1] fun yy5 =>
 ref02_DivMod_l5 n m5 a0 b1 (yy5.getD 0 D.nil) (yy4.getD 0 D.nil) (IntKind.wrap .i64 (i9 - 1)))
 (.call 136 [] [q7, D.int 0] fun yy6 =>
 ref02_DivMod_l5 n m5 a0 b1 (yy6.getD 0 D.nil) (yy3.getD 0 D.nil) (IntKind.wrap .i64 (i9 - 1))))
 (.ret [q7, r8, D.bool true]) := by kernel_rfl
theorem ref02_DivMod_tree (n : Nat) (a0 : D) (b1 : D) : evFun Tryz.prog md ref02_DivMod_orc n 108 [] [a0, b1] =
 .call 135 [] [b1] fun yy1 =>
 .br ((((yy1.getD 0 D.nil).els).length : Int) == 0) (.ret [D.sl [], D.sl [], D.bool false])
 (ref02_DivMod_l5 n n a0 b1 (D.sl []) (D.sl []) (IntKind.wrap .i64 ((IntKind.wrap .i64 (32 * (a0.els.length : Int))) - 1))) := by kernel_rfl

/-! scrim/nat.Gcd -/
def nat_Gcd_orc : List (Nat × Orc) := [(2, ⟨[(0, some 42), (1, some 42)], [], []⟩)]
def nat_Gcd_ps : List Nat := [42, 42]
def nat_Gcd_rs : List ResultVar := [.tmp 4]
def nat_Gcd_ts : List Nat := [42]
noncomputable def nat_Gcd_l2 (n m2 : Nat) (a0 : D) (b1 : D) : Tree :=
  evLoop Tryz.prog md (ev Tryz.prog md n nat_Gcd_orc (cAt (bodyOf Tryz.prog 128) [1, 1, 0, 0, 0])) (orcAt nat_Gcd_orc 2) m2 ⟨[.d 42 a0, .d 42 b1, .undef, .undef, .undef, .undef, .undef, .undef, .undef, .undef, .undef, .undef, .undef, .undef, .undef, .undef, .undef, .undef, .undef, .undef, .undef, .undef, .undef, .undef, .undef, .undef, .undef, .undef, .undef, .undef, .undef, .undef, .undef, .undef, .undef, .undef, .undef, .undef, .undef], [], [], [], []⟩
   (blockK 0 (seqK (joinE Tryz.prog md (joinAt nat_Gcd_orc (cAt (bodyOf Tryz.prog 128) [1, 1, 1])) (ev Tryz.prog md n nat_Gcd_orc (cAt (bodyOf Tryz.prog 128) [1, 1, 1]))) (retK Tryz.prog md (md 128) nat_Gcd_ps nat_Gcd_rs nat_Gcd_ts)))
theorem nat_Gcd_l2_succ (n m2 : Nat) (a0 : D) (b1 : D) : nat_Gcd_l2 n (m2 + 1) a0 b1 =
 .br (decide (0 < (b1.els.length : Int))) (.br (decide ((a0.els.length : Int) ≤ 2)) (.br (decide ((b1.els.length : Int) ≤ 2)) (.call 152 [] [a0] fun yy3 =>
 .call 152 [] [b1] fun yy4 =>
 .call 151 [] [D.int ((yy3.getD 0 D.nil).toInt), D.int ((yy4.getD 0 D.nil).toInt)] fun yy5 =>
 .ret [yy5.getD 0 D.nil])
 (.call 143 [] [a0, b1] fun yy6 =>
 nat_Gcd_l2 n m2 b1 (yy6.getD 1 D.nil)))
 (.call 143 [] [a0, b1] fun yy7 =>
 nat_Gcd_l2 n m2 b1 (yy7.getD 1 D.nil)))
 (.call 139 [] [a0] fun yy8 =>
 .ret [D.sl ((yy8.getD 0 D.nil).els)]) := by kernel_rfl
theorem nat_Gcd_tree (n : Nat) (a0 : D) (b1 : D) : evFun Tryz.prog md nat_Gcd_orc n 128 [] [a0, b1] =
 .call 150 [] [a0] fun yy1 =>
 .call 150 [] [b1] fun yy2 =>
 nat_Gcd_l2 n n (yy1.getD 0 D.nil) (yy2.getD 0 D.nil) := by kernel_rfl

/-! scrim/scrimref02.Add -/
def ref02_Add_orc : List (Nat × Orc) := [(4, ⟨[(0, some 42), (1, some 42), (5, none), (6, none), (7, none)], [], [(.slot 5, 1040, 110)]⟩)]
def ref02_Add_ps : List Nat := [42, 42]
def ref02_Add_rs : List ResultVar := [.tmp 4]
def ref02_Add_ts : List Nat := [42]
noncomputable def ref02_Add_l4 (n m4 : Nat) (a0 : D) (b1 : D) (out5 : List D) (carry6 : Int) (i7 : Int) : Tree :=
  evLoop Tryz.prog md (ev Tryz.prog md n ref02_Add_orc (cAt (bodyOf Tryz.prog 134) [1, 1, 1, 0, 1, 0, 0])) (orcAt ref02_Add_orc 4) m4 ⟨[.d 42 a0, .d 42 b1, .undef, .undef, .undef, .row 1040, .i .u64 carry6, .i .i64 i7, .undef, .undef, .undef, .undef, .undef, .undef, .undef, .undef, .undef, .undef, .undef, .undef, .undef, .undef, .undef, .undef, .undef, .undef, .undef, .undef, .undef, .undef, .undef, .undef, .undef, .undef, .undef], [(1040, .row 110 out5 true)], [1040], [], []⟩
   (blockK 0 (seqK (joinE Tryz.prog md (joinAt ref02_Add_orc (cAt (bodyOf Tryz.prog 134) [1, 1, 1, 1])) (ev Tryz.prog md n ref02_Add_orc (cAt (bodyOf Tryz.prog 134) [1, 1, 1, 1]))) (retK Tryz.prog md (md 134) ref02_Add_ps ref02_Add_rs ref02_Add_ts)))
theorem ref02_Add_l4_succ (n m4 : Nat) (a0 : D) (b1 : D) (out5 : List D) (carry6 : Int) (i7 : Int) : ref02_Add_l4 n (m4 + 1) a0 b1 out5 carry6 i7 =
 .call 154 [] [a0, b1] fun yy1 =>
 .br (decide (i7 ≤ ((yy1.getD 0 D.nil).toInt))) (.call 155 [] [a0, D.int i7] fun yy2 =>
 .call 155 [] [b1, D.int i7] fun yy3 =>
 .br (!(4294967296 == (0 : Int))) (.br (decide (out5.length + [D.int (IntKind.wrap .u32 (Int.tmod (IntKind.wrap .u64 ((IntKind.wrap .u64 (((yy2.getD 0 D.nil).toInt) + ((yy3.getD 0 D.nil).toInt))) + carry6)) 4294967296))].length ≤ bigN)) (.br (!(4294967296 == (0 : Int))) (ref02_Add_l4 n m4 a0 b1 (out5 ++ [D.int (IntKind.wrap .u32 (Int.tmod (IntKind.wrap .u64 ((IntKind.wrap .u64 (((yy2.getD 0 D.nil).toInt) + ((yy3.getD 0 D.nil).toInt))) + carry6)) 4294967296))]) (IntKind.wrap .u64 (Int.tdiv (IntKind.wrap .u64 ((IntKind.wrap .u64 (((yy2.getD 0 D.nil).toInt) + ((yy3.getD 0 D.nil).toInt))) + carry6)) 4294967296)) (IntKind.wrap .i64 (i7 + 1))) .fail) .fail) .fail)
 (.call 135 [] [D.sl out5] fun yy4 =>
 .ret [yy4.getD 0 D.nil]) := by kernel_rfl
theorem ref02_Add_tree (n : Nat) (a0 : D) (b1 : D) : evFun Tryz.prog md ref02_Add_orc n 134 [] [a0, b1] =
 ref02_Add_l4 n n a0 b1 [] 0 0 := by kernel_rfl

/-! scrim/scrimref02.Norm -/
def ref02_Norm_orc : List (Nat × Orc) := [(2, ⟨[(0, some 42), (3, none)], [], []⟩)]
def ref02_Norm_ps : List Nat := [42]
def ref02_Norm_rs : List ResultVar := [.tmp 2]
def ref02_Norm_ts : List Nat := [42]
noncomputable def ref02_Norm_l2 (n m2 : Nat) (a0 : D) (n3 : Int) : Tree :=
  evLoop Tryz.prog md (ev Tryz.prog md n ref02_Norm_orc (cAt (bodyOf Tryz.prog 135) [1, 1, 0, 0, 0])) (orcAt ref02_Norm_orc 2) m2 ⟨[.d 42 a0, .undef, .undef, .i .i64 n3, .undef, .undef, .undef, .undef, .undef, .undef, .undef, .undef, .undef, .undef, .undef, .undef, .undef, .undef, .undef, .undef, .undef, .undef, .undef, .undef], [], [], [], []⟩
   (blockK 0 (seqK (joinE Tryz.prog md (joinAt ref02_Norm_orc (cAt (bodyOf Tryz.prog 135) [1, 1, 1])) (ev Tryz.prog md n ref02_Norm_orc (cAt (bodyOf Tryz.prog 135) [1, 1, 1]))) (retK Tryz.prog md (md 135) ref02_Norm_ps ref02_Norm_rs ref02_Norm_ts)))
theorem ref02_Norm_l2_succ (n m2 : Nat) (a0 : D) (n3 : Int) : ref02_Norm_l2 n (m2 + 1) a0 n3 =
 .br (decide (0 < n3)) (.br (decide (0 ≤ IntKind.wrap .i64 (n3 - 1))) (.br (decide (IntKind.wrap .i64 (n3 - 1) < (a0.els.length : Int))) (.br (((a0.els.getD (Int.toNat (IntKind.wrap .i64 (n3 - 1))) D.nil).toInt) == 0) (ref02_Norm_l2 n m2 a0 (IntKind.wrap .i64 (n3 - 1)))
 (.br (decide (0 ≤ n3)) (.br (decide (n3 ≤ (a0.els.length : Int))) (.br (decide ((a0.els.take (Int.toNat n3)).length ≤ bigN)) (.ret [D.sl (a0.els.take (Int.toNat n3))]) .fail) .fail) .fail)) .fail) .fail)
 (.br (decide (0 ≤ n3)) (.br (decide (n3 ≤ (a0.els.length : Int))) (.br (decide ((a0.els.take (Int.toNat n3)).length ≤ bigN)) (.ret [D.sl (a0.els.take (Int.toNat n3))]) .fail) .fail) .fail) := by kernel_rfl
theorem ref02_Norm_tree (n : Nat) (a0 : D) : evFun Tryz.prog md ref02_Norm_orc n 135 [] [a0] =
 ref02_Norm_l2 n n a0 (a0.els.length : Int) := by kernel_rfl

/-! scrim/scrimref02.twice -/
def ref02_twice_orc : List (Nat × Orc) := [(4, ⟨[(0, some 42), (5, none), (6, none), (7, none)], [], [(.slot 5, 1040, 110)]⟩)]
def ref02_twice_ps : List Nat := [42, 110]
def ref02_twice_rs : List ResultVar := [.tmp 4]
def ref02_twice_ts : List Nat := [42]
noncomputable def ref02_twice_l4 (n m4 : Nat) (a0 : D) (out5 : List D) (carry6 : Int) (i7 : Int) : Tree :=
  evLoop Tryz.prog md (ev Tryz.prog md n ref02_twice_orc (cAt (bodyOf Tryz.prog 136) [1, 1, 1, 0, 1, 0, 0])) (orcAt ref02_twice_orc 4) m4 ⟨[.d 42 a0, .undef, .undef, .undef, .undef, .row 1040, .i .u64 carry6, .i .i64 i7, .undef, .undef, .undef, .undef, .undef, .undef, .undef, .undef, .undef, .undef, .undef, .undef, .undef, .undef, .undef, .undef, .undef, .undef, .undef, .undef, .undef, .undef, .undef, .undef, .undef], [(1040, .row 110 out5 true)], [1040], [], []⟩
   (blockK 0 (seqK (joinE Tryz.prog md (joinAt ref02_twice_orc (cAt (bodyOf Tryz.prog 136) [1, 1, 1, 1])) (ev Tryz.prog md n ref02_twice_orc (cAt (bodyOf Tryz.prog 136) [1, 1, 1, 1]))) (retK Tryz.prog md (md 136) ref02_twice_ps ref02_twice_rs ref02_twice_ts)))
theorem ref02_twice_l4_succ (n m4 : Nat) (a0 : D) (out5 : List D) (carry6 : Int) (i7 : Int) : ref02_twice_l4 n (m4 + 1) a0 out5 carry6 i7 =
 .br (decide (i7 ≤ (a0.els.length : Int))) (.call 155 [] [a0, D.int i7] fun yy1 =>
 .br (!(4294967296 == (0 : Int))) (.br (decide (out5.length + [D.int (IntKind.wrap .u32 (Int.tmod (IntKind.wrap .u64 ((IntKind.wrap .u64 (2 * ((yy1.getD 0 D.nil).toInt))) + carry6)) 4294967296))].length ≤ bigN)) (.br (!(4294967296 == (0 : Int))) (ref02_twice_l4 n m4 a0 (out5 ++ [D.int (IntKind.wrap .u32 (Int.tmod (IntKind.wrap .u64 ((IntKind.wrap .u64 (2 * ((yy1.getD 0 D.nil).toInt))) + carry6)) 4294967296))]) (IntKind.wrap .u64 (Int.tdiv (IntKind.wrap .u64 ((IntKind.wrap .u64 (2 * ((yy1.getD 0 D.nil).toInt))) + carry6)) 4294967296)) (IntKind.wrap .i64 (i7 + 1))) .fail) .fail) .fail)
 (.call 135 [] [D.sl out5] fun yy2 =>
 .ret [yy2.getD 0 D.nil]) := by kernel_rfl
theorem ref02_twice_tree (n : Nat) (a0 : D) (bit1 : D) : evFun Tryz.prog md ref02_twice_orc n 136 [] [a0, bit1] =
 ref02_twice_l4 n n a0 [] (IntKind.wrap .u64 bit1.toInt) 0 := by kernel_rfl

/-! scrim/scrimref02.Bit -/
def ref02_Bit_orc : List (Nat × Orc) := [(3, ⟨[(1, none), (5, none), (6, none)], [], []⟩)]
def ref02_Bit_ps : List Nat := [42, 3]
def ref02_Bit_rs : List ResultVar := [.tmp 4]
def ref02_Bit_ts : List Nat := [110]
noncomputable def ref02_Bit_l3 (n m3 : Nat) (i1 : Int) (w5 : Int) (k6 : Int) : Tree :=
  evLoop Tryz.prog md (ev Tryz.prog md n ref02_Bit_orc (cAt (bodyOf Tryz.prog 137) [1, 1, 0, 1, 0, 0])) (orcAt ref02_Bit_orc 3) m3 ⟨[.undef, .i .i64 i1, .undef, .undef, .undef, .i .u64 w5, .i .i64 k6, .undef, .undef, .undef, .undef, .undef, .undef, .undef, .undef, .undef, .undef, .undef, .undef, .undef, .undef, .undef], [], [], [], []⟩
   (blockK 0 (seqK (joinE Tryz.prog md (joinAt ref02_Bit_orc (cAt (bodyOf Tryz.prog 137) [1, 1, 1])) (ev Tryz.prog md n ref02_Bit_orc (cAt (bodyOf Tryz.prog 137) [1, 1, 1]))) (retK Tryz.prog md (md 137) ref02_Bit_ps ref02_Bit_rs ref02_Bit_ts)))
theorem ref02_Bit_l3_succ (n m3 : Nat) (i1 : Int) (w5 : Int) (k6 : Int) : ref02_Bit_l3 n (m3 + 1) i1 w5 k6 =
 .br (!(32 == (0 : Int))) (.br (decide (k6 < (Int.tmod i1 32))) (.br (!(2 == (0 : Int))) (ref02_Bit_l3 n m3 i1 (IntKind.wrap .u64 (Int.tdiv w5 2)) (IntKind.wrap .i64 (k6 + 1))) .fail)
 (.br (!(2 == (0 : Int))) (.ret [D.int (IntKind.wrap .u32 (Int.tmod w5 2))]) .fail)) .fail := by kernel_rfl
theorem ref02_Bit_tree (n : Nat) (a0 : D) (i1 : D) : evFun Tryz.prog md ref02_Bit_orc n 137 [] [a0, i1] =
 .br (!(32 == (0 : Int))) (.call 155 [] [a0, D.int (IntKind.wrap .i64 (Int.tdiv i1.toInt 32))] fun yy1 =>
 ref02_Bit_l3 n n i1.toInt ((yy1.getD 0 D.nil).toInt) 0) .fail := by kernel_rfl

/-! scrim/scrimref02.Sub -/
def ref02_Sub_orc : List (Nat × Orc) := [(6, ⟨[(0, some 42), (1, some 42), (6, none), (7, none), (8, none)], [], [(.slot 6, 1060, 110)]⟩)]
def ref02_Sub_ps : List Nat := [42, 42]
def ref02_Sub_rs : List ResultVar := [.tmp 4, .tmp 5]
def ref02_Sub_ts : List Nat := [42, 4]
noncomputable def ref02_Sub_l6 (n m6 : Nat) (a0 : D) (b1 : D) (out6 : List D) (borrow7 : Int) (i8 : Int) : Tree :=
  evLoop Tryz.prog md (ev Tryz.prog md n ref02_Sub_orc (cAt (bodyOf Tryz.prog 138) [1, 1, 1, 1, 0, 1, 0, 0])) (orcAt ref02_Sub_orc 6) m6 ⟨[.d 42 a0, .d 42 b1, .undef, .undef, .undef, .undef, .row 1060, .i .u64 borrow7, .i .i64 i8, .undef, .undef, .undef, .undef, .undef, .undef, .undef, .undef, .undef, .undef, .undef, .undef, .undef, .undef, .undef, .undef, .undef, .undef, .undef, .undef, .undef, .undef, .undef, .undef, .undef, .undef, .undef, .undef, .undef, .undef, .undef, .undef, .undef], [(1060, .row 110 out6 true)], [1060], [], []⟩
   (blockK 0 (seqK (joinE Tryz.prog md (joinAt ref02_Sub_orc (cAt (bodyOf Tryz.prog 138) [1, 1, 1, 1, 1])) (ev Tryz.prog md n ref02_Sub_orc (cAt (bodyOf Tryz.prog 138) [1, 1, 1, 1, 1]))) (retK Tryz.prog md (md 138) ref02_Sub_ps ref02_Sub_rs ref02_Sub_ts)))
theorem ref02_Sub_l6_succ (n m6 : Nat) (a0 : D) (b1 : D) (out6 : List D) (borrow7 : Int) (i8 : Int) : ref02_Sub_l6 n (m6 + 1) a0 b1 out6 borrow7 i8 =
 .call 154 [] [a0, b1] fun yy2 =>
 .br (decide (i8 < ((yy2.getD 0 D.nil).toInt))) (.call 155 [] [a0, D.int i8] fun yy3 =>
 .call 155 [] [b1, D.int i8] fun yy4 =>
 .br (!(4294967296 == (0 : Int))) (.br (decide (out6.length + [D.int (IntKind.wrap .u32 (Int.tmod (IntKind.wrap .u64 ((IntKind.wrap .u64 ((IntKind.wrap .u64 (4294967296 + ((yy3.getD 0 D.nil).toInt))) - ((yy4.getD 0 D.nil).toInt))) - borrow7)) 4294967296))].length ≤ bigN)) (.br (!(4294967296 == (0 : Int))) (ref02_Sub_l6 n m6 a0 b1 (out6 ++ [D.int (IntKind.wrap .u32 (Int.tmod (IntKind.wrap .u64 ((IntKind.wrap .u64 ((IntKind.wrap .u64 (4294967296 + ((yy3.getD 0 D.nil).toInt))) - ((yy4.getD 0 D.nil).toInt))) - borrow7)) 4294967296))]) (IntKind.wrap .u64 (1 - (IntKind.wrap .u64 (Int.tdiv (IntKind.wrap .u64 ((IntKind.wrap .u64 ((IntKind.wrap .u64 (4294967296 + ((yy3.getD 0 D.nil).toInt))) - ((yy4.getD 0 D.nil).toInt))) - borrow7)) 4294967296)))) (IntKind.wrap .i64 (i8 + 1))) .fail) .fail) .fail)
 (.call 135 [] [D.sl out6] fun yy5 =>
 .ret [yy5.getD 0 D.nil, D.bool true]) := by kernel_rfl
theorem ref02_Sub_tree (n : Nat) (a0 : D) (b1 : D) : evFun Tryz.prog md ref02_Sub_orc n 138 [] [a0, b1] =
 .call 153 [] [a0, b1] fun yy1 =>
 .br (decide (((yy1.getD 0 D.nil).toInt) < 0)) (.ret [D.sl [], D.bool false])
 (ref02_Sub_l6 n n a0 b1 [] 0 0) := by kernel_rfl

/-! scrim/nat.Norm -/
def nat_Norm_orc : List (Nat × Orc) := []
theorem nat_Norm_tree (n : Nat) (a0 : D) : evFun Tryz.prog md nat_Norm_orc n 139 [] [a0] =
 .call 150 [] [a0] fun yy1 =>
 .br (decide (0 ≤ (((yy1.getD 0 D.nil).els).length : Int))) (.br (decide ((((yy1.getD 0 D.nil).els).length : Int) ≤ (((yy1.getD 0 D.nil).els).length : Int))) (.br (decide ((((yy1.getD 0 D.nil).els).length : Int) ≤ bigN)) (.ret [D.sl (((yy1.getD 0 D.nil).els).take (List.replicate (Int.toNat (((yy1.getD 0 D.nil).els).length : Int)) (D.int 0)).length ++ (List.replicate (Int.toNat (((yy1.getD 0 D.nil).els).length : Int)) (D.int 0)).drop ((yy1.getD 0 D.nil).els).length)]) .fail) .fail) .fail := by kernel_rfl

/-! scrim/nat.Cmp -/
def nat_Cmp_orc : List (Nat × Orc) := [(7, ⟨[(0, some 42), (1, some 42), (5, none)], [], []⟩)]
def nat_Cmp_ps : List Nat := [42, 42]
def nat_Cmp_rs : List ResultVar := [.tmp 4]
def nat_Cmp_ts : List Nat := [3]
noncomputable def nat_Cmp_l7 (n m7 : Nat) (a0 : D) (b1 : D) (i5 : Int) : Tree :=
  evLoop Tryz.prog md (ev Tryz.prog md n nat_Cmp_orc (cAt (bodyOf Tryz.prog 142) [1, 1, 1, 0, 1, 0, 0])) (orcAt nat_Cmp_orc 7) m7 ⟨[.d 42 a0, .d 42 b1, .undef, .undef, .undef, .i .i64 i5, .undef, .undef, .undef, .undef, .undef, .undef, .undef, .undef, .undef, .undef, .undef, .undef, .undef, .undef, .undef, .undef, .undef, .undef, .undef, .undef, .undef, .undef, .undef, .undef, .undef, .undef, .undef, .undef, .undef, .undef, .undef, .undef, .undef, .undef, .undef, .undef, .undef, .undef, .undef, .undef, .undef, .undef, .undef], [], [], [], []⟩
   (blockK 1 (seqK (joinE Tryz.prog md (joinAt nat_Cmp_orc (cAt (bodyOf Tryz.prog 142) [1, 1, 1, 1])) (ev Tryz.prog md n nat_Cmp_orc (cAt (bodyOf Tryz.prog 142) [1, 1, 1, 1]))) (retK Tryz.prog md (md 142) nat_Cmp_ps nat_Cmp_rs nat_Cmp_ts)))
theorem nat_Cmp_l7_succ (n m7 : Nat) (a0 : D) (b1 : D) (i5 : Int) : nat_Cmp_l7 n (m7 + 1) a0 b1 i5 =
 .br (decide (0 ≤ i5)) (.br (decide (0 ≤ i5)) (.br (decide (i5 < (a0.els.length : Int))) (.br (decide (0 ≤ i5)) (.br (decide (i5 < (b1.els.length : Int))) (.br (decide (((a0.els.getD (Int.toNat i5) D.nil).toInt) < ((b1.els.getD (Int.toNat i5) D.nil).toInt))) (.ret [D.int (-1)])
 (.br (decide (0 ≤ i5)) (.br (decide (i5 < (a0.els.length : Int))) (.br (decide (0 ≤ i5)) (.br (decide (i5 < (b1.els.length : Int))) (.br (decide (((b1.els.getD (Int.toNat i5) D.nil).toInt) < ((a0.els.getD (Int.toNat i5) D.nil).toInt))) (.ret [D.int 1])
 (nat_Cmp_l7 n m7 a0 b1 (IntKind.wrap .i64 (i5 - 1)))) .fail) .fail) .fail) .fail)) .fail) .fail) .fail) .fail)
 (.ret [D.int 0]) := by kernel_rfl
theorem nat_Cmp_tree (n : Nat) (a0 : D) (b1 : D) : evFun Tryz.prog md nat_Cmp_orc n 142 [] [a0, b1] =
 .call 150 [] [a0] fun yy1 =>
 .call 150 [] [b1] fun yy2 =>
 .br (decide ((((yy1.getD 0 D.nil).els).length : Int) < (((yy2.getD 0 D.nil).els).length : Int))) (.ret [D.int (-1)])
 (.br (decide ((((yy2.getD 0 D.nil).els).length : Int) < (((yy1.getD 0 D.nil).els).length : Int))) (.ret [D.int 1])
 (nat_Cmp_l7 n n (yy1.getD 0 D.nil) (yy2.getD 0 D.nil) (IntKind.wrap .i64 ((((yy1.getD 0 D.nil).els).length : Int) - 1)))) := by kernel_rfl

/-! scrim/nat.DivMod -/
def nat_DivMod_orc : List (Nat × Orc) := []
theorem nat_DivMod_tree (n : Nat) (a0 : D) (b1 : D) : evFun Tryz.prog md nat_DivMod_orc n 143 [] [a0, b1] =
 .call 150 [] [a0] fun yy1 =>
 .call 150 [] [b1] fun yy2 =>
 .br ((((yy2.getD 0 D.nil).els).length : Int) == 0) (.ret [D.sl [], D.sl [], D.bool false])
 (.call 142 [] [yy1.getD 0 D.nil, yy2.getD 0 D.nil] fun yy3 =>
 .br (decide (((yy3.getD 0 D.nil).toInt) < 0)) (.call 139 [] [yy1.getD 0 D.nil] fun yy4 =>
 .ret [D.sl [], D.sl ((yy4.getD 0 D.nil).els), D.bool true])
 (.br ((((yy2.getD 0 D.nil).els).length : Int) == 1) (.call 139 [] [yy1.getD 0 D.nil] fun yy5 =>
 .br (decide (0 ≤ 0)) (.br (decide (0 < (((yy2.getD 0 D.nil).els).length : Int))) (.call 156 [] [D.sl ((yy5.getD 0 D.nil).els), D.int ((((yy2.getD 0 D.nil).els).getD (Int.toNat 0) D.nil).toInt)] fun yy6 =>
 .call 150 [] [D.sl ((yy6.getD 1 D.nil).els)] fun yy7 =>
 .call 139 [] [D.sl [D.int ((yy6.getD 0 D.nil).toInt)]] fun yy8 =>
 .ret [yy7.getD 0 D.nil, D.sl ((yy8.getD 0 D.nil).els), D.bool true]) .fail) .fail)
 (.call 157 [] [yy1.getD 0 D.nil, yy2.getD 0 D.nil] fun yy9 =>
 .ret [yy9.getD 0 D.nil, yy9.getD 1 D.nil, D.bool true]))) := by kernel_rfl

/-! scrim/nat.Mul -/
def nat_Mul_orc : List (Nat × Orc) := [(6, ⟨[(1, some 42), (5, none), (30, some 42), (31, none), (32, none)], [], [(.slot 5, 1060, 110)]⟩), (10, ⟨[(1, some 42), (5, none), (6, none), (7, none), (8, none), (30, some 42), (31, none), (32, none), (37, some 42), (38, none), (39, none)], [], [(.slot 5, 1100, 110)]⟩)]
def nat_Mul_ps : List Nat := [42, 42]
def nat_Mul_rs : List ResultVar := [.tmp 4]
def nat_Mul_ts : List Nat := [42]
noncomputable def nat_Mul_l10 (n m6 m10 : Nat) (b1 : D) (out5 : List D) (i6 : Int) (x7 : Int) (carry8 : Int) (t30 : D) (t31 : Int) (t32 : Int) (t37 : D) (t38 : Int) (t39 : Int) : Tree :=
  evLoop Tryz.prog md (ev Tryz.prog md n nat_Mul_orc (cAt (bodyOf Tryz.prog 144) [1, 1, 1, 1, 0, 1, 0, 0, 1, 1, 0, 0, 1, 1, 0, 1, 0, 0])) (orcAt nat_Mul_orc 10) m10 ⟨[.undef, .d 42 b1, .undef, .undef, .undef, .row 1100, .i .i64 i6, .i .u32 x7, .i .u64 carry8, .undef, .undef, .undef, .undef, .undef, .undef, .undef, .undef, .undef, .undef, .undef, .undef, .undef, .undef, .undef, .undef, .undef, .undef, .undef, .undef, .undef, .d 42 t30, .i .i64 t31, .i .i64 t32, .undef, .undef, .undef, .undef, .d 42 t37, .i .i64 t38, .i .i64 t39, .undef, .undef, .undef, .undef, .undef, .undef, .undef, .undef, .undef, .undef, .undef, .undef, .undef, .undef, .undef, .undef, .undef, .undef, .undef, .undef, .undef, .undef, .undef, .undef, .undef, .undef, .undef, .undef, .undef, .undef, .undef, .undef, .undef, .undef, .undef, .undef, .undef, .undef, .undef, .undef], [(1100, .row 110 out5 true)], [1100], [], []⟩
   (blockK 2 (seqK (joinE Tryz.prog md (joinAt nat_Mul_orc (cAt (bodyOf Tryz.prog 144) [1, 1, 1, 1, 0, 1, 0, 0, 1, 1, 0, 0, 1, 1, 1])) (ev Tryz.prog md n nat_Mul_orc (cAt (bodyOf Tryz.prog 144) [1, 1, 1, 1, 0, 1, 0, 0, 1, 1, 0, 0, 1, 1, 1]))) (blockK 1 (seqK (joinE Tryz.prog md (joinAt nat_Mul_orc (cAt (bodyOf Tryz.prog 144) [1, 1, 1, 1, 0, 1, 0, 0, 1, 1, 1])) (ev Tryz.prog md n nat_Mul_orc (cAt (bodyOf Tryz.prog 144) [1, 1, 1, 1, 0, 1, 0, 0, 1, 1, 1]))) (loopK Tryz.prog md (orcAt nat_Mul_orc 6) (fun s1 => evLoop Tryz.prog md (ev Tryz.prog md n nat_Mul_orc (cAt (bodyOf Tryz.prog 144) [1, 1, 1, 1, 0, 1, 0, 0])) (orcAt nat_Mul_orc 6) m6 s1 (blockK 0 (seqK (joinE Tryz.prog md (joinAt nat_Mul_orc (cAt (bodyOf Tryz.prog 144) [1, 1, 1, 1, 1])) (ev Tryz.prog md n nat_Mul_orc (cAt (bodyOf Tryz.prog 144) [1, 1, 1, 1, 1]))) (retK Tryz.prog md (md 144) nat_Mul_ps nat_Mul_rs nat_Mul_ts)))) (blockK 0 (seqK (joinE Tryz.prog md (joinAt nat_Mul_orc (cAt (bodyOf Tryz.prog 144) [1, 1, 1, 1, 1])) (ev Tryz.prog md n nat_Mul_orc (cAt (bodyOf Tryz.prog 144) [1, 1, 1, 1, 1]))) (retK Tryz.prog md (md 144) nat_Mul_ps nat_Mul_rs nat_Mul_ts))))))))
noncomputable def nat_Mul_l6 (n m6 : Nat) (b1 : D) (out5 : List D) (t30 : D) (t31 : Int) (t32 : Int) : Tree :=
  evLoop Tryz.prog md (ev Tryz.prog md n nat_Mul_orc (cAt (bodyOf Tryz.prog 144) [1, 1, 1, 1, 0, 1, 0, 0])) (orcAt nat_Mul_orc 6) m6 ⟨[.undef, .d 42 b1, .undef, .undef, .undef, .row 1060, .undef, .undef, .undef, .undef, .undef, .undef, .undef, .undef, .undef, .undef, .undef, .undef, .undef, .undef, .undef, .undef, .undef, .undef, .undef, .undef, .undef, .undef, .undef, .undef, .d 42 t30, .i .i64 t31, .i .i64 t32, .undef, .undef, .undef, .undef, .undef, .undef, .undef, .undef, .undef, .undef, .undef, .undef, .undef, .undef, .undef, .undef, .undef, .undef, .undef, .undef, .undef, .undef, .undef, .undef, .undef, .undef, .undef, .undef, .undef, .undef, .undef, .undef, .undef, .undef, .undef, .undef, .undef, .undef, .undef, .undef, .undef, .undef, .undef, .undef, .undef, .undef, .undef], [(1060, .row 110 out5 true)], [1060], [], []⟩
   (blockK 0 (seqK (joinE Tryz.prog md (joinAt nat_Mul_orc (cAt (bodyOf Tryz.prog 144) [1, 1, 1, 1, 1])) (ev Tryz.prog md n nat_Mul_orc (cAt (bodyOf Tryz.prog 144) [1, 1, 1, 1, 1]))) (retK Tryz.prog md (md 144) nat_Mul_ps nat_Mul_rs nat_Mul_ts)))
theorem nat_Mul_l10_succ (n m6 m10 : Nat) (b1 : D) (out5 : List D) (i6 : Int) (x7 : Int) (carry8 : Int) (t30 : D) (t31 : Int) (t32 : Int) (t37 : D) (t38 : Int) (t39 : Int) : nat_Mul_l10 n m6 (m10 + 1) b1 out5 i6 x7 carry8 t30 t31 t32 t37 t38 t39 =
 .br (decide (t39 < t38)) (.br (decide (0 ≤ t39)) (.br (decide (t39 < (t37.els.length : Int))) (.br (decide (0 ≤ IntKind.wrap .i64 (i6 + t39))) (.br (decide (IntKind.wrap .i64 (i6 + t39) < (out5.length : Int))) (.br (decide (0 ≤ IntKind.wrap .i64 (i6 + t39))) (.br (decide (IntKind.wrap .i64 (i6 + t39) < (out5.length : Int))) (.br (decide (0 ≤ 32)) (nat_Mul_l10 n m6 m10 b1 (out5.set (Int.toNat (IntKind.wrap .i64 (i6 + t39))) (D.int (IntKind.wrap .u32 (IntKind.wrap .u64 ((IntKind.wrap .u64 ((IntKind.wrap .u64 ((IntKind.wrap .u64 x7) * (IntKind.wrap .u64 ((t37.els.getD (Int.toNat t39) D.nil).toInt)))) + (IntKind.wrap .u64 ((out5.getD (Int.toNat (IntKind.wrap .i64 (i6 + t39))) D.nil).toInt)))) + carry8))))) i6 x7 (Int.fdiv (IntKind.wrap .u64 ((IntKind.wrap .u64 ((IntKind.wrap .u64 ((IntKind.wrap .u64 x7) * (IntKind.wrap .u64 ((t37.els.getD (Int.toNat t39) D.nil).toInt)))) + (IntKind.wrap .u64 ((out5.getD (Int.toNat (IntKind.wrap .i64 (i6 + t39))) D.nil).toInt)))) + carry8)) (2 ^ (min (Int.toNat 32) (IntKind.bits .u64)))) t30 t31 t32 t37 t38 (IntKind.wrap .i64 (t39 + 1))) .fail) .fail) .fail) .fail) .fail) .fail) .fail)
 (.br (decide (0 ≤ IntKind.wrap .i64 (i6 + (b1.els.length : Int)))) (.br (decide (IntKind.wrap .i64 (i6 + (b1.els.length : Int)) < (out5.length : Int))) (nat_Mul_l6 n m6 b1 (out5.set (Int.toNat (IntKind.wrap .i64 (i6 + (b1.els.length : Int)))) (D.int (IntKind.wrap .u32 carry8))) t30 t31 (IntKind.wrap .i64 (t32 + 1))) .fail) .fail) := by kernel_rfl
theorem nat_Mul_l6_succ (n m6 : Nat) (b1 : D) (out5 : List D) (t30 : D) (t31 : Int) (t32 : Int) : nat_Mul_l6 n (m6 + 1) b1 out5 t30 t31 t32 =
 .br (decide (t32 < t31)) (.br (decide (0 ≤ t32)) (.br (decide (t32 < (t30.els.length : Int))) (nat_Mul_l10 n m6 n b1 out5 t32 ((t30.els.getD (Int.toNat t32) D.nil).toInt) 0 t30 t31 t32 b1 (b1.els.length : Int) 0) .fail) .fail)
 (.call 150 [] [D.sl out5] fun yy3 =>
 .ret [yy3.getD 0 D.nil]) := by kernel_rfl
theorem nat_Mul_tree (n : Nat) (a0 : D) (b1 : D) : evFun Tryz.prog md nat_Mul_orc n 144 [] [a0, b1] =
 .call 150 [] [a0] fun yy1 =>
 .call 150 [] [b1] fun yy2 =>
 .br ((((yy1.getD 0 D.nil).els).length : Int) == 0) (.ret [D.sl []])
 (.br ((((yy2.getD 0 D.nil).els).length : Int) == 0) (.ret [D.sl []])
 (.br (decide (0 ≤ IntKind.wrap .i64 ((((yy1.getD 0 D.nil).els).length : Int) + (((yy2.getD 0 D.nil).els).length : Int)))) (.br (decide (IntKind.wrap .i64 ((((yy1.getD 0 D.nil).els).length : Int) + (((yy2.getD 0 D.nil).els).length : Int)) ≤ IntKind.wrap .i64 ((((yy1.getD 0 D.nil).els).length : Int) + (((yy2.getD 0 D.nil).els).length : Int)))) (.br (decide (IntKind.wrap .i64 ((((yy1.getD 0 D.nil).els).length : Int) + (((yy2.getD 0 D.nil).els).length : Int)) ≤ bigN)) (nat_Mul_l6 n n (yy2.getD 0 D.nil) (List.replicate (Int.toNat (IntKind.wrap .i64 ((((yy1.getD 0 D.nil).els).length : Int) + (((yy2.getD 0 D.nil).els).length : Int)))) (D.int 0)) (yy1.getD 0 D.nil) (((yy1.getD 0 D.nil).els).length : Int) 0) .fail) .fail) .fail)) := by kernel_rfl

/-! scrim/scrimref02.Mul -/
def ref02_Mul_orc : List (Nat × Orc) := [(3, ⟨[(0, some 42), (1, some 42), (5, some 42), (6, none)], [], []⟩)]
def ref02_Mul_ps : List Nat := [42, 42]
def ref02_Mul_rs : List ResultVar := [.tmp 4]
def ref02_Mul_ts : List Nat := [42]
noncomputable def ref02_Mul_l3 (n m3 : Nat) (a0 : D) (b1 : D) (out5 : D) (i6 : Int) : Tree :=
  evLoop Tryz.prog md (ev Tryz.prog md n ref02_Mul_orc (cAt (bodyOf Tryz.prog 147) [1, 1, 0, 1, 0, 0])) (orcAt ref02_Mul_orc 3) m3 ⟨[.d 42 a0, .d 42 b1, .undef, .undef, .undef, .d 42 out5, .i .i64 i6, .undef, .undef, .undef, .undef, .undef, .undef, .undef, .undef, .undef, .undef, .undef, .undef, .undef, .undef, .undef, .undef, .undef, .undef], [], [], [], []⟩
   (blockK 0 (seqK (joinE Tryz.prog md (joinAt ref02_Mul_orc (cAt (bodyOf Tryz.prog 147) [1, 1, 1])) (ev Tryz.prog md n ref02_Mul_orc (cAt (bodyOf Tryz.prog 147) [1, 1, 1]))) (retK Tryz.prog md (md 147) ref02_Mul_ps ref02_Mul_rs ref02_Mul_ts)))
theorem ref02_Mul_l3_succ (n m3 : Nat) (a0 : D) (b1 : D) (out5 : D) (i6 : Int) : ref02_Mul_l3 n (m3 + 1) a0 b1 out5 i6 =
 .br (decide (0 ≤ i6)) (.call 136 [] [out5, D.int 0] fun yy1 =>
 .call 137 [] [a0, D.int i6] fun yy2 =>
 .br (((yy2.getD 0 D.nil).toInt) == 1) (.call 134 [] [yy1.getD 0 D.nil, b1] fun yy3 =>
 ref02_Mul_l3 n m3 a0 b1 (yy3.getD 0 D.nil) (IntKind.wrap .i64 (i6 - 1)))
 (ref02_Mul_l3 n m3 a0 b1 (yy1.getD 0 D.nil) (IntKind.wrap .i64 (i6 - 1))))
 (.ret [out5]) := by kernel_rfl
theorem ref02_Mul_tree (n : Nat) (a0 : D) (b1 : D) : evFun Tryz.prog md ref02_Mul_orc n 147 [] [a0, b1] =
 ref02_Mul_l3 n n a0 b1 (D.sl []) (IntKind.wrap .i64 ((IntKind.wrap .i64 (32 * (a0.els.length : Int))) - 1)) := by kernel_rfl

/-! scrim/nat.Add -/
def nat_Add_orc : List (Nat × Orc) := [(8, ⟨[(1, some 42), (5, none), (6, none), (30, none), (31, none)], [], [(.slot 5, 1080, 110)]⟩)]
def nat_Add_ps : List Nat := [42, 42]
def nat_Add_rs : List ResultVar := [.tmp 4]
def nat_Add_ts : List Nat := [42]
noncomputable def nat_Add_l8 (n m8 : Nat) (b1 : D) (out5 : List D) (carry6 : Int) (t30 : Int) (t31 : Int) : Tree :=
  evLoop Tryz.prog md (ev Tryz.prog md n nat_Add_orc (cAt (bodyOf Tryz.prog 148) [1, 1, 1, 1, 1, 1, 0, 1, 0, 0])) (orcAt nat_Add_orc 8) m8 ⟨[.undef, .d 42 b1, .undef, .undef, .undef, .row 1080, .i .u32 carry6, .undef, .undef, .undef, .undef, .undef, .undef, .undef, .undef, .undef, .undef, .undef, .undef, .undef, .undef, .undef, .undef, .undef, .undef, .undef, .undef, .undef, .undef, .undef, .i .i64 t30, .i .i64 t31, .undef, .undef, .undef, .undef, .undef, .undef, .undef, .undef, .undef, .undef, .undef, .undef, .undef, .undef, .undef, .undef, .undef, .undef, .undef, .undef, .undef, .undef, .undef, .undef, .undef, .undef, .undef, .undef, .undef, .undef, .undef, .undef, .undef], [(1080, .row 110 out5 true)], [1080], [], []⟩
   (blockK 0 (seqK (joinE Tryz.prog md (joinAt nat_Add_orc (cAt (bodyOf Tryz.prog 148) [1, 1, 1, 1, 1, 1, 1])) (ev Tryz.prog md n nat_Add_orc (cAt (bodyOf Tryz.prog 148) [1, 1, 1, 1, 1, 1, 1]))) (retK Tryz.prog md (md 148) nat_Add_ps nat_Add_rs nat_Add_ts)))
theorem nat_Add_l8_succ (n m8 : Nat) (b1 : D) (out5 : List D) (carry6 : Int) (t30 : Int) (t31 : Int) : nat_Add_l8 n (m8 + 1) b1 out5 carry6 t30 t31 =
 .br (decide (t31 < t30)) (.br (decide (t31 < (b1.els.length : Int))) (.br (decide (0 ≤ t31)) (.br (decide (t31 < (b1.els.length : Int))) (.br (decide (0 ≤ t31)) (.br (decide (t31 < (out5.length : Int))) (.call 158 [] [D.int ((out5.getD (Int.toNat t31) D.nil).toInt), D.int ((b1.els.getD (Int.toNat t31) D.nil).toInt), D.int carry6] fun yy3 =>
 .br (decide (0 ≤ t31)) (.br (decide (t31 < (out5.length : Int))) (nat_Add_l8 n m8 b1 (out5.set (Int.toNat t31) (D.int ((yy3.getD 0 D.nil).toInt))) ((yy3.getD 1 D.nil).toInt) t30 (IntKind.wrap .i64 (t31 + 1))) .fail) .fail) .fail) .fail) .fail) .fail)
 (.br (carry6 == 0) (.br (carry6 != 0) (.br (decide (out5.length + [D.int carry6].length ≤ bigN)) (.ret [D.sl (out5 ++ [D.int carry6])]) .fail)
 (.ret [D.sl out5]))
 (.br (decide (0 ≤ t31)) (.br (decide (t31 < (out5.length : Int))) (.call 158 [] [D.int ((out5.getD (Int.toNat t31) D.nil).toInt), D.int 0, D.int carry6] fun yy4 =>
 .br (decide (0 ≤ t31)) (.br (decide (t31 < (out5.length : Int))) (nat_Add_l8 n m8 b1 (out5.set (Int.toNat t31) (D.int ((yy4.getD 0 D.nil).toInt))) ((yy4.getD 1 D.nil).toInt) t30 (IntKind.wrap .i64 (t31 + 1))) .fail) .fail) .fail) .fail)))
 (.br (carry6 != 0) (.br (decide (out5.length + [D.int carry6].length ≤ bigN)) (.ret [D.sl (out5 ++ [D.int carry6])]) .fail)
 (.ret [D.sl out5])) := by kernel_rfl
theorem nat_Add_tree (n : Nat) (a0 : D) (b1 : D) : evFun Tryz.prog md nat_Add_orc n 148 [] [a0, b1] =
 .call 150 [] [a0] fun yy1 =>
 .call 150 [] [b1] fun yy2 =>
 .br (decide ((((yy1.getD 0 D.nil).els).length : Int) < (((yy2.getD 0 D.nil).els).length : Int))) (.br (decide (0 ≤ (((yy2.getD 0 D.nil).els).length : Int))) (.br (decide ((((yy2.getD 0 D.nil).els).length : Int) ≤ IntKind.wrap .i64 ((((yy2.getD 0 D.nil).els).length : Int) + 1))) (.br (decide (IntKind.wrap .i64 ((((yy2.getD 0 D.nil).els).length : Int) + 1) ≤ bigN)) (nat_Add_l8 n n (yy1.getD 0 D.nil) (((yy2.getD 0 D.nil).els).take (List.replicate (Int.toNat (((yy2.getD 0 D.nil).els).length : Int)) (D.int 0)).length ++ (List.replicate (Int.toNat (((yy2.getD 0 D.nil).els).length : Int)) (D.int 0)).drop ((yy2.getD 0 D.nil).els).length) 0 ((((yy2.getD 0 D.nil).els).take (List.replicate (Int.toNat (((yy2.getD 0 D.nil).els).length : Int)) (D.int 0)).length ++ (List.replicate (Int.toNat (((yy2.getD 0 D.nil).els).length : Int)) (D.int 0)).drop ((yy2.getD 0 D.nil).els).length).length : Int) 0) .fail) .fail) .fail)
 (.br (decide (0 ≤ (((yy1.getD 0 D.nil).els).length : Int))) (.br (decide ((((yy1.getD 0 D.nil).els).length : Int) ≤ IntKind.wrap .i64 ((((yy1.getD 0 D.nil).els).length : Int) + 1))) (.br (decide (IntKind.wrap .i64 ((((yy1.getD 0 D.nil).els).length : Int) + 1) ≤ bigN)) (nat_Add_l8 n n (yy2.getD 0 D.nil) (((yy1.getD 0 D.nil).els).take (List.replicate (Int.toNat (((yy1.getD 0 D.nil).els).length : Int)) (D.int 0)).length ++ (List.replicate (Int.toNat (((yy1.getD 0 D.nil).els).length : Int)) (D.int 0)).drop ((yy1.getD 0 D.nil).els).length) 0 ((((yy1.getD 0 D.nil).els).take (List.replicate (Int.toNat (((yy1.getD 0 D.nil).els).length : Int)) (D.int 0)).length ++ (List.replicate (Int.toNat (((yy1.getD 0 D.nil).els).length : Int)) (D.int 0)).drop ((yy1.getD 0 D.nil).els).length).length : Int) 0) .fail) .fail) .fail) := by kernel_rfl

/-! scrim/nat.Sub -/
def nat_Sub_orc : List (Nat × Orc) := [(6, ⟨[(1, some 42), (6, none), (7, none), (19, none), (20, none)], [], [(.slot 6, 1060, 110)]⟩)]
def nat_Sub_ps : List Nat := [42, 42]
def nat_Sub_rs : List ResultVar := [.tmp 4, .tmp 5]
def nat_Sub_ts : List Nat := [42, 4]
noncomputable def nat_Sub_l6 (n m6 : Nat) (b1 : D) (out6 : List D) (borrow7 : Int) (t19 : Int) (t20 : Int) : Tree :=
  evLoop Tryz.prog md (ev Tryz.prog md n nat_Sub_orc (cAt (bodyOf Tryz.prog 149) [1, 1, 1, 1, 0, 1, 0, 0])) (orcAt nat_Sub_orc 6) m6 ⟨[.undef, .d 42 b1, .undef, .undef, .undef, .undef, .row 1060, .i .u32 borrow7, .undef, .undef, .undef, .undef, .undef, .undef, .undef, .undef, .undef, .undef, .undef, .i .i64 t19, .i .i64 t20, .undef, .undef, .undef, .undef, .undef, .undef, .undef, .undef, .undef, .undef, .undef, .undef, .undef, .undef, .undef, .undef, .undef, .undef, .undef, .undef, .undef, .undef, .undef, .undef, .undef, .undef, .undef, .undef], [(1060, .row 110 out6 true)], [1060], [], []⟩
   (blockK 0 (seqK (joinE Tryz.prog md (joinAt nat_Sub_orc (cAt (bodyOf Tryz.prog 149) [1, 1, 1, 1, 1])) (ev Tryz.prog md n nat_Sub_orc (cAt (bodyOf Tryz.prog 149) [1, 1, 1, 1, 1]))) (retK Tryz.prog md (md 149) nat_Sub_ps nat_Sub_rs nat_Sub_ts)))
theorem nat_Sub_l6_succ (n m6 : Nat) (b1 : D) (out6 : List D) (borrow7 : Int) (t19 : Int) (t20 : Int) : nat_Sub_l6 n (m6 + 1) b1 out6 borrow7 t19 t20 =
 .br (decide (t20 < t19)) (.br (decide (t20 < (b1.els.length : Int))) (.br (decide (0 ≤ t20)) (.br (decide (t20 < (b1.els.length : Int))) (.br (decide (0 ≤ t20)) (.br (decide (t20 < (out6.length : Int))) (.call 159 [] [D.int ((out6.getD (Int.toNat t20) D.nil).toInt), D.int ((b1.els.getD (Int.toNat t20) D.nil).toInt), D.int borrow7] fun yy4 =>
 .br (decide (0 ≤ t20)) (.br (decide (t20 < (out6.length : Int))) (nat_Sub_l6 n m6 b1 (out6.set (Int.toNat t20) (D.int ((yy4.getD 0 D.nil).toInt))) ((yy4.getD 1 D.nil).toInt) t19 (IntKind.wrap .i64 (t20 + 1))) .fail) .fail) .fail) .fail) .fail) .fail)
 (.br (borrow7 == 0) (.call 150 [] [D.sl out6] fun yy5 =>
 .ret [yy5.getD 0 D.nil, D.bool true])
 (.br (decide (0 ≤ t20)) (.br (decide (t20 < (out6.length : Int))) (.call 159 [] [D.int ((out6.getD (Int.toNat t20) D.nil).toInt), D.int 0, D.int borrow7] fun yy6 =>
 .br (decide (0 ≤ t20)) (.br (decide (t20 < (out6.length : Int))) (nat_Sub_l6 n m6 b1 (out6.set (Int.toNat t20) (D.int ((yy6.getD 0 D.nil).toInt))) ((yy6.getD 1 D.nil).toInt) t19 (IntKind.wrap .i64 (t20 + 1))) .fail) .fail) .fail) .fail)))
 (.call 150 [] [D.sl out6] fun yy7 =>
 .ret [yy7.getD 0 D.nil, D.bool true]) := by kernel_rfl
theorem nat_Sub_tree (n : Nat) (a0 : D) (b1 : D) : evFun Tryz.prog md nat_Sub_orc n 149 [] [a0, b1] =
 .call 142 [] [a0, b1] fun yy1 =>
 .br (decide (((yy1.getD 0 D.nil).toInt) < 0)) (.ret [D.sl [], D.bool false])
 (.call 139 [] [a0] fun yy2 =>
 .call 150 [] [b1] fun yy3 =>
 nat_Sub_l6 n n (yy3.getD 0 D.nil) ((yy2.getD 0 D.nil).els) 0 (((yy2.getD 0 D.nil).els).length : Int) 0) := by kernel_rfl

/-! scrim/nat.trim -/
def nat_trim_orc : List (Nat × Orc) := [(2, ⟨[(0, some 42), (3, none)], [], []⟩)]
def nat_trim_ps : List Nat := [42]
def nat_trim_rs : List ResultVar := [.tmp 2]
def nat_trim_ts : List Nat := [42]
noncomputable def nat_trim_l2 (n m2 : Nat) (a0 : D) (n3 : Int) : Tree :=
  evLoop Tryz.prog md (ev Tryz.prog md n nat_trim_orc (cAt (bodyOf Tryz.prog 150) [1, 1, 0, 0, 0])) (orcAt nat_trim_orc 2) m2 ⟨[.d 42 a0, .undef, .undef, .i .i64 n3, .undef, .undef, .undef, .undef, .undef, .undef, .undef, .undef, .undef, .undef, .undef, .undef, .undef, .undef, .undef, .undef, .undef, .undef], [], [], [], []⟩
   (blockK 0 (seqK (joinE Tryz.prog md (joinAt nat_trim_orc (cAt (bodyOf Tryz.prog 150) [1, 1, 1])) (ev Tryz.prog md n nat_trim_orc (cAt (bodyOf Tryz.prog 150) [1, 1, 1]))) (retK Tryz.prog md (md 150) nat_trim_ps nat_trim_rs nat_trim_ts)))
theorem nat_trim_l2_succ (n m2 : Nat) (a0 : D) (n3 : Int) : nat_trim_l2 n (m2 + 1) a0 n3 =
 .br (decide (0 < n3)) (.br (decide (0 ≤ IntKind.wrap .i64 (n3 - 1))) (.br (decide (IntKind.wrap .i64 (n3 - 1) < (a0.els.length : Int))) (.br (((a0.els.getD (Int.toNat (IntKind.wrap .i64 (n3 - 1))) D.nil).toInt) == 0) (nat_trim_l2 n m2 a0 (IntKind.wrap .i64 (n3 - 1)))
 (.br (decide (0 ≤ n3)) (.br (decide (n3 ≤ n3)) (.br (decide (n3 ≤ (a0.els.length : Int))) (.ret [D.sl (a0.els.take (Int.toNat n3))]) .fail) .fail) .fail)) .fail) .fail)
 (.br (decide (0 ≤ n3)) (.br (decide (n3 ≤ n3)) (.br (decide (n3 ≤ (a0.els.length : Int))) (.ret [D.sl (a0.els.take (Int.toNat n3))]) .fail) .fail) .fail) := by kernel_rfl
theorem nat_trim_tree (n : Nat) (a0 : D) : evFun Tryz.prog md nat_trim_orc n 150 [] [a0] =
 nat_trim_l2 n n a0 (a0.els.length : Int) := by kernel_rfl

/-! scrim/nat.small -/
def nat_small_orc : List (Nat × Orc) := [(1, ⟨[(0, none), (1, none)], [], []⟩)]
def nat_small_ps : List Nat := [22, 22]
def nat_small_rs : List ResultVar := [.tmp 4]
def nat_small_ts : List Nat := [42]
noncomputable def nat_small_l1 (n m1 : Nat) (a0 : Int) (b1 : Int) : Tree :=
  evLoop Tryz.prog md (ev Tryz.prog md n nat_small_orc (cAt (bodyOf Tryz.prog 151) [1, 0, 0, 0])) (orcAt nat_small_orc 1) m1 ⟨[.i .u64 a0, .i .u64 b1, .undef, .undef, .undef, .undef, .undef, .undef, .undef, .undef, .undef, .undef, .undef, .undef, .undef, .undef, .undef, .undef], [], [], [], []⟩
   (blockK 0 (seqK (joinE Tryz.prog md (joinAt nat_small_orc (cAt (bodyOf Tryz.prog 151) [1, 1])) (ev Tryz.prog md n nat_small_orc (cAt (bodyOf Tryz.prog 151) [1, 1]))) (retK Tryz.prog md (md 151) nat_small_ps nat_small_rs nat_small_ts)))
theorem nat_small_l1_succ (n m1 : Nat) (a0 : Int) (b1 : Int) : nat_small_l1 n (m1 + 1) a0 b1 =
 .br (b1 != 0) (.br (!(b1 == (0 : Int))) (nat_small_l1 n m1 b1 (Int.tmod a0 b1)) .fail)
 (.br (decide (0 ≤ 32)) (.call 139 [] [D.sl [D.int (IntKind.wrap .u32 a0), D.int (IntKind.wrap .u32 (Int.fdiv a0 (2 ^ (min (Int.toNat 32) (IntKind.bits .u64)))))]] fun yy1 =>
 .ret [D.sl ((yy1.getD 0 D.nil).els)]) .fail) := by kernel_rfl
theorem nat_small_tree (n : Nat) (a0 : D) (b1 : D) : evFun Tryz.prog md nat_small_orc n 151 [] [a0, b1] =
 nat_small_l1 n n a0.toInt b1.toInt := by kernel_rfl

/-! scrim/nat.word -/
def nat_word_orc : List (Nat × Orc) := [(3, ⟨[(3, none), (6, some 42), (7, none), (8, none)], [], []⟩)]
def nat_word_ps : List Nat := [42]
def nat_word_rs : List ResultVar := [.tmp 2]
def nat_word_ts : List Nat := [22]
noncomputable def nat_word_l3 (n m3 : Nat) (out3 : Int) (t6 : D) (t7 : Int) (t8 : Int) : Tree :=
  evLoop Tryz.prog md (ev Tryz.prog md n nat_word_orc (cAt (bodyOf Tryz.prog 152) [1, 1, 0, 1, 0, 0])) (orcAt nat_word_orc 3) m3 ⟨[.undef, .undef, .undef, .i .u64 out3, .undef, .undef, .d 42 t6, .i .i64 t7, .i .i64 t8, .undef, .undef, .undef, .undef, .undef, .undef, .undef, .undef, .undef, .undef, .undef, .undef, .undef, .undef], [], [], [], []⟩
   (blockK 0 (seqK (joinE Tryz.prog md (joinAt nat_word_orc (cAt (bodyOf Tryz.prog 152) [1, 1, 1])) (ev Tryz.prog md n nat_word_orc (cAt (bodyOf Tryz.prog 152) [1, 1, 1]))) (retK Tryz.prog md (md 152) nat_word_ps nat_word_rs nat_word_ts)))
theorem nat_word_l3_succ (n m3 : Nat) (out3 : Int) (t6 : D) (t7 : Int) (t8 : Int) : nat_word_l3 n (m3 + 1) out3 t6 t7 t8 =
 .br (decide (t8 < t7)) (.br (decide (0 ≤ t8)) (.br (decide (t8 < (t6.els.length : Int))) (.br (decide (0 ≤ IntKind.wrap .u64 (IntKind.wrap .i64 (32 * t8)))) (nat_word_l3 n m3 (bits_ .or .u64 out3 (IntKind.wrap .u64 ((IntKind.wrap .u64 ((t6.els.getD (Int.toNat t8) D.nil).toInt)) * 2 ^ (min (Int.toNat (IntKind.wrap .u64 (IntKind.wrap .i64 (32 * t8)))) (IntKind.bits .u64))))) t6 t7 (IntKind.wrap .i64 (t8 + 1))) .fail) .fail) .fail)
 (.ret [D.int out3]) := by kernel_rfl
theorem nat_word_tree (n : Nat) (a0 : D) : evFun Tryz.prog md nat_word_orc n 152 [] [a0] =
 nat_word_l3 n n 0 a0 (a0.els.length : Int) 0 := by kernel_rfl

/-! scrim/scrimref02.Cmp -/
def ref02_Cmp_orc : List (Nat × Orc) := [(2, ⟨[(0, some 42), (1, some 42), (5, none)], [], []⟩)]
def ref02_Cmp_ps : List Nat := [42, 42]
def ref02_Cmp_rs : List ResultVar := [.tmp 4]
def ref02_Cmp_ts : List Nat := [3]
noncomputable def ref02_Cmp_l2 (n m2 : Nat) (a0 : D) (b1 : D) (i5 : Int) : Tree :=
  evLoop Tryz.prog md (ev Tryz.prog md n ref02_Cmp_orc (cAt (bodyOf Tryz.prog 153) [1, 0, 1, 0, 0])) (orcAt ref02_Cmp_orc 2) m2 ⟨[.d 42 a0, .d 42 b1, .undef, .undef, .undef, .i .i64 i5, .undef, .undef, .undef, .undef, .undef, .undef, .undef, .undef, .undef, .undef, .undef, .undef, .undef, .undef, .undef, .undef, .undef, .undef, .undef, .undef, .undef, .undef], [], [], [], []⟩
   (blockK 0 (seqK (joinE Tryz.prog md (joinAt ref02_Cmp_orc (cAt (bodyOf Tryz.prog 153) [1, 1])) (ev Tryz.prog md n ref02_Cmp_orc (cAt (bodyOf Tryz.prog 153) [1, 1]))) (retK Tryz.prog md (md 153) ref02_Cmp_ps ref02_Cmp_rs ref02_Cmp_ts)))
theorem ref02_Cmp_l2_succ (n m2 : Nat) (a0 : D) (b1 : D) (i5 : Int) : ref02_Cmp_l2 n (m2 + 1) a0 b1 i5 =
 .br (decide (0 ≤ i5)) (.call 155 [] [a0, D.int i5] fun yy2 =>
 .call 155 [] [b1, D.int i5] fun yy3 =>
 .br (decide (((yy2.getD 0 D.nil).toInt) < ((yy3.getD 0 D.nil).toInt))) (.ret [D.int (-1)])
 (.call 155 [] [a0, D.int i5] fun yy4 =>
 .call 155 [] [b1, D.int i5] fun yy5 =>
 .br (decide (((yy5.getD 0 D.nil).toInt) < ((yy4.getD 0 D.nil).toInt))) (.ret [D.int 1])
 (ref02_Cmp_l2 n m2 a0 b1 (IntKind.wrap .i64 (i5 - 1)))))
 (.ret [D.int 0]) := by kernel_rfl
theorem ref02_Cmp_tree (n : Nat) (a0 : D) (b1 : D) : evFun Tryz.prog md ref02_Cmp_orc n 153 [] [a0, b1] =
 .call 154 [] [a0, b1] fun yy1 =>
 ref02_Cmp_l2 n n a0 b1 (IntKind.wrap .i64 (((yy1.getD 0 D.nil).toInt) - 1)) := by kernel_rfl

/-! scrim/scrimref02.longer -/
def ref02_longer_orc : List (Nat × Orc) := []
theorem ref02_longer_tree (n : Nat) (a0 : D) (b1 : D) : evFun Tryz.prog md ref02_longer_orc n 154 [] [a0, b1] =
 .br (decide ((b1.els.length : Int) < (a0.els.length : Int))) (.ret [D.int (a0.els.length : Int)])
 (.ret [D.int (b1.els.length : Int)]) := by kernel_rfl

/-! scrim/scrimref02.limb -/
def ref02_limb_orc : List (Nat × Orc) := []
theorem ref02_limb_tree (n : Nat) (a0 : D) (i1 : D) : evFun Tryz.prog md ref02_limb_orc n 155 [] [a0, i1] =
 .br (decide (i1.toInt < (a0.els.length : Int))) (.br (decide (0 ≤ i1.toInt)) (.br (decide (i1.toInt < (a0.els.length : Int))) (.ret [D.int (IntKind.wrap .u64 ((a0.els.getD (Int.toNat i1.toInt) D.nil).toInt))]) .fail) .fail)
 (.ret [D.int 0]) := by kernel_rfl

/-! scrim/nat.shorten -/
def nat_shorten_orc : List (Nat × Orc) := [(3, ⟨[(0, none), (1, none), (5, none), (6, none)], [], [(.slot 0, 0, 110)]⟩)]
def nat_shorten_ps : List Nat := [42, 110]
def nat_shorten_rs : List ResultVar := [.tmp 4]
def nat_shorten_ts : List Nat := [110]
noncomputable def nat_shorten_l3 (n m3 : Nat) (a0 : List D) (by1 : Int) (rest5 : Int) (i6 : Int) : Tree :=
  evLoop Tryz.prog md (ev Tryz.prog md n nat_shorten_orc (cAt (bodyOf Tryz.prog 156) [1, 1, 0, 1, 0, 0])) (orcAt nat_shorten_orc 3) m3 ⟨[.row 0, .i .u32 by1, .undef, .undef, .undef, .i .u64 rest5, .i .i64 i6, .undef, .undef, .undef, .undef, .undef, .undef, .undef, .undef, .undef, .undef, .undef, .undef, .undef, .undef, .undef, .undef, .undef, .undef, .undef, .undef, .undef, .undef, .undef, .undef, .undef, .undef, .undef, .undef, .undef], [(0, .row 110 a0 true)], [0], [], [0]⟩
   (blockK 0 (seqK (joinE Tryz.prog md (joinAt nat_shorten_orc (cAt (bodyOf Tryz.prog 156) [1, 1, 1])) (ev Tryz.prog md n nat_shorten_orc (cAt (bodyOf Tryz.prog 156) [1, 1, 1]))) (retK Tryz.prog md (md 156) nat_shorten_ps nat_shorten_rs nat_shorten_ts)))
theorem nat_shorten_l3_succ (n m3 : Nat) (a0 : List D) (by1 : Int) (rest5 : Int) (i6 : Int) : nat_shorten_l3 n (m3 + 1) a0 by1 rest5 i6 =
 .br (decide (0 ≤ i6)) (.br (decide (0 ≤ 32)) (.br (decide (0 ≤ i6)) (.br (decide (i6 < (a0.length : Int))) (.br (!((IntKind.wrap .u64 by1) == (0 : Int))) (.br (decide (0 ≤ i6)) (.br (decide (i6 < (a0.length : Int))) (.br (!((IntKind.wrap .u64 by1) == (0 : Int))) (nat_shorten_l3 n m3 (a0.set (Int.toNat i6) (D.int (IntKind.wrap .u32 (IntKind.wrap .u64 (Int.tdiv (bits_ .or .u64 (IntKind.wrap .u64 (rest5 * 2 ^ (min (Int.toNat 32) (IntKind.bits .u64)))) (IntKind.wrap .u64 ((a0.getD (Int.toNat i6) D.nil).toInt))) (IntKind.wrap .u64 by1)))))) by1 (Int.tmod (bits_ .or .u64 (IntKind.wrap .u64 (rest5 * 2 ^ (min (Int.toNat 32) (IntKind.bits .u64)))) (IntKind.wrap .u64 ((a0.getD (Int.toNat i6) D.nil).toInt))) (IntKind.wrap .u64 by1)) (IntKind.wrap .i64 (i6 - 1))) .fail) .fail) .fail) .fail) .fail) .fail) .fail)
 (.ret [D.int (IntKind.wrap .u32 rest5), D.sl a0]) := by kernel_rfl
theorem nat_shorten_tree (n : Nat) (a0 : D) (by1 : D) : evFun Tryz.prog md nat_shorten_orc n 156 [] [a0, by1] =
 nat_shorten_l3 n n a0.els by1.toInt 0 (IntKind.wrap .i64 ((a0.els.length : Int) - 1)) := by kernel_rfl

/-! math/bits.Add32 -/
def bits_Add32_orc : List (Nat × Orc) := []
theorem bits_Add32_tree (n : Nat) (x0 : D) (y1 : D) (carry2 : D) : evFun Tryz.prog md bits_Add32_orc n 158 [] [x0, y1, carry2] =
 .br (decide (0 ≤ 32)) (.ret [D.int (IntKind.wrap .u32 (IntKind.wrap .u64 ((IntKind.wrap .u64 ((IntKind.wrap .u64 x0.toInt) + (IntKind.wrap .u64 y1.toInt))) + (IntKind.wrap .u64 carry2.toInt)))), D.int (IntKind.wrap .u32 (Int.fdiv (IntKind.wrap .u64 ((IntKind.wrap .u64 ((IntKind.wrap .u64 x0.toInt) + (IntKind.wrap .u64 y1.toInt))) + (IntKind.wrap .u64 carry2.toInt))) (2 ^ (min (Int.toNat 32) (IntKind.bits .u64)))))]) .fail := by kernel_rfl

/-! math/bits.Sub32 -/
def bits_Sub32_orc : List (Nat × Orc) := []
theorem bits_Sub32_tree (n : Nat) (x0 : D) (y1 : D) (borrow2 : D) : evFun Tryz.prog md bits_Sub32_orc n 159 [] [x0, y1, borrow2] =
 .br (decide (0 ≤ 31)) (.ret [D.int (IntKind.wrap .u32 ((IntKind.wrap .u32 (x0.toInt - y1.toInt)) - borrow2.toInt)), D.int (Int.fdiv (bits_ .or .u32 (bits_ .and .u32 (bits_ .xor .u32 (IntKind.max .u32) x0.toInt) y1.toInt) (bits_ .and .u32 (bits_ .xor .u32 (IntKind.max .u32) (bits_ .xor .u32 x0.toInt y1.toInt)) (IntKind.wrap .u32 ((IntKind.wrap .u32 (x0.toInt - y1.toInt)) - borrow2.toInt)))) (2 ^ (min (Int.toNat 31) (IntKind.bits .u32))))]) .fail := by kernel_rfl

/-! math/bits.LeadingZeros32 -/
def bits_LeadingZeros32_orc : List (Nat × Orc) := []
theorem bits_LeadingZeros32_tree (n : Nat) (x0 : D) : evFun Tryz.prog md bits_LeadingZeros32_orc n 160 [] [x0] =
 .call 166 [] [D.int x0.toInt] fun yy1 =>
 .ret [D.int (IntKind.wrap .i64 (32 - ((yy1.getD 0 D.nil).toInt)))] := by kernel_rfl

/-! scrim/nat.up -/
def nat_up_orc : List (Nat × Orc) := [(4, ⟨[(0, some 42), (1, none), (5, none), (6, none), (14, some 42), (15, none), (16, none)], [], [(.slot 5, 1040, 110)]⟩)]
def nat_up_ps : List Nat := [42, 3]
def nat_up_rs : List ResultVar := [.tmp 4]
def nat_up_ts : List Nat := [42]
noncomputable def nat_up_l4 (n m4 : Nat) (a0 : D) (shift1 : Int) (out5 : List D) (carry6 : Int) (t14 : D) (t15 : Int) (t16 : Int) : Tree :=
  evLoop Tryz.prog md (ev Tryz.prog md n nat_up_orc (cAt (bodyOf Tryz.prog 161) [1, 1, 1, 0, 1, 0, 0])) (orcAt nat_up_orc 4) m4 ⟨[.d 42 a0, .i .i64 shift1, .undef, .undef, .undef, .row 1040, .i .u64 carry6, .undef, .undef, .undef, .undef, .undef, .undef, .undef, .d 42 t14, .i .i64 t15, .i .i64 t16, .undef, .undef, .undef, .undef, .undef, .undef, .undef, .undef, .undef, .undef, .undef, .undef, .undef, .undef, .undef, .undef, .undef, .undef, .undef, .undef, .undef, .undef, .undef, .undef, .undef, .undef], [(1040, .row 110 out5 true)], [1040], [], []⟩
   (blockK 0 (seqK (joinE Tryz.prog md (joinAt nat_up_orc (cAt (bodyOf Tryz.prog 161) [1, 1, 1, 1])) (ev Tryz.prog md n nat_up_orc (cAt (bodyOf Tryz.prog 161) [1, 1, 1, 1]))) (retK Tryz.prog md (md 161) nat_up_ps nat_up_rs nat_up_ts)))
theorem nat_up_l4_succ (n m4 : Nat) (a0 : D) (shift1 : Int) (out5 : List D) (carry6 : Int) (t14 : D) (t15 : Int) (t16 : Int) : nat_up_l4 n (m4 + 1) a0 shift1 out5 carry6 t14 t15 t16 =
 .br (decide (t16 < t15)) (.br (decide (0 ≤ t16)) (.br (decide (t16 < (t14.els.length : Int))) (.br (decide (0 ≤ IntKind.wrap .u64 shift1)) (.br (decide (0 ≤ t16)) (.br (decide (t16 < (out5.length : Int))) (.br (decide (0 ≤ 32)) (nat_up_l4 n m4 a0 shift1 (out5.set (Int.toNat t16) (D.int (IntKind.wrap .u32 (bits_ .or .u64 (IntKind.wrap .u64 ((IntKind.wrap .u64 ((t14.els.getD (Int.toNat t16) D.nil).toInt)) * 2 ^ (min (Int.toNat (IntKind.wrap .u64 shift1)) (IntKind.bits .u64)))) carry6)))) (Int.fdiv (bits_ .or .u64 (IntKind.wrap .u64 ((IntKind.wrap .u64 ((t14.els.getD (Int.toNat t16) D.nil).toInt)) * 2 ^ (min (Int.toNat (IntKind.wrap .u64 shift1)) (IntKind.bits .u64)))) carry6) (2 ^ (min (Int.toNat 32) (IntKind.bits .u64)))) t14 t15 (IntKind.wrap .i64 (t16 + 1))) .fail) .fail) .fail) .fail) .fail) .fail)
 (.br (decide (0 ≤ (a0.els.length : Int))) (.br (decide ((a0.els.length : Int) < (out5.length : Int))) (.ret [D.sl (out5.set (Int.toNat (a0.els.length : Int)) (D.int (IntKind.wrap .u32 carry6)))]) .fail) .fail) := by kernel_rfl
theorem nat_up_tree (n : Nat) (a0 : D) (shift1 : D) : evFun Tryz.prog md nat_up_orc n 161 [] [a0, shift1] =
 .br (decide (0 ≤ IntKind.wrap .i64 ((a0.els.length : Int) + 1))) (.br (decide (IntKind.wrap .i64 ((a0.els.length : Int) + 1) ≤ IntKind.wrap .i64 ((a0.els.length : Int) + 1))) (.br (decide (IntKind.wrap .i64 ((a0.els.length : Int) + 1) ≤ bigN)) (nat_up_l4 n n a0 shift1.toInt (List.replicate (Int.toNat (IntKind.wrap .i64 ((a0.els.length : Int) + 1))) (D.int 0)) 0 a0 (a0.els.length : Int) 0) .fail) .fail) .fail := by kernel_rfl

/-! scrim/nat.estimate -/
def nat_estimate_orc : List (Nat × Orc) := [(4, ⟨[(0, some 42), (1, some 42), (5, none), (7, none), (8, none)], [], []⟩)]
def nat_estimate_ps : List Nat := [42, 42]
def nat_estimate_rs : List ResultVar := [.tmp 4]
def nat_estimate_ts : List Nat := [22]
noncomputable def nat_estimate_l4 (n m4 : Nat) (a0 : D) (divisor1 : D) (n5 : Int) (guess7 : Int) (rest8 : Int) : Tree :=
  evLoop Tryz.prog md (ev Tryz.prog md n nat_estimate_orc (cAt (bodyOf Tryz.prog 162) [1, 1, 1, 1, 0, 0, 0])) (orcAt nat_estimate_orc 4) m4 ⟨[.d 42 a0, .d 42 divisor1, .undef, .undef, .undef, .i .i64 n5, .undef, .i .u64 guess7, .i .u64 rest8, .undef, .undef, .undef, .undef, .undef, .undef, .undef, .undef, .undef, .undef, .undef, .undef, .undef, .undef, .undef, .undef, .undef, .undef, .undef, .undef, .undef, .undef, .undef, .undef, .undef, .undef, .undef, .undef, .undef, .undef, .undef, .undef, .undef, .undef, .undef, .undef, .undef, .undef, .undef, .undef, .undef, .undef, .undef, .undef, .undef, .undef, .undef, .undef, .undef, .undef, .undef, .undef, .undef, .undef, .undef, .undef, .undef, .undef, .undef, .undef, .undef, .undef, .undef, .undef, .undef, .undef, .undef, .undef], [], [], [], []⟩
   (blockK 0 (seqK (joinE Tryz.prog md (joinAt nat_estimate_orc (cAt (bodyOf Tryz.prog 162) [1, 1, 1, 1, 1])) (ev Tryz.prog md n nat_estimate_orc (cAt (bodyOf Tryz.prog 162) [1, 1, 1, 1, 1]))) (retK Tryz.prog md (md 162) nat_estimate_ps nat_estimate_rs nat_estimate_ts)))
theorem nat_estimate_l4_succ (n m4 : Nat) (a0 : D) (divisor1 : D) (n5 : Int) (guess7 : Int) (rest8 : Int) : nat_estimate_l4 n (m4 + 1) a0 divisor1 n5 guess7 rest8 =
 .br (decide (0 ≤ 32)) (.br ((Int.fdiv guess7 (2 ^ (min (Int.toNat 32) (IntKind.bits .u64)))) != 0) (.br (decide (0 ≤ IntKind.wrap .i64 (n5 - 1))) (.br (decide (IntKind.wrap .i64 (n5 - 1) < (divisor1.els.length : Int))) (.br (decide (0 ≤ 32)) (.br ((Int.fdiv (IntKind.wrap .u64 (rest8 + (IntKind.wrap .u64 ((divisor1.els.getD (Int.toNat (IntKind.wrap .i64 (n5 - 1))) D.nil).toInt)))) (2 ^ (min (Int.toNat 32) (IntKind.bits .u64)))) != 0) (.ret [D.int (IntKind.wrap .u64 (guess7 - 1))])
 (nat_estimate_l4 n m4 a0 divisor1 n5 (IntKind.wrap .u64 (guess7 - 1)) (IntKind.wrap .u64 (rest8 + (IntKind.wrap .u64 ((divisor1.els.getD (Int.toNat (IntKind.wrap .i64 (n5 - 1))) D.nil).toInt)))))) .fail) .fail) .fail)
 (.br (decide (0 ≤ IntKind.wrap .i64 (n5 - 2))) (.br (decide (IntKind.wrap .i64 (n5 - 2) < (divisor1.els.length : Int))) (.br (decide (0 ≤ 32)) (.br (decide (0 ≤ IntKind.wrap .i64 (n5 - 2))) (.br (decide (IntKind.wrap .i64 (n5 - 2) < (a0.els.length : Int))) (.br (decide ((bits_ .or .u64 (IntKind.wrap .u64 (rest8 * 2 ^ (min (Int.toNat 32) (IntKind.bits .u64)))) (IntKind.wrap .u64 ((a0.els.getD (Int.toNat (IntKind.wrap .i64 (n5 - 2))) D.nil).toInt))) < (IntKind.wrap .u64 (guess7 * (IntKind.wrap .u64 ((divisor1.els.getD (Int.toNat (IntKind.wrap .i64 (n5 - 2))) D.nil).toInt)))))) (.br (decide (0 ≤ IntKind.wrap .i64 (n5 - 1))) (.br (decide (IntKind.wrap .i64 (n5 - 1) < (divisor1.els.length : Int))) (.br (decide (0 ≤ 32)) (.br ((Int.fdiv (IntKind.wrap .u64 (rest8 + (IntKind.wrap .u64 ((divisor1.els.getD (Int.toNat (IntKind.wrap .i64 (n5 - 1))) D.nil).toInt)))) (2 ^ (min (Int.toNat 32) (IntKind.bits .u64)))) != 0) (.ret [D.int (IntKind.wrap .u64 (guess7 - 1))])
 (nat_estimate_l4 n m4 a0 divisor1 n5 (IntKind.wrap .u64 (guess7 - 1)) (IntKind.wrap .u64 (rest8 + (IntKind.wrap .u64 ((divisor1.els.getD (Int.toNat (IntKind.wrap .i64 (n5 - 1))) D.nil).toInt)))))) .fail) .fail) .fail)
 (.ret [D.int guess7])) .fail) .fail) .fail) .fail) .fail)) .fail := by kernel_rfl
theorem nat_estimate_tree (n : Nat) (a0 : D) (divisor1 : D) : evFun Tryz.prog md nat_estimate_orc n 162 [] [a0, divisor1] =
 .br (decide (0 ≤ (divisor1.els.length : Int))) (.br (decide ((divisor1.els.length : Int) < (a0.els.length : Int))) (.br (decide (0 ≤ 32)) (.br (decide (0 ≤ IntKind.wrap .i64 ((divisor1.els.length : Int) - 1))) (.br (decide (IntKind.wrap .i64 ((divisor1.els.length : Int) - 1) < (a0.els.length : Int))) (.br (decide (0 ≤ IntKind.wrap .i64 ((divisor1.els.length : Int) - 1))) (.br (decide (IntKind.wrap .i64 ((divisor1.els.length : Int) - 1) < (divisor1.els.length : Int))) (.br (!((IntKind.wrap .u64 ((divisor1.els.getD (Int.toNat (IntKind.wrap .i64 ((divisor1.els.length : Int) - 1))) D.nil).toInt)) == (0 : Int))) (.br (decide (0 ≤ IntKind.wrap .i64 ((divisor1.els.length : Int) - 1))) (.br (decide (IntKind.wrap .i64 ((divisor1.els.length : Int) - 1) < (divisor1.els.length : Int))) (.br (!((IntKind.wrap .u64 ((divisor1.els.getD (Int.toNat (IntKind.wrap .i64 ((divisor1.els.length : Int) - 1))) D.nil).toInt)) == (0 : Int))) (nat_estimate_l4 n n a0 divisor1 (divisor1.els.length : Int) (IntKind.wrap .u64 (Int.tdiv (bits_ .or .u64 (IntKind.wrap .u64 ((IntKind.wrap .u64 ((a0.els.getD (Int.toNat (divisor1.els.length : Int)) D.nil).toInt)) * 2 ^ (min (Int.toNat 32) (IntKind.bits .u64)))) (IntKind.wrap .u64 ((a0.els.getD (Int.toNat (IntKind.wrap .i64 ((divisor1.els.length : Int) - 1))) D.nil).toInt))) (IntKind.wrap .u64 ((divisor1.els.getD (Int.toNat (IntKind.wrap .i64 ((divisor1.els.length : Int) - 1))) D.nil).toInt)))) (Int.tmod (bits_ .or .u64 (IntKind.wrap .u64 ((IntKind.wrap .u64 ((a0.els.getD (Int.toNat (divisor1.els.length : Int)) D.nil).toInt)) * 2 ^ (min (Int.toNat 32) (IntKind.bits .u64)))) (IntKind.wrap .u64 ((a0.els.getD (Int.toNat (IntKind.wrap .i64 ((divisor1.els.length : Int) - 1))) D.nil).toInt))) (IntKind.wrap .u64 ((divisor1.els.getD (Int.toNat (IntKind.wrap .i64 ((divisor1.els.length : Int) - 1))) D.nil).toInt)))) .fail) .fail) .fail) .fail) .fail) .fail) .fail) .fail) .fail) .fail) .fail := by kernel_rfl

/-! scrim/nat.down -/
def nat_down_orc : List (Nat × Orc) := [(4, ⟨[(0, some 42), (1, none), (5, none), (6, none), (7, none)], [], [(.slot 5, 1040, 110)]⟩)]
def nat_down_ps : List Nat := [42, 3]
def nat_down_rs : List ResultVar := [.tmp 4]
def nat_down_ts : List Nat := [42]
noncomputable def nat_down_l4 (n m4 : Nat) (a0 : D) (shift1 : Int) (out5 : List D) (above6 : Int) (i7 : Int) : Tree :=
  evLoop Tryz.prog md (ev Tryz.prog md n nat_down_orc (cAt (bodyOf Tryz.prog 165) [1, 1, 1, 0, 1, 0, 0])) (orcAt nat_down_orc 4) m4 ⟨[.d 42 a0, .i .i64 shift1, .undef, .undef, .undef, .row 1040, .i .u64 above6, .i .i64 i7, .undef, .undef, .undef, .undef, .undef, .undef, .undef, .undef, .undef, .undef, .undef, .undef, .undef, .undef, .undef, .undef, .undef, .undef, .undef, .undef, .undef, .undef, .undef, .undef, .undef, .undef, .undef, .undef, .undef, .undef, .undef, .undef, .undef, .undef], [(1040, .row 110 out5 true)], [1040], [], []⟩
   (blockK 0 (seqK (joinE Tryz.prog md (joinAt nat_down_orc (cAt (bodyOf Tryz.prog 165) [1, 1, 1, 1])) (ev Tryz.prog md n nat_down_orc (cAt (bodyOf Tryz.prog 165) [1, 1, 1, 1]))) (retK Tryz.prog md (md 165) nat_down_ps nat_down_rs nat_down_ts)))
theorem nat_down_l4_succ (n m4 : Nat) (a0 : D) (shift1 : Int) (out5 : List D) (above6 : Int) (i7 : Int) : nat_down_l4 n (m4 + 1) a0 shift1 out5 above6 i7 =
 .br (decide (0 ≤ i7)) (.br (decide (0 ≤ 32)) (.br (decide (0 ≤ i7)) (.br (decide (i7 < (a0.els.length : Int))) (.br (decide (0 ≤ IntKind.wrap .u64 shift1)) (.br (decide (0 ≤ i7)) (.br (decide (i7 < (out5.length : Int))) (.br (decide (0 ≤ i7)) (.br (decide (i7 < (a0.els.length : Int))) (nat_down_l4 n m4 a0 shift1 (out5.set (Int.toNat i7) (D.int (IntKind.wrap .u32 (Int.fdiv (bits_ .or .u64 (IntKind.wrap .u64 (above6 * 2 ^ (min (Int.toNat 32) (IntKind.bits .u64)))) (IntKind.wrap .u64 ((a0.els.getD (Int.toNat i7) D.nil).toInt))) (2 ^ (min (Int.toNat (IntKind.wrap .u64 shift1)) (IntKind.bits .u64))))))) (IntKind.wrap .u64 ((a0.els.getD (Int.toNat i7) D.nil).toInt)) (IntKind.wrap .i64 (i7 - 1))) .fail) .fail) .fail) .fail) .fail) .fail) .fail) .fail)
 (.call 150 [] [D.sl out5] fun yy1 =>
 .ret [yy1.getD 0 D.nil]) := by kernel_rfl
theorem nat_down_tree (n : Nat) (a0 : D) (shift1 : D) : evFun Tryz.prog md nat_down_orc n 165 [] [a0, shift1] =
 .br (decide (0 ≤ (a0.els.length : Int))) (.br (decide ((a0.els.length : Int) ≤ (a0.els.length : Int))) (.br (decide ((a0.els.length : Int) ≤ bigN)) (nat_down_l4 n n a0 shift1.toInt (List.replicate (Int.toNat (a0.els.length : Int)) (D.int 0)) 0 (IntKind.wrap .i64 ((a0.els.length : Int) - 1))) .fail) .fail) .fail := by kernel_rfl

/-! math/bits.Len32 -/
def bits_Len32_orc : List (Nat × Orc) := []
theorem bits_Len32_tree (n : Nat) (x0 : D) : evFun Tryz.prog md bits_Len32_orc n 166 [] [x0] =
 .br (decide (65536 ≤ x0.toInt)) (.br (decide (0 ≤ 16)) (.br (decide (256 ≤ (Int.fdiv x0.toInt (2 ^ (min (Int.toNat 16) (IntKind.bits .u32)))))) (.br (decide (0 ≤ 8)) (.br (decide (0 ≤ IntKind.wrap .u8 (Int.fdiv (Int.fdiv x0.toInt (2 ^ (min (Int.toNat 16) (IntKind.bits .u32)))) (2 ^ (min (Int.toNat 8) (IntKind.bits .u32)))))) (.br (decide (IntKind.wrap .u8 (Int.fdiv (Int.fdiv x0.toInt (2 ^ (min (Int.toNat 16) (IntKind.bits .u32)))) (2 ^ (min (Int.toNat 8) (IntKind.bits .u32)))) < ((⟨#[0, 1, 2, 2, 3, 3, 3, 3, 4, 4, 4, 4, 4, 4, 4, 4, 5, 5, 5, 5, 5, 5, 5, 5, 5, 5, 5, 5, 5, 5, 5, 5, 6, 6, 6, 6, 6, 6, 6, 6, 6, 6, 6, 6, 6, 6, 6, 6, 6, 6, 6, 6, 6, 6, 6, 6, 6, 6, 6, 6, 6, 6, 6, 6, 7, 7, 7, 7, 7, 7, 7, 7, 7, 7, 7, 7, 7, 7, 7, 7, 7, 7, 7, 7, 7, 7, 7, 7, 7, 7, 7, 7, 7, 7, 7, 7, 7, 7, 7, 7, 7, 7, 7, 7, 7, 7, 7, 7, 7, 7, 7, 7, 7, 7, 7, 7, 7, 7, 7, 7, 7, 7, 7, 7, 7, 7, 7, 7, 8, 8, 8, 8, 8, 8, 8, 8, 8, 8, 8, 8, 8, 8, 8, 8, 8, 8, 8, 8, 8, 8, 8, 8, 8, 8, 8, 8, 8, 8, 8, 8, 8, 8, 8, 8, 8, 8, 8, 8, 8, 8, 8, 8, 8, 8, 8, 8, 8, 8, 8, 8, 8, 8, 8, 8, 8, 8, 8, 8, 8, 8, 8, 8, 8, 8, 8, 8, 8, 8, 8, 8, 8, 8, 8, 8, 8, 8, 8, 8, 8, 8, 8, 8, 8, 8, 8, 8, 8, 8, 8, 8, 8, 8, 8, 8, 8, 8, 8, 8, 8, 8, 8, 8, 8, 8, 8, 8, 8, 8, 8, 8, 8, 8, 8, 8, 8, 8, 8, 8, 8, 8, 8, 8, 8, 8, 8, 8]⟩ : ByteArray).size : Int))) (.ret [D.int (IntKind.wrap .i64 ((IntKind.wrap .i64 (16 + 8)) + (IntKind.wrap .i64 ((((⟨#[0, 1, 2, 2, 3, 3, 3, 3, 4, 4, 4, 4, 4, 4, 4, 4, 5, 5, 5, 5, 5, 5, 5, 5, 5, 5, 5, 5, 5, 5, 5, 5, 6, 6, 6, 6, 6, 6, 6, 6, 6, 6, 6, 6, 6, 6, 6, 6, 6, 6, 6, 6, 6, 6, 6, 6, 6, 6, 6, 6, 6, 6, 6, 6, 7, 7, 7, 7, 7, 7, 7, 7, 7, 7, 7, 7, 7, 7, 7, 7, 7, 7, 7, 7, 7, 7, 7, 7, 7, 7, 7, 7, 7, 7, 7, 7, 7, 7, 7, 7, 7, 7, 7, 7, 7, 7, 7, 7, 7, 7, 7, 7, 7, 7, 7, 7, 7, 7, 7, 7, 7, 7, 7, 7, 7, 7, 7, 7, 8, 8, 8, 8, 8, 8, 8, 8, 8, 8, 8, 8, 8, 8, 8, 8, 8, 8, 8, 8, 8, 8, 8, 8, 8, 8, 8, 8, 8, 8, 8, 8, 8, 8, 8, 8, 8, 8, 8, 8, 8, 8, 8, 8, 8, 8, 8, 8, 8, 8, 8, 8, 8, 8, 8, 8, 8, 8, 8, 8, 8, 8, 8, 8, 8, 8, 8, 8, 8, 8, 8, 8, 8, 8, 8, 8, 8, 8, 8, 8, 8, 8, 8, 8, 8, 8, 8, 8, 8, 8, 8, 8, 8, 8, 8, 8, 8, 8, 8, 8, 8, 8, 8, 8, 8, 8, 8, 8, 8, 8, 8, 8, 8, 8, 8, 8, 8, 8, 8, 8, 8, 8, 8, 8, 8, 8, 8, 8]⟩ : ByteArray).data.toList.getD (Int.toNat (IntKind.wrap .u8 (Int.fdiv (Int.fdiv x0.toInt (2 ^ (min (Int.toNat 16) (IntKind.bits .u32)))) (2 ^ (min (Int.toNat 8) (IntKind.bits .u32)))))) 0).toNat : Nat) : Int))))]) .fail) .fail) .fail)
 (.br (decide (0 ≤ IntKind.wrap .u8 (Int.fdiv x0.toInt (2 ^ (min (Int.toNat 16) (IntKind.bits .u32)))))) (.br (decide (IntKind.wrap .u8 (Int.fdiv x0.toInt (2 ^ (min (Int.toNat 16) (IntKind.bits .u32)))) < ((⟨#[0, 1, 2, 2, 3, 3, 3, 3, 4, 4, 4, 4, 4, 4, 4, 4, 5, 5, 5, 5, 5, 5, 5, 5, 5, 5, 5, 5, 5, 5, 5, 5, 6, 6, 6, 6, 6, 6, 6, 6, 6, 6, 6, 6, 6, 6, 6, 6, 6, 6, 6, 6, 6, 6, 6, 6, 6, 6, 6, 6, 6, 6, 6, 6, 7, 7, 7, 7, 7, 7, 7, 7, 7, 7, 7, 7, 7, 7, 7, 7, 7, 7, 7, 7, 7, 7, 7, 7, 7, 7, 7, 7, 7, 7, 7, 7, 7, 7, 7, 7, 7, 7, 7, 7, 7, 7, 7, 7, 7, 7, 7, 7, 7, 7, 7, 7, 7, 7, 7, 7, 7, 7, 7, 7, 7, 7, 7, 7, 8, 8, 8, 8, 8, 8, 8, 8, 8, 8, 8, 8, 8, 8, 8, 8, 8, 8, 8, 8, 8, 8, 8, 8, 8, 8, 8, 8, 8, 8, 8, 8, 8, 8, 8, 8, 8, 8, 8, 8, 8, 8, 8, 8, 8, 8, 8, 8, 8, 8, 8, 8, 8, 8, 8, 8, 8, 8, 8, 8, 8, 8, 8, 8, 8, 8, 8, 8, 8, 8, 8, 8, 8, 8, 8, 8, 8, 8, 8, 8, 8, 8, 8, 8, 8, 8, 8, 8, 8, 8, 8, 8, 8, 8, 8, 8, 8, 8, 8, 8, 8, 8, 8, 8, 8, 8, 8, 8, 8, 8, 8, 8, 8, 8, 8, 8, 8, 8, 8, 8, 8, 8, 8, 8, 8, 8, 8, 8]⟩ : ByteArray).size : Int))) (.ret [D.int (IntKind.wrap .i64 (16 + (IntKind.wrap .i64 ((((⟨#[0, 1, 2, 2, 3, 3, 3, 3, 4, 4, 4, 4, 4, 4, 4, 4, 5, 5, 5, 5, 5, 5, 5, 5, 5, 5, 5, 5, 5, 5, 5, 5, 6, 6, 6, 6, 6, 6, 6, 6, 6, 6, 6, 6, 6, 6, 6, 6, 6, 6, 6, 6, 6, 6, 6, 6, 6, 6, 6, 6, 6, 6, 6, 6, 7, 7, 7, 7, 7, 7, 7, 7, 7, 7, 7, 7, 7, 7, 7, 7, 7, 7, 7, 7, 7, 7, 7, 7, 7, 7, 7, 7, 7, 7, 7, 7, 7, 7, 7, 7, 7, 7, 7, 7, 7, 7, 7, 7, 7, 7, 7, 7, 7, 7, 7, 7, 7, 7, 7, 7, 7, 7, 7, 7, 7, 7, 7, 7, 8, 8, 8, 8, 8, 8, 8, 8, 8, 8, 8, 8, 8, 8, 8, 8, 8, 8, 8, 8, 8, 8, 8, 8, 8, 8, 8, 8, 8, 8, 8, 8, 8, 8, 8, 8, 8, 8, 8, 8, 8, 8, 8, 8, 8, 8, 8, 8, 8, 8, 8, 8, 8, 8, 8, 8, 8, 8, 8, 8, 8, 8, 8, 8, 8, 8, 8, 8, 8, 8, 8, 8, 8, 8, 8, 8, 8, 8, 8, 8, 8, 8, 8, 8, 8, 8, 8, 8, 8, 8, 8, 8, 8, 8, 8, 8, 8, 8, 8, 8, 8, 8, 8, 8, 8, 8, 8, 8, 8, 8, 8, 8, 8, 8, 8, 8, 8, 8, 8, 8, 8, 8, 8, 8, 8, 8, 8, 8]⟩ : ByteArray).data.toList.getD (Int.toNat (IntKind.wrap .u8 (Int.fdiv x0.toInt (2 ^ (min (Int.toNat 16) (IntKind.bits .u32)))))) 0).toNat : Nat) : Int))))]) .fail) .fail)) .fail)
 (.br (decide (256 ≤ x0.toInt)) (.br (decide (0 ≤ 8)) (.br (decide (0 ≤ IntKind.wrap .u8 (Int.fdiv x0.toInt (2 ^ (min (Int.toNat 8) (IntKind.bits .u32)))))) (.br (decide (IntKind.wrap .u8 (Int.fdiv x0.toInt (2 ^ (min (Int.toNat 8) (IntKind.bits .u32)))) < ((⟨#[0, 1, 2, 2, 3, 3, 3, 3, 4, 4, 4, 4, 4, 4, 4, 4, 5, 5, 5, 5, 5, 5, 5, 5, 5, 5, 5, 5, 5, 5, 5, 5, 6, 6, 6, 6, 6, 6, 6, 6, 6, 6, 6, 6, 6, 6, 6, 6, 6, 6, 6, 6, 6, 6, 6, 6, 6, 6, 6, 6, 6, 6, 6, 6, 7, 7, 7, 7, 7, 7, 7, 7, 7, 7, 7, 7, 7, 7, 7, 7, 7, 7, 7, 7, 7, 7, 7, 7, 7, 7, 7, 7, 7, 7, 7, 7, 7, 7, 7, 7, 7, 7, 7, 7, 7, 7, 7, 7, 7, 7, 7, 7, 7, 7, 7, 7, 7, 7, 7, 7, 7, 7, 7, 7, 7, 7, 7, 7, 8, 8, 8, 8, 8, 8, 8, 8, 8, 8, 8, 8, 8, 8, 8, 8, 8, 8, 8, 8, 8, 8, 8, 8, 8, 8, 8, 8, 8, 8, 8, 8, 8, 8, 8, 8, 8, 8, 8, 8, 8, 8, 8, 8, 8, 8, 8, 8, 8, 8, 8, 8, 8, 8, 8, 8, 8, 8, 8, 8, 8, 8, 8, 8, 8, 8, 8, 8, 8, 8, 8, 8, 8, 8, 8, 8, 8, 8, 8, 8, 8, 8, 8, 8, 8, 8, 8, 8, 8, 8, 8, 8, 8, 8, 8, 8, 8, 8, 8, 8, 8, 8, 8, 8, 8, 8, 8, 8, 8, 8, 8, 8, 8, 8, 8, 8, 8, 8, 8, 8, 8, 8, 8, 8, 8, 8, 8, 8]⟩ : ByteArray).size : Int))) (.ret [D.int (IntKind.wrap .i64 ((IntKind.wrap .i64 (0 + 8)) + (IntKind.wrap .i64 ((((⟨#[0, 1, 2, 2, 3, 3, 3, 3, 4, 4, 4, 4, 4, 4, 4, 4, 5, 5, 5, 5, 5, 5, 5, 5, 5, 5, 5, 5, 5, 5, 5, 5, 6, 6, 6, 6, 6, 6, 6, 6, 6, 6, 6, 6, 6, 6, 6, 6, 6, 6, 6, 6, 6, 6, 6, 6, 6, 6, 6, 6, 6, 6, 6, 6, 7, 7, 7, 7, 7, 7, 7, 7, 7, 7, 7, 7, 7, 7, 7, 7, 7, 7, 7, 7, 7, 7, 7, 7, 7, 7, 7, 7, 7, 7, 7, 7, 7, 7, 7, 7, 7, 7, 7, 7, 7, 7, 7, 7, 7, 7, 7, 7, 7, 7, 7, 7, 7, 7, 7, 7, 7, 7, 7, 7, 7, 7, 7, 7, 8, 8, 8, 8, 8, 8, 8, 8, 8, 8, 8, 8, 8, 8, 8, 8, 8, 8, 8, 8, 8, 8, 8, 8, 8, 8, 8, 8, 8, 8, 8, 8, 8, 8, 8, 8, 8, 8, 8, 8, 8, 8, 8, 8, 8, 8, 8, 8, 8, 8, 8, 8, 8, 8, 8, 8, 8, 8, 8, 8, 8, 8, 8, 8, 8, 8, 8, 8, 8, 8, 8, 8, 8, 8, 8, 8, 8, 8, 8, 8, 8, 8, 8, 8, 8, 8, 8, 8, 8, 8, 8, 8, 8, 8, 8, 8, 8, 8, 8, 8, 8, 8, 8, 8, 8, 8, 8, 8, 8, 8, 8, 8, 8, 8, 8, 8, 8, 8, 8, 8, 8, 8, 8, 8, 8, 8, 8, 8]⟩ : ByteArray).data.toList.getD (Int.toNat (IntKind.wrap .u8 (Int.fdiv x0.toInt (2 ^ (min (Int.toNat 8) (IntKind.bits .u32)))))) 0).toNat : Nat) : Int))))]) .fail) .fail) .fail)
 (.br (decide (0 ≤ IntKind.wrap .u8 x0.toInt)) (.br (decide (IntKind.wrap .u8 x0.toInt < ((⟨#[0, 1, 2, 2, 3, 3, 3, 3, 4, 4, 4, 4, 4, 4, 4, 4, 5, 5, 5, 5, 5, 5, 5, 5, 5, 5, 5, 5, 5, 5, 5, 5, 6, 6, 6, 6, 6, 6, 6, 6, 6, 6, 6, 6, 6, 6, 6, 6, 6, 6, 6, 6, 6, 6, 6, 6, 6, 6, 6, 6, 6, 6, 6, 6, 7, 7, 7, 7, 7, 7, 7, 7, 7, 7, 7, 7, 7, 7, 7, 7, 7, 7, 7, 7, 7, 7, 7, 7, 7, 7, 7, 7, 7, 7, 7, 7, 7, 7, 7, 7, 7, 7, 7, 7, 7, 7, 7, 7, 7, 7, 7, 7, 7, 7, 7, 7, 7, 7, 7, 7, 7, 7, 7, 7, 7, 7, 7, 7, 8, 8, 8, 8, 8, 8, 8, 8, 8, 8, 8, 8, 8, 8, 8, 8, 8, 8, 8, 8, 8, 8, 8, 8, 8, 8, 8, 8, 8, 8, 8, 8, 8, 8, 8, 8, 8, 8, 8, 8, 8, 8, 8, 8, 8, 8, 8, 8, 8, 8, 8, 8, 8, 8, 8, 8, 8, 8, 8, 8, 8, 8, 8, 8, 8, 8, 8, 8, 8, 8, 8, 8, 8, 8, 8, 8, 8, 8, 8, 8, 8, 8, 8, 8, 8, 8, 8, 8, 8, 8, 8, 8, 8, 8, 8, 8, 8, 8, 8, 8, 8, 8, 8, 8, 8, 8, 8, 8, 8, 8, 8, 8, 8, 8, 8, 8, 8, 8, 8, 8, 8, 8, 8, 8, 8, 8, 8, 8]⟩ : ByteArray).size : Int))) (.ret [D.int (IntKind.wrap .i64 (0 + (IntKind.wrap .i64 ((((⟨#[0, 1, 2, 2, 3, 3, 3, 3, 4, 4, 4, 4, 4, 4, 4, 4, 5, 5, 5, 5, 5, 5, 5, 5, 5, 5, 5, 5, 5, 5, 5, 5, 6, 6, 6, 6, 6, 6, 6, 6, 6, 6, 6, 6, 6, 6, 6, 6, 6, 6, 6, 6, 6, 6, 6, 6, 6, 6, 6, 6, 6, 6, 6, 6, 7, 7, 7, 7, 7, 7, 7, 7, 7, 7, 7, 7, 7, 7, 7, 7, 7, 7, 7, 7, 7, 7, 7, 7, 7, 7, 7, 7, 7, 7, 7, 7, 7, 7, 7, 7, 7, 7, 7, 7, 7, 7, 7, 7, 7, 7, 7, 7, 7, 7, 7, 7, 7, 7, 7, 7, 7, 7, 7, 7, 7, 7, 7, 7, 8, 8, 8, 8, 8, 8, 8, 8, 8, 8, 8, 8, 8, 8, 8, 8, 8, 8, 8, 8, 8, 8, 8, 8, 8, 8, 8, 8, 8, 8, 8, 8, 8, 8, 8, 8, 8, 8, 8, 8, 8, 8, 8, 8, 8, 8, 8, 8, 8, 8, 8, 8, 8, 8, 8, 8, 8, 8, 8, 8, 8, 8, 8, 8, 8, 8, 8, 8, 8, 8, 8, 8, 8, 8, 8, 8, 8, 8, 8, 8, 8, 8, 8, 8, 8, 8, 8, 8, 8, 8, 8, 8, 8, 8, 8, 8, 8, 8, 8, 8, 8, 8, 8, 8, 8, 8, 8, 8, 8, 8, 8, 8, 8, 8, 8, 8, 8, 8, 8, 8, 8, 8, 8, 8, 8, 8, 8, 8]⟩ : ByteArray).data.toList.getD (Int.toNat (IntKind.wrap .u8 x0.toInt)) 0).toNat : Nat) : Int))))]) .fail) .fail)) := by kernel_rfl

end Go.Proofs.YtjmddikeadbmjaaGreat
namespace Go.Proofs.YtjmddikeadbmjaaGreat

abbrev Lab := BitVec 64
abbrev Limb := BitVec 32
structure Num where
  neg : Bool
  top : List Limb
  bot : List Limb
  deriving DecidableEq
structure CellF (α : Type) where
  l : Lab
  kind : Int
  n : Num
  c : Int
  inn : List α
inductive Arr where
  | mk (s : Lab) (shape : List Int) (cells : List (CellF Arr))
abbrev Cell := CellF Arr
def Arr.s : Arr → Lab | .mk s _ _ => s
def Arr.shape : Arr → List Int | .mk _ s _ => s
def Arr.cells : Arr → List Cell | .mk _ _ c => c
@[simp] theorem Arr.s_mk (s sh cs) : (Arr.mk s sh cs).s = s := rfl
@[simp] theorem Arr.shape_mk (s sh cs) : (Arr.mk s sh cs).shape = sh := rfl
@[simp] theorem Arr.cells_mk (s sh cs) : (Arr.mk s sh cs).cells = cs := rfl
theorem Arr.eta (a : Arr) : a = .mk a.s a.shape a.cells := by cases a; rfl
def Num.zero : Num := ⟨false, [], []⟩
def Cell.none : Cell := ⟨0, 0, .zero, 0, []⟩
def Arr.none : Arr := .mk 0 [] []

theorem Arr.ind {p : Arr → Prop} (h : ∀ s sh cs, (∀ c ∈ cs, ∀ x ∈ c.inn, p x) → p (.mk s sh cs)) (a : Arr) : p a :=
  Arr.rec (motive_1 := p) (motive_2 := fun cs => ∀ c ∈ cs, ∀ x ∈ c.inn, p x) (motive_3 := fun c => ∀ x ∈ c.inn, p x) (motive_4 := fun as_ => ∀ x ∈ as_, p x)
    (fun s sh cs ih => h s sh cs ih) (fun c hc => by cases hc)
    (fun c cs h1 h2 d hd => by rcases List.mem_cons.1 hd with rfl | hd; exact h1; exact h2 d hd)
    (fun _ _ _ _ _ ih => ih) (fun x hx => by cases hx)
    (fun a as_ h1 h2 x hx => by rcases List.mem_cons.1 hx with rfl | hx; exact h1; exact h2 x hx) a

def dB {k : Nat} (x : BitVec k) : D := .int (x.toNat : Int)
def dI (l : List Int) : D := .sl (l.map .int)
def dL (l : List Limb) : D := .sl (l.map dB)
def dN (n : Num) : D := .agg [.bool n.neg, dL n.top, dL n.bot]
mutual
def dA : Arr → D
  | .mk s sh cs => .agg [dB s, dI sh, .sl (dCs cs)]
def dCs : List (CellF Arr) → List D
  | [] => []
  | c :: cs => dC c :: dCs cs
def dC : CellF Arr → D
  | ⟨l, k, n, c, inn⟩ => .agg [dB l, .int k, dN n, .int c, .sl (dAs inn)]
def dAs : List Arr → List D
  | [] => []
  | a :: as_ => dA a :: dAs as_
end
theorem dCs_map : ∀ cs, dCs cs = cs.map dC
  | [] => by simp [dCs]
  | c :: cs => by simp [dCs, dCs_map cs]
theorem dAs_map : ∀ as_, dAs as_ = as_.map dA
  | [] => by simp [dAs]
  | a :: as_ => by simp [dAs, dAs_map as_]
theorem dA_eq (a : Arr) : dA a = .agg [dB a.s, dI a.shape, .sl (a.cells.map dC)] := by cases a; simp [dA, dCs_map]
theorem dC_eq (c : Cell) : dC c = .agg [dB c.l, .int c.kind, dN c.n, .int c.c, .sl (c.inn.map dA)] := by cases c; simp [dC, dAs_map]
theorem dA_mk (s : Lab) (sh : List Int) (cs : List Cell) : D.agg [dB s, dI sh, .sl (cs.map dC)] = dA (.mk s sh cs) := by rw [dA_eq]; rfl
theorem dC_mk (l : Lab) (k : Int) (n : Num) (c : Int) (inn : List Arr) : D.agg [dB l, .int k, dN n, .int c, .sl (inn.map dA)] = dC ⟨l, k, n, c, inn⟩ := by rw [dC_eq]

section simps
@[simp] theorem fld_agg0 (x : D) (l : List D) : (D.agg (x :: l)).fld 0 = x := rfl
@[simp] theorem fld_agg1 (x y : D) (l : List D) : (D.agg (x :: y :: l)).fld 1 = y := rfl
@[simp] theorem fld_agg2 (x y z : D) (l : List D) : (D.agg (x :: y :: z :: l)).fld 2 = z := rfl
@[simp] theorem fld_agg3 (x y z u : D) (l : List D) : (D.agg (x :: y :: z :: u :: l)).fld 3 = u := rfl
@[simp] theorem fld_agg4 (x y z u v : D) (l : List D) : (D.agg (x :: y :: z :: u :: v :: l)).fld 4 = v := rfl
@[simp] theorem dA_0 (a : Arr) : (dA a).fld 0 = dB a.s := by rw [dA_eq]; rfl
@[simp] theorem dA_1 (a : Arr) : (dA a).fld 1 = dI a.shape := by rw [dA_eq]; rfl
@[simp] theorem dA_2 (a : Arr) : (dA a).fld 2 = .sl (a.cells.map dC) := by rw [dA_eq]; rfl
@[simp] theorem dC_0 (c : Cell) : (dC c).fld 0 = dB c.l := by rw [dC_eq]; rfl
@[simp] theorem dC_1 (c : Cell) : (dC c).fld 1 = .int c.kind := by rw [dC_eq]; rfl
@[simp] theorem dC_2 (c : Cell) : (dC c).fld 2 = dN c.n := by rw [dC_eq]; rfl
@[simp] theorem dC_3 (c : Cell) : (dC c).fld 3 = .int c.c := by rw [dC_eq]; rfl
@[simp] theorem dC_4 (c : Cell) : (dC c).fld 4 = .sl (c.inn.map dA) := by rw [dC_eq]; rfl
@[simp] theorem dN_0 (n : Num) : (dN n).fld 0 = .bool n.neg := rfl
@[simp] theorem dN_1 (n : Num) : (dN n).fld 1 = dL n.top := rfl
@[simp] theorem dN_2 (n : Num) : (dN n).fld 2 = dL n.bot := rfl
@[simp] theorem els_sl (l : List D) : (D.sl l).els = l := rfl
@[simp] theorem els_dI (l : List Int) : (dI l).els = l.map .int := rfl
@[simp] theorem els_dL (l : List Limb) : (dL l).els = l.map dB := rfl
@[simp] theorem toInt_int (n : Int) : (D.int n).toInt = n := rfl
@[simp] theorem toInt_dB {k : Nat} (x : BitVec k) : (dB x).toInt = (x.toNat : Int) := rfl
@[simp] theorem toBool_bool (b : Bool) : (D.bool b).toBool = b := rfl
@[simp] theorem unref_ref (x : D) : (D.ref x).unref = x := rfl
@[simp] theorem fnId_fn (f c d) : (D.fn f c d).fnId = f := rfl
@[simp] theorem fnCts_fn (f c d) : (D.fn f c d).fnCts = c := rfl
@[simp] theorem fnDs_fn (f c d) : (D.fn f c d).fnDs = d := rfl
@[simp] theorem getD_c0 (x : D) (l : List D) : (x :: l).getD 0 D.nil = x := rfl
@[simp] theorem getD_c1 (x y : D) (l : List D) : (x :: y :: l).getD 1 D.nil = y := rfl
@[simp] theorem getD_c2 (x y z : D) (l : List D) : (x :: y :: z :: l).getD 2 D.nil = z := rfl
@[simp] theorem getD_c3 (x y z u : D) (l : List D) : (x :: y :: z :: u :: l).getD 3 D.nil = u := rfl
theorem dInt_dB {k : Nat} (x : BitVec k) : D.int (x.toNat : Int) = dB x := rfl
theorem dsl_dI (l : List Int) : D.sl (l.map .int) = dI l := rfl
theorem dsl_dL (l : List Limb) : D.sl (l.map dB) = dL l := rfl
theorem dN_mk (neg : Bool) (t b : List Limb) : D.agg [.bool neg, dL t, dL b] = dN ⟨neg, t, b⟩ := rfl
end simps

/-- A row, from a place on. -/
theorem drop_cons {α : Type} {l : List α} {i : Nat} {x : α} {xs : List α} (h : l.drop i = x :: xs) : i < l.length ∧ l[i]? = some x ∧ l.drop (i + 1) = xs := by
  have hi : i < l.length := by
    rcases Nat.lt_or_ge i l.length with h1 | h1
    · exact h1
    · rw [List.drop_eq_nil_of_le h1] at h; cases h
  rw [List.drop_eq_getElem_cons hi] at h
  injection h with h1 h2
  exact ⟨hi, by rw [List.getElem?_eq_getElem hi, h1], h2⟩
theorem drop_nil {α : Type} {l : List α} {i : Nat} (h : l.drop i = []) : l.length ≤ i := List.drop_eq_nil_iff.1 h
theorem getD_map {α : Type} {l : List α} {i : Nat} {x : α} {f : α → D} (h : l[i]? = some x) : (l.map f).getD i D.nil = f x := by
  rw [List.getD_eq_getElem?_getD, List.getElem?_map, h]; rfl
theorem wrap64 {x : Int} (h1 : -9223372036854775808 ≤ x) (h2 : x ≤ 9223372036854775807) : IntKind.wrap .i64 x = x := by rw [IntKind.wrap_i64]; omega
theorem wrapU64 {x : Int} (h1 : 0 ≤ x) (h2 : x < 18446744073709551616) : IntKind.wrap .u64 x = x := by rw [IntKind.wrap_u64]; omega
theorem wrapU32 {x : Int} (h1 : 0 ≤ x) (h2 : x < 4294967296) : IntKind.wrap .u32 x = x := by rw [IntKind.wrap_u32]; omega

end Go.Proofs.YtjmddikeadbmjaaGreat
namespace Go.Proofs.YtjmddikeadbmjaaGreat

/-- What is told of a function without captures. -/
abbrev Sp (f : Nat) (xs ys : List D) : Prop := Spec Tryz.prog md f [] xs ys
/-- What a tree comes to. -/
abbrev Tw (t : Tree) (ys : List D) : Prop := t.wp Tryz.prog md (fun zs => zs = ys)

theorem int_beq (x y : Int) : (x == y) = decide (x = y) := by by_cases h : x = y <;> simp [h]
theorem int_bne (x y : Int) : (x != y) = decide (¬ x = y) := by by_cases h : x = y <;> simp [h]
theorem not_dec (p : Prop) [Decidable p] : (!decide p) = decide (¬ p) := by by_cases h : p <;> simp [h]
theorem wrap_succ {k : Nat} (h : k < 9223372036854775807) : IntKind.wrap .i64 ((k : Int) + 1) = ((k + 1 : Nat) : Int) := by rw [wrap64 (by omega) (by omega)]; rfl
theorem wrap_zero_succ : IntKind.wrap .i64 (-1 + 1) = 0 := by rw [wrap64 (by omega) (by omega)]; rfl
theorem dec_true (p : Prop) [Decidable p] (h : p) : decide p = true := decide_eq_true h

/-- A loop along a list. -/
theorem loop_list {α σ : Type} {P : Program} {md : Nat → FMode} (xs : List α) (L : Nat → Nat → σ → Tree) (f : List α → σ → List D) (I : List α → σ → Prop)
    (hnil : ∀ m k s, k = xs.length → I [] s → (L (m + 1) k s).wp P md (fun zs => zs = f [] s))
    (hcons : ∀ m k s x rest, xs.drop k = x :: rest → I (x :: rest) s → (∀ s', I rest s' → (L m (k + 1) s').wp P md (fun zs => zs = f rest s')) → (L (m + 1) k s).wp P md (fun zs => zs = f (x :: rest) s)) :
    ∀ m k s, xs.length - k < m → k ≤ xs.length → I (xs.drop k) s → (L m k s).wp P md (fun zs => zs = f (xs.drop k) s) := by
  intro m
  induction m with
  | zero => intro k s h; omega
  | succ m ih =>
    intro k s h1 h2 hI
    cases hd : xs.drop k with
    | nil => rw [hd] at hI; exact hnil m k s (by have := drop_nil hd; omega) hI
    | cons x rest =>
      rw [hd] at hI
      obtain ⟨a1, a2, a3⟩ := drop_cons hd
      refine hcons m k s x rest hd hI (fun s' hI' => ?_)
      have := ih (k + 1) s' (by omega) (by omega) (by rw [a3]; exact hI')
      rwa [a3] at this
/-- A loop that counts up. -/
theorem loop_up {σ : Type} {P : Program} {md : Nat → FMode} (N : Nat) (L : Nat → Nat → σ → Tree) (f : Nat → σ → List D) (I : Nat → σ → Prop)
    (hend : ∀ m s, I N s → (L (m + 1) N s).wp P md (fun zs => zs = f N s))
    (hstep : ∀ m k s, k < N → I k s → (∀ s', I (k + 1) s' → (L m (k + 1) s').wp P md (fun zs => zs = f (k + 1) s')) → (L (m + 1) k s).wp P md (fun zs => zs = f k s)) :
    ∀ m k s, N - k < m → k ≤ N → I k s → (L m k s).wp P md (fun zs => zs = f k s) := by
  intro m
  induction m with
  | zero => intro k s h; omega
  | succ m ih =>
    intro k s h1 h2 hI
    by_cases hk : k = N
    · subst hk; exact hend m s hI
    · exact hstep m k s (by omega) hI (fun s' hI' => ih (k + 1) s' (by omega) (by omega) hI')
/-- A loop that counts down to 0, from k-1 on. -/
theorem loop_down {σ : Type} {P : Program} {md : Nat → FMode} (L : Nat → Nat → σ → Tree) (f : Nat → σ → List D) (I : Nat → σ → Prop)
    (hend : ∀ m s, I 0 s → (L (m + 1) 0 s).wp P md (fun zs => zs = f 0 s))
    (hstep : ∀ m k s, I (k + 1) s → (∀ s', I k s' → (L m k s').wp P md (fun zs => zs = f k s')) → (L (m + 1) (k + 1) s).wp P md (fun zs => zs = f (k + 1) s)) :
    ∀ m k s, k < m → I k s → (L m k s).wp P md (fun zs => zs = f k s) := by
  intro m
  induction m with
  | zero => intro k s h; omega
  | succ m ih =>
    intro k s h1 hI
    cases k with
    | zero => exact hend m s hI
    | succ k => exact hstep m k s hI (fun s' hI' => ih k s' (by omega) hI')
end Go.Proofs.YtjmddikeadbmjaaGreat
namespace Go.Proofs.YtjmddikeadbmjaaGreat

def B : Nat := 4294967296
theorem B_eq : B = 4294967296 := rfl
theorem B_pos : 0 < B := by decide
theorem Bp (i : Nat) : 0 < B ^ i := Nat.pow_pos B_pos
theorem limb_lt (x : Limb) : x.toNat < B := x.isLt
def nv : List Limb → Nat
  | [] => 0
  | x :: l => x.toNat + B * nv l
@[simp] theorem nv_nil : nv [] = 0 := rfl
theorem nv_append (l m : List Limb) : nv (l ++ m) = nv l + B ^ l.length * nv m := by
  induction l with
  | nil => simp
  | cons x l ih =>
    simp only [List.cons_append, nv, ih, List.length_cons, Nat.pow_succ, Nat.mul_add]
    rw [Nat.mul_comm (B ^ l.length) B, Nat.mul_assoc]; omega
theorem nv_snoc (l : List Limb) (x : Limb) : nv (l ++ [x]) = nv l + B ^ l.length * x.toNat := by rw [nv_append]; simp [nv]
theorem nv_lt (l : List Limb) : nv l < B ^ l.length := by
  induction l with
  | nil => simp
  | cons x l ih =>
    simp only [nv, List.length_cons, Nat.pow_succ]
    have hx := limb_lt x
    have : B * (nv l + 1) ≤ B * B ^ l.length := Nat.mul_le_mul_left _ ih
    rw [Nat.mul_comm (B ^ l.length) B]
    rw [Nat.mul_add] at this
    omega
theorem nv_drop (l : List Limb) (i : Nat) : nv (l.drop i) = nv l / B ^ i := by
  induction i generalizing l with
  | zero => simp
  | succ i ih =>
    cases l with
    | nil => simp
    | cons x l =>
      rw [List.drop_succ_cons, ih, Nat.pow_succ, Nat.mul_comm, ← Nat.div_div_eq_div_mul]
      simp only [nv]
      rw [Nat.add_mul_div_left _ _ B_pos, Nat.div_eq_of_lt (limb_lt x), Nat.zero_add]
/-- A limb. -/
theorem nv_limb (l : List Limb) (i : Nat) (hi : i < l.length) : (l[i]).toNat = nv l / B ^ i % B := by
  rw [← nv_drop, List.drop_eq_getElem_cons hi, nv, Nat.add_mul_mod_self_left, Nat.mod_eq_of_lt (limb_lt _)]
theorem nv_limb' (l : List Limb) (i : Nat) (hi : l.length ≤ i) : nv l / B ^ i % B = 0 := by
  rw [← nv_drop, List.drop_eq_nil_of_le hi]; rfl
theorem nv_zeros (k : Nat) : nv (List.replicate k 0) = 0 := by
  induction k with
  | zero => rfl
  | succ k ih => rw [List.replicate_succ, nv, ih]; rfl
/-- A digit more. -/
theorem nv_step {out : List Limb} {z i : Nat} {d : Limb} (hl : out.length = i) (h : nv out = z % B ^ i) (hd : d.toNat = z / B ^ i % B) : nv (out ++ [d]) = z % B ^ (i + 1) := by
  rw [nv_snoc, hl, h, hd, Nat.mod_pow_succ]

/-- The limbs of a number. -/
def lb (n : Nat) : List Limb := if h : n = 0 then [] else BitVec.ofNat 32 n :: lb (n / B)
termination_by n
decreasing_by exact Nat.div_lt_self (Nat.pos_of_ne_zero h) (by decide)
theorem lb_zero : lb 0 = [] := by rw [lb]; simp
theorem lb_pos {n : Nat} (h : n ≠ 0) : lb n = BitVec.ofNat 32 n :: lb (n / B) := by rw [lb, dif_neg h]
theorem nv_lb (n : Nat) : nv (lb n) = n := by
  induction n using Nat.strongRecOn with
  | _ n ih =>
    by_cases h : n = 0
    · subst h; rw [lb_zero]; rfl
    · rw [lb_pos h, nv, ih _ (Nat.div_lt_self (Nat.pos_of_ne_zero h) (by decide)), BitVec.toNat_ofNat]
      exact Nat.mod_add_div n B
theorem lb_inj {m n : Nat} (h : lb m = lb n) : m = n := by rw [← nv_lb m, h, nv_lb]
theorem lb_len {n k : Nat} : (lb n).length ≤ k ↔ n < B ^ k := by
  induction k generalizing n with
  | zero =>
    by_cases h : n = 0
    · subst h; simp [lb_zero]
    · rw [lb_pos h]; simp; omega
  | succ k ih =>
    by_cases h : n = 0
    · subst h; simp [lb_zero, Bp]
    · rw [lb_pos h, List.length_cons, Nat.succ_le_succ_iff, ih, Nat.div_lt_iff_lt_mul B_pos, Nat.pow_succ]
theorem lb_eq_nil {n : Nat} : lb n = [] ↔ n = 0 := by
  constructor
  · intro h; have := nv_lb n; rw [h] at this; simpa using this.symm
  · rintro rfl; exact lb_zero
theorem lb_len0 {n : Nat} : (lb n).length = 0 ↔ n = 0 := by rw [List.length_eq_zero_iff, lb_eq_nil]
/-- No 0 on top. -/
theorem lb_can {l : List Limb} (h : ∀ hne : l ≠ [], l.getLast hne ≠ 0) : lb (nv l) = l := by
  induction l with
  | nil => simp [lb_zero]
  | cons x l ih =>
    have ihl := ih (fun hne => by have := h (by simp); rwa [List.getLast_cons hne] at this)
    have hpos : nv (x :: l) ≠ 0 := by
      intro h0
      simp only [nv] at h0
      cases l with
      | nil =>
        have := h (by simp)
        simp only [List.getLast_singleton] at this
        exact this (BitVec.eq_of_toNat_eq (by simp; omega))
      | cons y m =>
        have hv : nv (y :: m) = 0 := by
          rcases Nat.eq_zero_or_pos (nv (y :: m)) with h | h
          · exact h
          · have := Nat.mul_le_mul_left B h; rw [B_eq] at this h0; omega
        rw [hv, lb_zero] at ihl
        cases ihl
    rw [lb_pos hpos]
    have e2 : nv (x :: l) / B = nv l := by simp only [nv]; rw [Nat.add_mul_div_left _ _ B_pos, Nat.div_eq_of_lt (limb_lt x), Nat.zero_add]
    rw [e2, ihl]
    congr 1
    apply BitVec.eq_of_toNat_eq
    simp only [nv, BitVec.toNat_ofNat]
    show (x.toNat + B * nv l) % B = x.toNat
    rw [Nat.add_mul_mod_self_left, Nat.mod_eq_of_lt (limb_lt x)]
theorem lb_last {n : Nat} (hne : lb n ≠ []) : (lb n).getLast hne ≠ 0 := by
  induction n using Nat.strongRecOn with
  | _ n ih =>
    have h : n ≠ 0 := fun h => hne (lb_eq_nil.2 h)
    have he := lb_pos h
    by_cases h2 : n / B = 0
    · rw [h2, lb_zero] at he
      simp only [he, List.getLast_singleton]
      intro h0
      have := congrArg BitVec.toNat h0
      simp only [BitVec.toNat_ofNat] at this
      have hlt : n < B := (Nat.div_eq_zero_iff.1 h2).resolve_left (by decide)
      rw [B_eq] at hlt
      simp at this
      omega
    · have hne2 : lb (n / B) ≠ [] := fun hh => h2 (lb_eq_nil.1 hh)
      have := ih (n / B) (Nat.div_lt_self (Nat.pos_of_ne_zero h) (by decide)) hne2
      simp only [he, List.getLast_cons hne2]
      exact this
/-- Noughts on top taken off. -/
theorem lb_take {l : List Limb} {k : Nat} (hk : k ≤ l.length) (hz : ∀ i, k ≤ i → (hi : i < l.length) → l[i] = 0) (ht : ∀ (hi : k - 1 < l.length), 0 < k → l[k - 1] ≠ 0) : lb (nv l) = l.take k := by
  have e : nv l = nv (l.take k) := by
    have := nv_append (l.take k) (l.drop k)
    rw [List.take_append_drop] at this
    have hd : l.drop k = List.replicate (l.length - k) 0 := by
      apply List.ext_getElem
      · simp
      · intro i h1 h2
        simp only [List.getElem_drop, List.getElem_replicate]
        exact hz _ (by omega) _
    rw [this, hd, nv_zeros]; simp
  rw [e]
  apply lb_can
  intro hne
  have hk0 : 0 < k := by
    rcases Nat.eq_zero_or_pos k with h | h
    · subst h; simp at hne
    · exact h
  rw [List.getLast_eq_getElem]
  simp only [List.getElem_take, List.length_take]
  have := ht (by omega) hk0
  have he : min k l.length - 1 = k - 1 := by omega
  simp only [he]
  exact this
theorem nv_len {n k : Nat} (h : n < B ^ k) : (lb n).length ≤ k := lb_len.2 h
theorem add_digit (x y i : Nat) : (x + y) / B ^ i % B = (x / B ^ i % B + y / B ^ i % B + (x % B ^ i + y % B ^ i) / B ^ i) % B := by
  have h1 : (x + y) / B ^ i = x / B ^ i + y / B ^ i + (x % B ^ i + y % B ^ i) / B ^ i := by
    have hx := Nat.div_add_mod x (B ^ i)
    have hy := Nat.div_add_mod y (B ^ i)
    conv => lhs; rw [← hx, ← hy]
    rw [show B ^ i * (x / B ^ i) + x % B ^ i + (B ^ i * (y / B ^ i) + y % B ^ i) = (x % B ^ i + y % B ^ i) + B ^ i * (x / B ^ i + y / B ^ i) by rw [Nat.mul_add]; omega, Nat.add_mul_div_left _ _ (Bp i)]
    omega
  rw [h1]
  simp [Nat.add_mod]
theorem add_carry (x y i : Nat) : (x % B ^ (i + 1) + y % B ^ (i + 1)) / B ^ (i + 1) = (x / B ^ i % B + y / B ^ i % B + (x % B ^ i + y % B ^ i) / B ^ i) / B := by
  rw [Nat.mod_pow_succ, Nat.mod_pow_succ, Nat.pow_succ, ← Nat.div_div_eq_div_mul]
  congr 1
  rw [show x % B ^ i + B ^ i * (x / B ^ i % B) + (y % B ^ i + B ^ i * (y / B ^ i % B)) = (x % B ^ i + y % B ^ i) + B ^ i * (x / B ^ i % B + y / B ^ i % B) by rw [Nat.mul_add]; omega, Nat.add_mul_div_left _ _ (Bp i)]
  omega
theorem lt_of_div {x y b : Nat} (h : x / b < y / b) : x < y := by
  rcases Nat.lt_or_ge x y with h1 | h1
  · exact h1
  · have := Nat.div_le_div_right (c := b) h1; omega
/-- A difference is a sum, from the other end. -/
theorem sub_digit {x y : Nat} (h : y ≤ x) (i : Nat) : ∃ zi c c', zi = (x - y) / B ^ i % B ∧ c = ((x - y) % B ^ i + y % B ^ i) / B ^ i ∧ c' = ((x - y) % B ^ (i + 1) + y % B ^ (i + 1)) / B ^ (i + 1) ∧ c' ≤ 1 ∧ x / B ^ i % B + B * c' = zi + y / B ^ i % B + c := by
  refine ⟨_, _, _, rfl, rfl, rfl, ?_, ?_⟩
  · have h1 := Nat.mod_lt (x - y) (Bp (i + 1))
    have h2 := Nat.mod_lt y (Bp (i + 1))
    have : ((x - y) % B ^ (i + 1) + y % B ^ (i + 1)) / B ^ (i + 1) < 2 := by rw [Nat.div_lt_iff_lt_mul (Bp _)]; omega
    omega
  · have h1 := add_digit (x - y) y i
    rw [Nat.sub_add_cancel h] at h1
    rw [add_carry, h1]
    exact Nat.mod_add_div _ _
theorem two_digit (x b i : Nat) : (2 * x + b) / B ^ i % B = (2 * (x / B ^ i % B) + (2 * (x % B ^ i) + b) / B ^ i) % B := by
  have h1 : (2 * x + b) / B ^ i = 2 * (x / B ^ i) + (2 * (x % B ^ i) + b) / B ^ i := by
    have hx := Nat.div_add_mod x (B ^ i)
    conv => lhs; rw [← hx]
    rw [show 2 * (B ^ i * (x / B ^ i) + x % B ^ i) + b = (2 * (x % B ^ i) + b) + B ^ i * (2 * (x / B ^ i)) by rw [Nat.mul_add, Nat.mul_left_comm]; omega, Nat.add_mul_div_left _ _ (Bp i)]
    omega
  rw [h1]
  simp [Nat.add_mod, Nat.mul_mod]
theorem two_carry (x b i : Nat) : (2 * (x % B ^ (i + 1)) + b) / B ^ (i + 1) = (2 * (x / B ^ i % B) + (2 * (x % B ^ i) + b) / B ^ i) / B := by
  rw [Nat.mod_pow_succ, Nat.pow_succ, ← Nat.div_div_eq_div_mul]
  congr 1
  rw [show 2 * (x % B ^ i + B ^ i * (x / B ^ i % B)) + b = (2 * (x % B ^ i) + b) + B ^ i * (2 * (x / B ^ i % B)) by rw [Nat.mul_add, Nat.mul_left_comm]; omega, Nat.add_mul_div_left _ _ (Bp i)]
  omega
theorem B_two (i : Nat) : B ^ i = 2 ^ (32 * i) := by rw [Nat.pow_mul]; rfl
theorem bit_limb (x i : Nat) : x / B ^ (i / 32) % B / 2 ^ (i % 32) % 2 = x / 2 ^ i % 2 := by
  have h1 := Nat.toNat_testBit (x / B ^ (i / 32) % B) (i % 32)
  have h2 := Nat.toNat_testBit x i
  rw [← h1, ← h2]
  congr 1
  rw [show B = 2 ^ 32 from rfl, Nat.testBit_mod_two_pow, ← Nat.pow_mul, Nat.testBit_div_two_pow]
  have : i % 32 < 32 := Nat.mod_lt _ (by decide)
  simp only [this, decide_true, Bool.true_and]
  congr 1
  omega
theorem mod_half {x y : Nat} (h : y ≠ 0) (h2 : x % y ≠ 0) : 2 * (y % (x % y)) < y := by
  have h1 := Nat.mod_lt x (Nat.pos_of_ne_zero h)
  rcases Nat.lt_or_ge y (2 * (x % y)) with h3 | h3
  · have : y % (x % y) = y - x % y := by
      rw [Nat.mod_eq_sub_mod (by omega), Nat.mod_eq_of_lt (by omega)]
    omega
  · have := Nat.mod_lt y (Nat.pos_of_ne_zero h2)
    omega
end Go.Proofs.YtjmddikeadbmjaaGreat
set_option maxRecDepth 100000
namespace Go.Proofs.YtjmddikeadbmjaaGreat

theorem dB_ofNat {t : Nat} (h : t < B) : D.int (t : Int) = dB (BitVec.ofNat 32 t) := by
  show _ = D.int ((BitVec.ofNat 32 t).toNat : Int)
  rw [show (BitVec.ofNat 32 t).toNat = t by rw [BitVec.toNat_ofNat]; exact Nat.mod_eq_of_lt h]
theorem ofNat_lt {t : Nat} (h : t < B) : (BitVec.ofNat 32 t).toNat = t := by rw [BitVec.toNat_ofNat]; exact Nat.mod_eq_of_lt h
theorem wrap_pred (k : Nat) (h : k < 9223372036854775807) : IntKind.wrap .i64 (((k + 1 : Nat) : Int) - 1) = (k : Int) := by rw [wrap64 (by omega) (by omega)]; omega
theorem dL_take (l : List Limb) (k : Nat) : D.sl ((l.map dB).take k) = dL (l.take k) := by rw [dL, List.map_take]
theorem dL_nil : D.sl [] = dL [] := rfl
theorem ref02_Norm_sp (l : List Limb) (hl : l.length ≤ 1000000) : Sp 135 [dL l] [dL (lb (nv l))] := by
  refine sound_ (l.length + 1) (ref02_Norm_tree _ _) ?_
  have := loop_down (P := Tryz.prog) (md := md) (fun m k (_ : Unit) => ref02_Norm_l2 (l.length + 1) m (dL l) (k : Int)) (fun _ _ => [dL (lb (nv l))]) (fun k _ => k ≤ l.length ∧ ∀ i, k ≤ i → (hi : i < l.length) → l[i] = 0)
    (fun m s ⟨h1, h2⟩ => by
      simp only [ref02_Norm_l2_succ, els_dL, List.length_map, List.length_take]
      refine wp_ndec (by omega) (wp_dec (by omega) (wp_dec (by omega) (wp_dec (by simp [bigN]) (wp_ret ?_))))
      rw [lb_take (k := 0) (by omega) h2 (fun _ h => by omega), dL_take]; rfl)
    (fun m k s ⟨h1, h2⟩ ih => by
      have hk : l[k]? = some l[k] := List.getElem?_eq_getElem _
      simp only [ref02_Norm_l2_succ, els_dL, List.length_map, List.length_take, wrap_pred k (by omega), Int.toNat_natCast, getD_map hk, toInt_dB, int_beq]
      refine wp_dec (by omega) (wp_dec (by omega) (wp_dec (by omega) (wp_decs (fun h => ?_) (fun h => ?_))))
      · refine ih () ⟨by omega, fun i hi hlt => ?_⟩
        by_cases he : i = k
        · subst he; exact BitVec.eq_of_toNat_eq (by simp; omega)
        · exact h2 i (by omega) hlt
      · refine wp_dec (by omega) (wp_dec (by omega) (wp_dec (by unfold bigN; omega) (wp_ret ?_)))
        rw [lb_take (k := k + 1) (by omega) h2 (fun _ _ hc => h (by have hc' : l[k] = 0 := hc; rw [hc']; rfl)), dL_take])
    (l.length + 1) l.length () (by omega) ⟨Nat.le_refl _, fun i h1 h2 => by omega⟩
  simpa using this
theorem ref02_limb_sp (l : List Limb) (i : Nat) (hi : i < 9223372036854775807) : Sp 155 [dL l, .int i] [.int ((nv l / B ^ i % B : Nat) : Int)] := by
  refine sound_ 0 (ref02_limb_tree _ _ _) ?_
  simp only [els_dL, List.length_map, toInt_int, Int.toNat_natCast]
  refine wp_decs (fun h => ?_) (fun h => ?_)
  · have hk : l[i]? = some (l[i]'(by omega)) := List.getElem?_eq_getElem _
    refine wp_dec (by omega) (wp_dec (by omega) (wp_ret ?_))
    have := limb_lt l[i]
    rw [getD_map hk, toInt_dB, wrapU64 (by omega) (by rw [B_eq] at this; omega), nv_limb]
  · refine wp_ret ?_
    rw [nv_limb' _ _ (by omega)]; rfl
theorem ref02_longer_sp (a b : List Limb) : Sp 154 [dL a, dL b] [.int ((max a.length b.length : Nat) : Int)] := by
  refine sound_ 0 (ref02_longer_tree _ _ _) ?_
  simp only [els_dL, List.length_map]
  refine wp_decs (fun h => wp_ret ?_) (fun h => wp_ret ?_)
  · rw [Nat.max_eq_left (by omega)]
  · rw [Nat.max_eq_right (by omega)]
/-- Which one is greater? -/
def cmpN (a b : Nat) : Int := if a < b then -1 else if a = b then 0 else 1
theorem ref02_Cmp_sp (a b : List Limb) (ha : a.length ≤ 1000000) (hb : b.length ≤ 1000000) : Sp 153 [dL a, dL b] [.int (cmpN (nv a) (nv b))] := by
  refine sound_ (max a.length b.length + 1) (ref02_Cmp_tree _ _ _) (wp_call (ref02_longer_sp a b) ?_)
  simp only [getD_c0, toInt_int]
  have key := loop_down (P := Tryz.prog) (md := md) (fun m k (_ : Unit) => ref02_Cmp_l2 (max a.length b.length + 1) m (dL a) (dL b) ((k : Int) - 1)) (fun _ _ => [.int (cmpN (nv a) (nv b))]) (fun k _ => k ≤ 1000000 ∧ nv a / B ^ k = nv b / B ^ k)
    (fun m s ⟨_, h⟩ => by
      simp only [ref02_Cmp_l2_succ]
      refine wp_ndec (by omega) (wp_ret ?_)
      simp at h
      simp [cmpN, h])
    (fun m k s ⟨h0, h⟩ ih => by
      simp only [ref02_Cmp_l2_succ, show ((k + 1 : Nat) : Int) - 1 = (k : Int) by omega]
      have ea := Nat.div_add_mod (nv a / B ^ k) B
      have eb := Nat.div_add_mod (nv b / B ^ k) B
      rw [Nat.div_div_eq_div_mul, ← Nat.pow_succ] at ea eb
      rw [h] at ea
      generalize B * (nv b / B ^ (k + 1)) = q at ea eb
      refine wp_dec (by omega) (wp_call (ref02_limb_sp a k (by omega)) (wp_call (ref02_limb_sp b k (by omega)) ?_))
      simp only [getD_c0, toInt_int]
      refine wp_decs (fun h' => wp_ret ?_) (fun h' => wp_call (ref02_limb_sp a k (by omega)) (wp_call (ref02_limb_sp b k (by omega)) ?_))
      · have hlt := lt_of_div (show nv a / B ^ k < nv b / B ^ k by omega)
        simp only [cmpN]; rw [if_pos hlt]
      · simp only [getD_c0, toInt_int]
        refine wp_decs (fun h2 => wp_ret ?_) (fun h2 => ?_)
        · have hlt := lt_of_div (show nv b / B ^ k < nv a / B ^ k by omega)
          simp only [cmpN]; rw [if_neg (by omega), if_neg (by omega)]
        · rw [wrap64 (by omega) (by omega)]
          exact ih () ⟨by omega, by omega⟩)
    (max a.length b.length + 1) (max a.length b.length) () (by omega) ⟨by omega, by
      rw [Nat.div_eq_of_lt, Nat.div_eq_of_lt]
      · exact Nat.lt_of_lt_of_le (nv_lt b) (Nat.pow_le_pow_right B_pos (Nat.le_max_right _ _))
      · exact Nat.lt_of_lt_of_le (nv_lt a) (Nat.pow_le_pow_right B_pos (Nat.le_max_left _ _))⟩
  rw [wrap64 (by omega) (by omega)]
  exact key
theorem nnil {l : List D} : l ++ [] = l := List.append_nil l
theorem ref02_Add_sp (a b : List Limb) (ha : a.length ≤ 100000) (hb : b.length ≤ 100000) : Sp 134 [dL a, dL b] [dL (lb (nv a + nv b))] := by
  refine sound_ (max a.length b.length + 3) (ref02_Add_tree _ _ _) ?_
  have hmx : max a.length b.length ≤ 100000 := by omega
  have hlt : nv a + nv b < B ^ (max a.length b.length + 1) := by
    have h1 : nv a < B ^ max a.length b.length := Nat.lt_of_lt_of_le (nv_lt a) (Nat.pow_le_pow_right B_pos (Nat.le_max_left _ _))
    have h2 : nv b < B ^ max a.length b.length := Nat.lt_of_lt_of_le (nv_lt b) (Nat.pow_le_pow_right B_pos (Nat.le_max_right _ _))
    rw [Nat.pow_succ, B_eq]; rw [B_eq] at h1 h2; omega
  have key := loop_up (P := Tryz.prog) (md := md) (max a.length b.length + 1) (fun m k (s : List Limb × Nat) => ref02_Add_l4 (max a.length b.length + 3) m (dL a) (dL b) (s.1.map dB) (s.2 : Int) (k : Int)) (fun _ _ => [dL (lb (nv a + nv b))])
    (fun k s => s.1.length = k ∧ nv s.1 = (nv a + nv b) % B ^ k ∧ s.2 = (nv a % B ^ k + nv b % B ^ k) / B ^ k)
    (fun m s ⟨h1, h2, h3⟩ => by
      simp only [ref02_Add_l4_succ]
      refine wp_call (ref02_longer_sp a b) ?_
      simp only [getD_c0, toInt_int]
      refine wp_ndec (by omega) (wp_call (ref02_Norm_sp s.1 (by omega)) (wp_ret ?_))
      rw [h2, Nat.mod_eq_of_lt hlt]; rfl)
    (fun m k s hk ⟨h1, h2, h3⟩ ih => by
      simp only [ref02_Add_l4_succ]
      refine wp_call (ref02_longer_sp a b) ?_
      simp only [getD_c0, toInt_int]
      refine wp_dec (by omega) (wp_call (ref02_limb_sp a k (by omega)) (wp_call (ref02_limb_sp b k (by omega)) ?_))
      simp only [getD_c0, toInt_int]
      have hd := add_digit (nv a) (nv b) k
      have hc := add_carry (nv a) (nv b) k
      have la := Nat.mod_lt (nv a / B ^ k) B_pos
      have lb' := Nat.mod_lt (nv b / B ^ k) B_pos
      have lc : s.2 ≤ 1 := by
        rw [h3]
        have r1 := Nat.mod_lt (nv a) (Bp k)
        have r2 := Nat.mod_lt (nv b) (Bp k)
        have : (nv a % B ^ k + nv b % B ^ k) / B ^ k < 2 := by rw [Nat.div_lt_iff_lt_mul (Bp k)]; omega
        omega
      rw [← h3] at hd hc
      generalize nv a / B ^ k % B = x at *
      generalize nv b / B ^ k % B = y at *
      have hB := B_eq
      rw [show (x + y + s.2) / B = (x + y + s.2) / 4294967296 from rfl] at hc
      have t1 : IntKind.wrap .u64 (IntKind.wrap .u64 ((x : Int) + (y : Int)) + (s.2 : Int)) = ((x + y + s.2 : Nat) : Int) := by
        rw [wrapU64 (x := (x : Int) + y) (by omega) (by omega), wrapU64 (by omega) (by omega)]; omega
      rw [t1, Int.tmod_eq_emod_of_nonneg (by omega), Int.tdiv_eq_ediv_of_nonneg (by omega), show (((x + y + s.2 : Nat) : Int) % 4294967296) = (((x + y + s.2) % B : Nat) : Int) by rw [B_eq]; omega,
        show (((x + y + s.2 : Nat) : Int) / 4294967296) = (((x + y + s.2) / 4294967296 : Nat) : Int) by omega]
      have hm := Nat.mod_lt (x + y + s.2) B_pos
      rw [wrapU32 (x := (((x + y + s.2) % B : Nat) : Int)) (by omega) (by generalize (x + y + s.2) % B = z at *; omega), wrapU64 (x := (((x + y + s.2) / 4294967296 : Nat) : Int)) (by omega) (by omega), wrap_succ (by omega), dB_ofNat hm]
      simp only [List.length_map, List.length_singleton]
      refine wp_tt (by decide) (wp_dec (by unfold bigN; omega) (wp_tt (by decide) ?_))
      have := ih (s.1 ++ [BitVec.ofNat 32 ((x + y + s.2) % B)], (x + y + s.2) / 4294967296) ⟨by simp [h1], nv_step h1 h2 (by rw [ofNat_lt hm, hd]), by rw [hc]⟩
      simpa using this)
    (max a.length b.length + 3) 0 ([], 0) (by omega) (by omega) ⟨rfl, by simp [Nat.mod_one], by simp [Nat.mod_one]⟩
  exact key
theorem sub_arith {x y zi c c' : Nat} (hx : x < B) (hy : y < B) (hz : zi < B) (hc : c ≤ 1) (hc' : c' ≤ 1) (e : x + B * c' = zi + y + c) :
    IntKind.wrap .u32 (Int.tmod (IntKind.wrap .u64 (IntKind.wrap .u64 (IntKind.wrap .u64 (4294967296 + (x : Int)) - (y : Int)) - (c : Int))) 4294967296) = (zi : Int) ∧
    IntKind.wrap .u64 (1 - IntKind.wrap .u64 (Int.tdiv (IntKind.wrap .u64 (IntKind.wrap .u64 (IntKind.wrap .u64 (4294967296 + (x : Int)) - (y : Int)) - (c : Int))) 4294967296)) = (c' : Int) := by
  rw [B_eq] at hx hy hz e
  have t1 : IntKind.wrap .u64 (IntKind.wrap .u64 (IntKind.wrap .u64 (4294967296 + (x : Int)) - (y : Int)) - (c : Int)) = (zi : Int) + 4294967296 * (1 - (c' : Int)) := by
    rw [wrapU64 (x := 4294967296 + (x : Int)) (by omega) (by omega), wrapU64 (x := 4294967296 + (x : Int) - y) (by omega) (by omega), wrapU64 (by omega) (by omega)]; omega
  rw [t1, Int.tmod_eq_emod_of_nonneg (by omega), Int.tdiv_eq_ediv_of_nonneg (by omega), show ((zi : Int) + 4294967296 * (1 - (c' : Int))) % 4294967296 = (zi : Int) by omega, show ((zi : Int) + 4294967296 * (1 - (c' : Int))) / 4294967296 = 1 - (c' : Int) by omega]
  rw [wrapU32 (x := (zi : Int)) (by omega) (by omega), wrapU64 (x := 1 - (c' : Int)) (by omega) (by omega), show (1 : Int) - (1 - (c' : Int)) = (c' : Int) by omega, wrapU64 (x := (c' : Int)) (by omega) (by omega)]
  exact ⟨rfl, rfl⟩
theorem ref02_Sub_sp (a b : List Limb) (ha : a.length ≤ 100000) (hb : b.length ≤ 100000) : Sp 138 [dL a, dL b] [dL (lb (nv a - nv b)), .bool (decide (nv b ≤ nv a))] := by
  refine sound_ (max a.length b.length + 3) (ref02_Sub_tree _ _ _) (wp_call (ref02_Cmp_sp a b (by omega) (by omega)) ?_)
  have hmx : max a.length b.length ≤ 100000 := by omega
  simp only [getD_c0, toInt_int]
  refine wp_decs (fun h => wp_ret ?_) (fun h => ?_)
  · have hlt : nv a < nv b := by
      unfold cmpN at h
      rcases Nat.lt_or_ge (nv a) (nv b) with h1 | h1
      · exact h1
      · rw [if_neg (by omega)] at h; split at h <;> omega
    rw [Nat.sub_eq_zero_of_le (by omega), lb_zero, decide_eq_false (by omega)]; rfl
  · have hge : nv b ≤ nv a := by
      unfold cmpN at h
      rcases Nat.lt_or_ge (nv a) (nv b) with h1 | h1
      · rw [if_pos h1] at h; omega
      · exact h1
    rw [decide_eq_true hge]
    have hlt : nv a - nv b < B ^ max a.length b.length := by
      have h1 : nv a < B ^ max a.length b.length := Nat.lt_of_lt_of_le (nv_lt a) (Nat.pow_le_pow_right B_pos (Nat.le_max_left _ _))
      omega
    have key := loop_up (P := Tryz.prog) (md := md) (max a.length b.length) (fun m k (s : List Limb × Nat) => ref02_Sub_l6 (max a.length b.length + 3) m (dL a) (dL b) (s.1.map dB) (s.2 : Int) (k : Int)) (fun _ _ => [dL (lb (nv a - nv b)), .bool true])
      (fun k s => s.1.length = k ∧ nv s.1 = (nv a - nv b) % B ^ k ∧ s.2 = ((nv a - nv b) % B ^ k + nv b % B ^ k) / B ^ k)
      (fun m s ⟨h1, h2, h3⟩ => by
        simp only [ref02_Sub_l6_succ]
        refine wp_call (ref02_longer_sp a b) ?_
        simp only [getD_c0, toInt_int]
        refine wp_ndec (by omega) (wp_call (ref02_Norm_sp s.1 (by omega)) (wp_ret ?_))
        rw [h2, Nat.mod_eq_of_lt hlt]; rfl)
      (fun m k s hk ⟨h1, h2, h3⟩ ih => by
        simp only [ref02_Sub_l6_succ]
        refine wp_call (ref02_longer_sp a b) ?_
        simp only [getD_c0, toInt_int]
        refine wp_dec (by omega) (wp_call (ref02_limb_sp a k (by omega)) (wp_call (ref02_limb_sp b k (by omega)) ?_))
        simp only [getD_c0, toInt_int]
        obtain ⟨zi, c, c', e1, e2, e3, e4, e5⟩ := sub_digit hge k
        have la := Nat.mod_lt (nv a / B ^ k) B_pos
        have lb' := Nat.mod_lt (nv b / B ^ k) B_pos
        have lz := Nat.mod_lt ((nv a - nv b) / B ^ k) B_pos
        rw [← e1] at lz
        rw [← e2] at h3
        have hB := B_eq
        have lc : c ≤ 1 := by
          rw [e2]
          have r1 := Nat.mod_lt (nv a - nv b) (Bp k)
          have r2 := Nat.mod_lt (nv b) (Bp k)
          have : ((nv a - nv b) % B ^ k + nv b % B ^ k) / B ^ k < 2 := by rw [Nat.div_lt_iff_lt_mul (Bp k)]; omega
          omega
        rw [h3]
        generalize nv a / B ^ k % B = x at *
        generalize nv b / B ^ k % B = y at *
        obtain ⟨t1, t2⟩ := sub_arith la lb' lz lc e4 e5
        rw [t1, t2, wrap_succ (by omega), dB_ofNat lz]
        simp only [List.length_map, List.length_singleton]
        refine wp_tt (by decide) (wp_dec (by unfold bigN; omega) (wp_tt (by decide) ?_))
        have := ih (s.1 ++ [BitVec.ofNat 32 zi], c') ⟨by simp [h1], nv_step h1 h2 (by rw [ofNat_lt lz, e1]), e3⟩
        simpa using this)
      (max a.length b.length + 3) 0 ([], 0) (by omega) (by omega) ⟨rfl, by simp [Nat.mod_one], by simp [Nat.mod_one]⟩
    exact key
theorem ref02_twice_sp (a : List Limb) (b : Nat) (hb : b ≤ 1) (ha : a.length ≤ 100000) : Sp 136 [dL a, .int b] [dL (lb (2 * nv a + b))] := by
  refine sound_ (a.length + 3) (ref02_twice_tree _ _ _) ?_
  have hlt : 2 * nv a + b < B ^ (a.length + 1) := by
    have := nv_lt a
    rw [Nat.pow_succ, B_eq]; rw [B_eq] at this; omega
  have key := loop_up (P := Tryz.prog) (md := md) (a.length + 1) (fun m k (s : List Limb × Nat) => ref02_twice_l4 (a.length + 3) m (dL a) (s.1.map dB) (s.2 : Int) (k : Int)) (fun _ _ => [dL (lb (2 * nv a + b))])
    (fun k s => s.1.length = k ∧ nv s.1 = (2 * nv a + b) % B ^ k ∧ s.2 = (2 * (nv a % B ^ k) + b) / B ^ k)
    (fun m s ⟨h1, h2, h3⟩ => by
      simp only [ref02_twice_l4_succ, els_dL, List.length_map]
      refine wp_ndec (by omega) (wp_call (ref02_Norm_sp s.1 (by omega)) (wp_ret ?_))
      rw [h2, Nat.mod_eq_of_lt hlt]; rfl)
    (fun m k s hk ⟨h1, h2, h3⟩ ih => by
      simp only [ref02_twice_l4_succ, els_dL, List.length_map]
      refine wp_dec (by omega) (wp_call (ref02_limb_sp a k (by omega)) ?_)
      simp only [getD_c0, toInt_int]
      have hd := two_digit (nv a) b k
      have hc := two_carry (nv a) b k
      have la := Nat.mod_lt (nv a / B ^ k) B_pos
      have hB := B_eq
      have lc : s.2 ≤ 1 := by
        rw [h3]
        have r1 := Nat.mod_lt (nv a) (Bp k)
        have : (2 * (nv a % B ^ k) + b) / B ^ k < 2 := by rw [Nat.div_lt_iff_lt_mul (Bp k)]; omega
        omega
      rw [← h3] at hd hc
      generalize nv a / B ^ k % B = x at *
      rw [show (2 * x + s.2) / B = (2 * x + s.2) / 4294967296 from rfl] at hc
      have t1 : IntKind.wrap .u64 (IntKind.wrap .u64 (2 * (x : Int)) + (s.2 : Int)) = ((2 * x + s.2 : Nat) : Int) := by
        rw [wrapU64 (x := 2 * (x : Int)) (by omega) (by omega), wrapU64 (by omega) (by omega)]; omega
      rw [t1, Int.tmod_eq_emod_of_nonneg (by omega), Int.tdiv_eq_ediv_of_nonneg (by omega), show (((2 * x + s.2 : Nat) : Int) % 4294967296) = (((2 * x + s.2) % B : Nat) : Int) by rw [B_eq]; omega,
        show (((2 * x + s.2 : Nat) : Int) / 4294967296) = (((2 * x + s.2) / 4294967296 : Nat) : Int) by omega]
      have hm := Nat.mod_lt (2 * x + s.2) B_pos
      rw [wrapU32 (x := (((2 * x + s.2) % B : Nat) : Int)) (by omega) (by generalize (2 * x + s.2) % B = z at *; omega), wrapU64 (x := (((2 * x + s.2) / 4294967296 : Nat) : Int)) (by omega) (by omega), wrap_succ (by omega), dB_ofNat hm]
      simp only [List.length_singleton]
      refine wp_tt (by decide) (wp_dec (by unfold bigN; omega) (wp_tt (by decide) ?_))
      have := ih (s.1 ++ [BitVec.ofNat 32 ((2 * x + s.2) % B)], (2 * x + s.2) / 4294967296) ⟨by simp [h1], nv_step h1 h2 (by rw [ofNat_lt hm, hd]), by rw [hc]⟩
      simpa using this)
    (a.length + 3) 0 ([], b) (by omega) (by omega) ⟨rfl, by simp [Nat.mod_one], by simp [Nat.mod_one]⟩
  simp only [toInt_int]
  rw [wrapU64 (by omega) (by omega)]
  exact key
theorem ref02_Bit_sp (a : List Limb) (i : Nat) (hi : i < 9223372036854775807) : Sp 137 [dL a, .int i] [.int ((nv a / 2 ^ i % 2 : Nat) : Int)] := by
  refine sound_ 40 (ref02_Bit_tree _ _ _) (wp_tt (by decide) ?_)
  simp only [toInt_int]
  rw [Int.tdiv_eq_ediv_of_nonneg (by omega), show (i : Int) / 32 = ((i / 32 : Nat) : Int) by omega, wrap64 (by omega) (by omega)]
  refine wp_call (ref02_limb_sp a (i / 32) (by omega)) ?_
  simp only [getD_c0, toInt_int]
  have hm : Int.tmod (i : Int) 32 = ((i % 32 : Nat) : Int) := by rw [Int.tmod_eq_emod_of_nonneg (by omega)]; omega
  have key := loop_up (P := Tryz.prog) (md := md) (i % 32) (fun m k (v : Nat) => ref02_Bit_l3 40 m (i : Int) (v : Int) (k : Int)) (fun k v => [.int ((v / 2 ^ (i % 32 - k) % 2 : Nat) : Int)]) (fun _ v => v < 4294967296)
    (fun m v hv => by
      simp only [ref02_Bit_l3_succ, hm]
      refine wp_tt (by decide) (wp_ndec (by omega) (wp_tt (by decide) (wp_ret ?_)))
      rw [Int.tmod_eq_emod_of_nonneg (by omega), show (v : Int) % 2 = ((v % 2 : Nat) : Int) by omega, wrapU32 (by omega) (by omega)]
      simp)
    (fun m k v hk hv ih => by
      simp only [ref02_Bit_l3_succ, hm]
      refine wp_tt (by decide) (wp_dec (by omega) (wp_tt (by decide) ?_))
      rw [wrap_succ (by omega), Int.tdiv_eq_ediv_of_nonneg (by omega), show (v : Int) / 2 = ((v / 2 : Nat) : Int) by omega, wrapU64 (by omega) (by omega)]
      have := ih (v / 2) (by omega)
      rw [show i % 32 - k = (i % 32 - (k + 1)) + 1 by omega, Nat.pow_succ, Nat.mul_comm, ← Nat.div_div_eq_div_mul]
      exact this)
    40 0 (nv a / B ^ (i / 32) % B) (by omega) (by omega) (Nat.mod_lt _ B_pos)
  rw [Nat.sub_zero, bit_limb] at key
  exact key
theorem ref02_DivMod_sp (a b : List Limb) (ha : a.length ≤ 10000) (hb : b.length ≤ 10000) : Sp 108 [dL a, dL b] [dL (lb (nv a / nv b)), dL (lb (if nv b = 0 then 0 else nv a % nv b)), .bool (decide (nv b ≠ 0))] := by
  refine sound_ (32 * a.length + 1) (ref02_DivMod_tree _ _ _) (wp_call (ref02_Norm_sp b (by omega)) ?_)
  simp only [getD_c0, els_dL, List.length_map, int_beq]
  refine wp_decs (fun h => wp_ret ?_) (fun h => ?_)
  · have h0 : nv b = 0 := lb_len0.1 (by omega)
    simp [h0, lb_zero, dL]
  · have h0 : nv b ≠ 0 := fun hh => h (by rw [hh, lb_zero]; rfl)
    rw [decide_eq_true h0, if_neg h0]
    have key := loop_down (P := Tryz.prog) (md := md) (fun m k (s : Nat × Nat) => ref02_DivMod_l5 (32 * a.length + 1) m (dL a) (dL b) (dL (lb s.1)) (dL (lb s.2)) ((k : Int) - 1)) (fun _ _ => [dL (lb (nv a / nv b)), dL (lb (nv a % nv b)), .bool true])
      (fun k s => k ≤ 320000 ∧ nv a / 2 ^ k = nv b * s.1 + s.2 ∧ s.2 < nv b)
      (fun m s ⟨_, h1, h2⟩ => by
        simp only [ref02_DivMod_l5_succ]
        refine wp_ndec (by omega) (wp_ret ?_)
        simp only [Nat.pow_zero, Nat.div_one] at h1
        rw [h1, Nat.mul_add_div (Nat.pos_of_ne_zero h0), Nat.div_eq_of_lt h2, Nat.mul_add_mod, Nat.mod_eq_of_lt h2]; simp)
      (fun m k s ⟨hk, h1, h2⟩ ih => by
        simp only [ref02_DivMod_l5_succ, show ((k + 1 : Nat) : Int) - 1 = (k : Int) by omega]
        have hr : (lb s.2).length ≤ b.length := lb_len.2 (Nat.lt_trans h2 (nv_lt b))
        have hq : (lb s.1).length ≤ a.length := by
          refine lb_len.2 (Nat.lt_of_le_of_lt ?_ (nv_lt a))
          have h3 : nv a / 2 ^ (k + 1) ≤ nv a := Nat.div_le_self _ _
          have h4 := Nat.le_mul_of_pos_left s.1 (Nat.pos_of_ne_zero h0)
          omega
        have hbit : nv a / 2 ^ k % 2 ≤ 1 := by omega
        have hdec : nv a / 2 ^ k = 2 * (nv a / 2 ^ (k + 1)) + nv a / 2 ^ k % 2 := by
          rw [Nat.pow_succ, ← Nat.div_div_eq_div_mul]; omega
        generalize hbt : nv a / 2 ^ k % 2 = bt at *
        have hlen2 : (lb (2 * s.2 + bt)).length ≤ b.length + 1 := by
          refine lb_len.2 ?_
          have := nv_lt b
          rw [Nat.pow_succ, B_eq]; rw [B_eq] at this; omega
        have sp1 := ref02_Bit_sp a k (by omega)
        rw [hbt] at sp1
        refine wp_dec (by omega) (wp_call sp1 ?_)
        simp only [getD_c0, toInt_int]
        refine wp_call (ref02_twice_sp (lb s.2) bt hbit (by omega)) ?_
        simp only [getD_c0, nv_lb]
        refine wp_call (ref02_Sub_sp (lb (2 * s.2 + bt)) b (by omega) (by omega)) ?_
        simp only [getD_c0, getD_c1, toBool_bool, nv_lb]
        refine wp_decs (fun h3 => ?_) (fun h3 => ?_)
        · refine wp_call (ref02_twice_sp (lb s.1) 1 (by omega) (by omega)) ?_
          simp only [getD_c0, nv_lb]
          rw [wrap64 (by omega) (by omega)]
          refine ih (2 * s.1 + 1, 2 * s.2 + bt - nv b) ⟨by omega, ?_, by simp only; omega⟩
          simp only
          rw [hdec, h1, Nat.mul_add, Nat.mul_add, Nat.mul_left_comm]; omega
        · refine wp_call (ref02_twice_sp (lb s.1) 0 (by omega) (by omega)) ?_
          simp only [getD_c0, nv_lb]
          rw [wrap64 (by omega) (by omega)]
          refine ih (2 * s.1 + 0, 2 * s.2 + bt) ⟨by omega, ?_, by simp only; omega⟩
          simp only
          rw [hdec, h1, Nat.mul_add, Nat.add_zero, Nat.mul_left_comm]; omega)
      (32 * a.length + 1) (32 * a.length) (0, 0) (by omega) ⟨by omega, by
        rw [← B_two, Nat.div_eq_of_lt (nv_lt a)]; rfl, Nat.pos_of_ne_zero h0⟩
    rw [wrap64 (x := 32 * (a.length : Int)) (by omega) (by omega), wrap64 (by omega) (by omega)]
    simp only [lb_zero] at key
    exact key
theorem ref02_Gcd_sp (a b : List Limb) (ha : a.length ≤ 1000) (hb : b.length ≤ 1000) : Sp 107 [dL a, dL b] [dL (lb (Nat.gcd (nv a) (nv b)))] := by
  obtain ⟨K, hK⟩ : ∃ K, K = 1000 := ⟨_, rfl⟩
  obtain ⟨J, hJ⟩ : ∃ J, J = 32000 := ⟨_, rfl⟩
  refine sound_ 100001 (ref02_Gcd_tree _ _ _) (wp_call (ref02_Norm_sp a (by omega)) (wp_call (ref02_Norm_sp b (by omega)) ?_))
  simp only [getD_c0]
  have key : ∀ (j k m x y : Nat), (lb x).length ≤ K → (lb y).length ≤ K → y < 2 ^ j → k + 2 * j + 2 ≤ 99000 → 2 * j + 1 < m → Tw (ref02_Gcd_l3 100001 m (dL (lb x)) (dL (lb y)) (k : Int)) [dL (lb (Nat.gcd x y))] := by
    intro j
    induction j with
    | zero =>
      intro k m x y _ _ hy hk hm
      obtain ⟨m, rfl⟩ : ∃ m', m = m' + 1 := ⟨m - 1, by omega⟩
      have : y = 0 := by simpa using hy
      subst this
      simp only [ref02_Gcd_l3_succ, els_dL, List.length_map, lb_zero, List.length_nil]
      refine wp_dec (by omega) (wp_ndec (by omega) (wp_ret ?_))
      rw [Nat.gcd_zero_right]
    | succ j ih =>
      intro k m x y hx hy hlt hk hm
      have stop : ∀ (k m x : Nat), k < 100000 → 0 < m → Tw (ref02_Gcd_l3 100001 m (dL (lb x)) (dL (lb 0)) (k : Int)) [dL (lb (Nat.gcd x 0))] := by
        intro k m x hk hm
        obtain ⟨m, rfl⟩ : ∃ m', m = m' + 1 := ⟨m - 1, by omega⟩
        simp only [ref02_Gcd_l3_succ, els_dL, List.length_map, lb_zero, List.length_nil]
        refine wp_dec (by omega) (wp_ndec (by omega) (wp_ret ?_))
        rw [Nat.gcd_zero_right]
      have step : ∀ (k m x y : Nat), k < 100000 → (lb x).length ≤ K → (lb y).length ≤ K → y ≠ 0 → Tw (ref02_Gcd_l3 100001 m (dL (lb y)) (dL (lb (x % y))) ((k + 1 : Nat) : Int)) [dL (lb (Nat.gcd y (x % y)))] → Tw (ref02_Gcd_l3 100001 (m + 1) (dL (lb x)) (dL (lb y)) (k : Int)) [dL (lb (Nat.gcd x y))] := by
        intro k m x y hk hx hy h0 hw
        simp only [Tw, ref02_Gcd_l3_succ, els_dL, List.length_map]
        have hne : (lb y).length ≠ 0 := fun hh => h0 (lb_len0.1 hh)
        have sp := ref02_DivMod_sp (lb x) (lb y) (by omega) (by omega)
        rw [nv_lb, nv_lb, if_neg h0] at sp
        refine wp_dec (by omega) (wp_dec (by omega) (wp_call sp ?_))
        simp only [getD_c1]
        rw [wrap_succ (by omega), Nat.gcd_comm x y, Nat.gcd_rec, Nat.gcd_comm]
        exact hw
      by_cases h0 : y = 0
      · subst h0; exact stop k m x (by omega) (by omega)
      · obtain ⟨m, rfl⟩ : ∃ m', m = m' + 2 := ⟨m - 2, by omega⟩
        have hl1 : (lb (x % y)).length ≤ K := lb_len.2 (Nat.lt_of_le_of_lt (Nat.le_of_lt (Nat.mod_lt x (Nat.pos_of_ne_zero h0))) (lb_len.1 hy))
        refine step k (m + 1) x y (by omega) hx hy h0 ?_
        by_cases h1 : x % y = 0
        · rw [h1]; exact stop (k + 1) (m + 1) y (by omega) (by omega)
        · refine step (k + 1) m y (x % y) (by omega) hy hl1 h1 ?_
          have hh := mod_half h0 h1
          refine ih (k + 1 + 1) m (x % y) (y % (x % y)) hl1 (lb_len.2 (Nat.lt_trans (Nat.mod_lt y (Nat.pos_of_ne_zero h1)) (lb_len.1 hl1))) ?_ (by omega) (by omega)
          rw [Nat.pow_succ] at hlt; omega
  have h1 : (lb (nv a)).length ≤ K := Nat.le_trans (lb_len.2 (nv_lt a)) (by omega)
  have h2 : (lb (nv b)).length ≤ K := Nat.le_trans (lb_len.2 (nv_lt b)) (by omega)
  have hlt : nv b < 2 ^ J := by
    refine Nat.lt_of_lt_of_le (nv_lt b) ?_
    rw [B_two]
    exact Nat.pow_le_pow_right (by decide) (by omega)
  exact key J 0 100001 _ _ h1 h2 hlt (by omega) (by omega)
/-- Are two lists the same? -/
theorem eq_loop {α : Type} [DecidableEq α] {P : Program} {md : Nat → FMode} (f : α → D) (hf : ∀ x y, (f x).toInt = (f y).toInt → x = y) (a b : List α) (hlen : a.length = b.length) (hbig : a.length ≤ 9223372036854775807) (L : Nat → Int → Tree)
    (hL : ∀ m i, L (m + 1) i = .br (decide (i < ((a.map f).length : Int))) (.br (decide (0 ≤ i)) (.br (decide (i < ((a.map f).length : Int))) (.br (decide (0 ≤ i)) (.br (decide (i < ((b.map f).length : Int)))
      (.br ((((a.map f).getD (Int.toNat i) D.nil).toInt) != (((b.map f).getD (Int.toNat i) D.nil).toInt)) (.ret [D.bool false]) (L m (IntKind.wrap .i64 (i + 1)))) .fail) .fail) .fail) .fail) (.ret [D.bool true])) :
    (L (a.length + 1) 0).wp P md (fun zs => zs = [.bool (decide (a = b))]) := by
  have key := loop_up (P := P) (md := md) a.length (fun m k (_ : Unit) => L m (k : Int)) (fun _ _ => [.bool (decide (a = b))]) (fun k _ => a.take k = b.take k)
    (fun m s h => by
      simp only [hL, List.length_map]
      refine wp_ndec (by omega) (wp_ret ?_)
      rw [List.take_of_length_le (Nat.le_refl _), List.take_of_length_le (by omega)] at h
      rw [decide_eq_true h])
    (fun m k s hk h ih => by
      have ha : a[k]? = some a[k] := List.getElem?_eq_getElem _
      have hb : b[k]? = some (b[k]'(by omega)) := List.getElem?_eq_getElem _
      simp only [hL, List.length_map, Int.toNat_natCast, getD_map ha, getD_map hb, int_bne]
      refine wp_dec (by omega) (wp_dec (by omega) (wp_dec (by omega) (wp_dec (by omega) (wp_dec (by omega) (wp_decs (fun hne => wp_ret ?_) (fun heq => ?_))))))
      · rw [decide_eq_false]
        rintro rfl
        exact hne rfl
      · rw [wrap_succ (by omega)]
        refine ih () ?_
        have : a[k] = b[k] := hf _ _ (Classical.not_not.1 heq)
        rw [List.take_succ_eq_append_getElem hk, List.take_succ_eq_append_getElem (by omega), h, this])
    (a.length + 1) 0 () (by omega) (by omega) (by simp)
  exact key
theorem dB_inj {k : Nat} (x y : BitVec k) (h : (dB x).toInt = (dB y).toInt) : x = y := BitVec.eq_of_toNat_eq (Int.ofNat.inj h)
theorem dint_inj (x y : Int) (h : (D.int x).toInt = (D.int y).toInt) : x = y := h
theorem ref02_Same_sp (a b : List Limb) (ha : a.length ≤ 9223372036854775807) : Sp 88 [dL a, dL b] [.bool (decide (a = b))] := by
  refine sound_ (a.length + 1) (ref02_Same_tree _ _ _) ?_
  simp only [els_dL, List.length_map, int_bne]
  refine wp_decs (fun h => wp_ret ?_) (fun h => ?_)
  · rw [decide_eq_false]; rintro rfl; exact h rfl
  · exact eq_loop dB dB_inj a b (by omega) ha (fun m i => ref02_Same_l4 (a.length + 1) m (dL a) (dL b) i) (fun m i => ref02_Same_l4_succ _ _ _ _ _)
end Go.Proofs.YtjmddikeadbmjaaGreat
set_option maxRecDepth 100000
namespace Go.Proofs.YtjmddikeadbmjaaGreat
/-! scrim/label.Join -/
def label_Join_orc : List (Nat × Orc) := []
theorem label_Join_tree (n : Nat) (a0 : D) (b1 : D) : evFun Tryz.prog md label_Join_orc n 40 [] [a0, b1] =
 .ret [D.int (bits_ .or .u64 a0.toInt b1.toInt)] := by kernel_rfl

/-! scrim/scrimref01.Join -/
def ref01_Join_orc : List (Nat × Orc) := [(3, ⟨[(0, none), (1, none), (5, none), (6, none)], [], []⟩)]
def ref01_Join_ps : List Nat := [22, 22]
def ref01_Join_rs : List ResultVar := [.tmp 4]
def ref01_Join_ts : List Nat := [22]
noncomputable def ref01_Join_l3 (n m3 : Nat) (a0 : Int) (b1 : Int) (out5 : Int) (t6 : Int) : Tree :=
  evLoop Tryz.prog md (ev Tryz.prog md n ref01_Join_orc (cAt (bodyOf Tryz.prog 44) [1, 1, 0, 1, 0, 0])) (orcAt ref01_Join_orc 3) m3 ⟨[.i .u64 a0, .i .u64 b1, .undef, .undef, .undef, .i .u64 out5, .i .i64 t6, .undef, .undef, .undef, .undef, .undef, .undef, .undef, .undef, .undef, .undef, .undef, .undef, .undef, .undef, .undef, .undef, .undef], [], [], [], []⟩
   (blockK 0 (seqK (joinE Tryz.prog md (joinAt ref01_Join_orc (cAt (bodyOf Tryz.prog 44) [1, 1, 1])) (ev Tryz.prog md n ref01_Join_orc (cAt (bodyOf Tryz.prog 44) [1, 1, 1]))) (retK Tryz.prog md (md 44) ref01_Join_ps ref01_Join_rs ref01_Join_ts)))
theorem ref01_Join_l3_succ (n m3 : Nat) (a0 : Int) (b1 : Int) (out5 : Int) (t6 : Int) : ref01_Join_l3 n (m3 + 1) a0 b1 out5 t6 =
 .br (decide (t6 < 64)) (.call 98 [] [D.int a0, D.int t6] fun yy1 =>
 .br ((yy1.getD 0 D.nil).toBool) (.call 99 [] [D.int t6] fun yy2 =>
 ref01_Join_l3 n m3 a0 b1 (IntKind.wrap .u64 (out5 + ((yy2.getD 0 D.nil).toInt))) (IntKind.wrap .i64 (t6 + 1)))
 (.call 98 [] [D.int b1, D.int t6] fun yy3 =>
 .br ((yy3.getD 0 D.nil).toBool) (.call 99 [] [D.int t6] fun yy4 =>
 ref01_Join_l3 n m3 a0 b1 (IntKind.wrap .u64 (out5 + ((yy4.getD 0 D.nil).toInt))) (IntKind.wrap .i64 (t6 + 1)))
 (ref01_Join_l3 n m3 a0 b1 out5 (IntKind.wrap .i64 (t6 + 1)))))
 (.ret [D.int out5]) := by kernel_rfl
theorem ref01_Join_tree (n : Nat) (a0 : D) (b1 : D) : evFun Tryz.prog md ref01_Join_orc n 44 [] [a0, b1] =
 ref01_Join_l3 n n a0.toInt b1.toInt 0 0 := by kernel_rfl

/-! scrim/scrimref01.Flows -/
def ref01_Flows_orc : List (Nat × Orc) := [(2, ⟨[(0, none), (1, none), (5, none)], [], []⟩)]
def ref01_Flows_ps : List Nat := [22, 22]
def ref01_Flows_rs : List ResultVar := [.tmp 4]
def ref01_Flows_ts : List Nat := [4]
noncomputable def ref01_Flows_l2 (n m2 : Nat) (a0 : Int) (b1 : Int) (t5 : Int) : Tree :=
  evLoop Tryz.prog md (ev Tryz.prog md n ref01_Flows_orc (cAt (bodyOf Tryz.prog 90) [1, 0, 1, 0, 0])) (orcAt ref01_Flows_orc 2) m2 ⟨[.i .u64 a0, .i .u64 b1, .undef, .undef, .undef, .i .i64 t5, .undef, .undef, .undef, .undef, .undef, .undef, .undef, .undef, .undef, .undef, .undef, .undef, .undef], [], [], [], []⟩
   (blockK 0 (seqK (joinE Tryz.prog md (joinAt ref01_Flows_orc (cAt (bodyOf Tryz.prog 90) [1, 1])) (ev Tryz.prog md n ref01_Flows_orc (cAt (bodyOf Tryz.prog 90) [1, 1]))) (retK Tryz.prog md (md 90) ref01_Flows_ps ref01_Flows_rs ref01_Flows_ts)))
theorem ref01_Flows_l2_succ (n m2 : Nat) (a0 : Int) (b1 : Int) (t5 : Int) : ref01_Flows_l2 n (m2 + 1) a0 b1 t5 =
 .br (decide (t5 < 64)) (.call 98 [] [D.int a0, D.int t5] fun yy1 =>
 .br ((yy1.getD 0 D.nil).toBool) (.call 98 [] [D.int b1, D.int t5] fun yy2 =>
 .br (!((yy2.getD 0 D.nil).toBool)) (.ret [D.bool false])
 (ref01_Flows_l2 n m2 a0 b1 (IntKind.wrap .i64 (t5 + 1))))
 (ref01_Flows_l2 n m2 a0 b1 (IntKind.wrap .i64 (t5 + 1))))
 (.ret [D.bool true]) := by kernel_rfl
theorem ref01_Flows_tree (n : Nat) (a0 : D) (b1 : D) : evFun Tryz.prog md ref01_Flows_orc n 90 [] [a0, b1] =
 ref01_Flows_l2 n n a0.toInt b1.toInt 0 := by kernel_rfl

/-! scrim/scrimref01.Has -/
def ref01_Has_orc : List (Nat × Orc) := [(2, ⟨[(0, none), (1, none), (5, none)], [], []⟩)]
def ref01_Has_ps : List Nat := [22, 3]
def ref01_Has_rs : List ResultVar := [.tmp 4]
def ref01_Has_ts : List Nat := [4]
noncomputable def ref01_Has_l2 (n m2 : Nat) (l0 : Int) (t1 : Int) (i5 : Int) : Tree :=
  evLoop Tryz.prog md (ev Tryz.prog md n ref01_Has_orc (cAt (bodyOf Tryz.prog 98) [1, 0, 1, 0, 0])) (orcAt ref01_Has_orc 2) m2 ⟨[.i .u64 l0, .i .i64 t1, .undef, .undef, .undef, .i .i64 i5, .undef, .undef, .undef, .undef, .undef, .undef, .undef, .undef, .undef, .undef], [], [], [], []⟩
   (blockK 0 (seqK (joinE Tryz.prog md (joinAt ref01_Has_orc (cAt (bodyOf Tryz.prog 98) [1, 1])) (ev Tryz.prog md n ref01_Has_orc (cAt (bodyOf Tryz.prog 98) [1, 1]))) (retK Tryz.prog md (md 98) ref01_Has_ps ref01_Has_rs ref01_Has_ts)))
theorem ref01_Has_l2_succ (n m2 : Nat) (l0 : Int) (t1 : Int) (i5 : Int) : ref01_Has_l2 n (m2 + 1) l0 t1 i5 =
 .br (decide (i5 < t1)) (.br (!(2 == (0 : Int))) (ref01_Has_l2 n m2 (IntKind.wrap .u64 (Int.tdiv l0 2)) t1 (IntKind.wrap .i64 (i5 + 1))) .fail)
 (.br (!(2 == (0 : Int))) (.ret [D.bool ((Int.tmod l0 2) == 1)]) .fail) := by kernel_rfl
theorem ref01_Has_tree (n : Nat) (l0 : D) (t1 : D) : evFun Tryz.prog md ref01_Has_orc n 98 [] [l0, t1] =
 ref01_Has_l2 n n l0.toInt t1.toInt 0 := by kernel_rfl

/-! scrim/scrimref01.Bit -/
def ref01_Bit_orc : List (Nat × Orc) := [(3, ⟨[(0, none), (3, none), (4, none)], [], []⟩)]
def ref01_Bit_ps : List Nat := [3]
def ref01_Bit_rs : List ResultVar := [.tmp 2]
def ref01_Bit_ts : List Nat := [22]
noncomputable def ref01_Bit_l3 (n m3 : Nat) (t0 : Int) (n3 : Int) (i4 : Int) : Tree :=
  evLoop Tryz.prog md (ev Tryz.prog md n ref01_Bit_orc (cAt (bodyOf Tryz.prog 99) [1, 1, 0, 1, 0, 0])) (orcAt ref01_Bit_orc 3) m3 ⟨[.i .i64 t0, .undef, .undef, .i .u64 n3, .i .i64 i4, .undef, .undef, .undef, .undef, .undef, .undef, .undef, .undef], [], [], [], []⟩
   (blockK 0 (seqK (joinE Tryz.prog md (joinAt ref01_Bit_orc (cAt (bodyOf Tryz.prog 99) [1, 1, 1])) (ev Tryz.prog md n ref01_Bit_orc (cAt (bodyOf Tryz.prog 99) [1, 1, 1]))) (retK Tryz.prog md (md 99) ref01_Bit_ps ref01_Bit_rs ref01_Bit_ts)))
theorem ref01_Bit_l3_succ (n m3 : Nat) (t0 : Int) (n3 : Int) (i4 : Int) : ref01_Bit_l3 n (m3 + 1) t0 n3 i4 =
 .br (decide (i4 < t0)) (ref01_Bit_l3 n m3 t0 (IntKind.wrap .u64 (n3 * 2)) (IntKind.wrap .i64 (i4 + 1)))
 (.ret [D.int n3]) := by kernel_rfl
theorem ref01_Bit_tree (n : Nat) (t0 : D) : evFun Tryz.prog md ref01_Bit_orc n 99 [] [t0] =
 ref01_Bit_l3 n n t0.toInt 1 0 := by kernel_rfl

end Go.Proofs.YtjmddikeadbmjaaGreat
set_option maxRecDepth 100000
namespace Go.Proofs.YtjmddikeadbmjaaGreat

theorem or_bits (a b : Lab) : bits_ .or .u64 (a.toNat : Int) (b.toNat : Int) = ((a ||| b).toNat : Int) := by
  show IntKind.wrap .u64 ((BitVec.ofInt 64 (a.toNat : Int) ||| BitVec.ofInt 64 (b.toNat : Int)).toNat : Int) = _
  have h := (a ||| b).isLt
  rw [show BitVec.ofInt 64 (a.toNat : Int) = a by simp, show BitVec.ofInt 64 (b.toNat : Int) = b by simp]
  exact wrapU64 (Int.natCast_nonneg _) (Int.ofNat_lt.2 h)
theorem andNot_bits (a b : Lab) : bits_ .andNot .u64 (a.toNat : Int) (b.toNat : Int) = ((a &&& ~~~b).toNat : Int) := by
  show IntKind.wrap .u64 ((BitVec.ofInt 64 (a.toNat : Int) &&& ~~~BitVec.ofInt 64 (b.toNat : Int)).toNat : Int) = _
  have h := (a &&& ~~~b).isLt
  rw [show BitVec.ofInt 64 (a.toNat : Int) = a by simp, show BitVec.ofInt 64 (b.toNat : Int) = b by simp]
  exact wrapU64 (Int.natCast_nonneg _) (Int.ofNat_lt.2 h)
theorem label_Join_sp (a b : Lab) : Sp 40 [dB a, dB b] [dB (a ||| b)] := by
  refine sound_ 0 (label_Join_tree 0 _ _) (wp_ret ?_)
  simp only [toInt_dB, or_bits]; rfl
theorem ref01_Has_sp (l : Lab) (t : Nat) (ht : t < 1000) : Sp 98 [dB l, .int t] [.bool (l.getLsbD t)] := by
  refine sound_ (t + 1) (ref01_Has_tree _ _ _) ?_
  have := loop_up (P := Tryz.prog) (md := md) t (fun m k (v : Nat) => ref01_Has_l2 (t + 1) m (v : Int) (t : Int) (k : Int)) (fun k v => [.bool (decide (v / 2 ^ (t - k) % 2 = 1))]) (fun _ v => v < 18446744073709551616)
    (fun m v hv => by
      simp only [ref01_Has_l2_succ]
      refine wp_ndec (by omega) (wp_tt (by decide) (wp_ret ?_))
      rw [int_beq, Int.tmod_eq_emod_of_nonneg (by omega)]
      simp; omega)
    (fun m k v hk hv ih => by
      simp only [ref01_Has_l2_succ]
      refine wp_dec (by omega) (wp_tt (by decide) ?_)
      rw [wrap_succ (by omega), Int.tdiv_eq_ediv_of_nonneg (by omega), wrapU64 (by omega) (by omega)]
      have := ih (v / 2) (by omega)
      rw [show t - k = (t - (k + 1)) + 1 by omega, Nat.pow_succ, Nat.mul_comm, ← Nat.div_div_eq_div_mul]
      exact this)
    (t + 1) 0 l.toNat (by omega) (by omega) (by have := l.isLt; omega)
  rw [BitVec.getLsbD, Nat.testBit_eq_decide_div_mod_eq]
  exact this
theorem ref01_Bit_sp (t : Nat) (ht : t < 64) : Sp 99 [.int t] [.int ((2 ^ t : Nat) : Int)] := by
  refine sound_ (t + 1) (ref01_Bit_tree _ _) ?_
  have := loop_up (P := Tryz.prog) (md := md) t (fun m k (v : Nat) => ref01_Bit_l3 (t + 1) m (t : Int) (v : Int) (k : Int)) (fun k v => [.int ((2 ^ t : Nat) : Int)]) (fun k v => v = 2 ^ k)
    (fun m v hv => by
      subst hv
      simp only [ref01_Bit_l3_succ]
      exact wp_ndec (by omega) (wp_ret rfl))
    (fun m k v hk hv ih => by
      subst hv
      simp only [ref01_Bit_l3_succ]
      refine wp_dec (by omega) ?_
      have h2 : 2 ^ (k + 1) < 18446744073709551616 := Nat.lt_of_le_of_lt (Nat.pow_le_pow_right (by decide) (show k + 1 ≤ 63 by omega)) (by decide)
      rw [wrap_succ (by omega), show ((2 ^ k : Nat) : Int) * 2 = ((2 ^ (k + 1) : Nat) : Int) by rw [Nat.pow_succ]; rfl]
      generalize hx : (2 : Nat) ^ (k + 1) = x at *
      rw [wrapU64 (x := (x : Int)) (by omega) (by omega)]
      exact ih _ rfl)
    (t + 1) 0 1 (by omega) (by omega) rfl
  exact this
theorem ref01_Join_sp (a b : Lab) : Sp 44 [dB a, dB b] [dB (a ||| b)] := by
  refine sound_ 65 (ref01_Join_tree _ _ _) ?_
  have := loop_up (P := Tryz.prog) (md := md) 64 (fun m k (v : Nat) => ref01_Join_l3 65 m (a.toNat : Int) (b.toNat : Int) (v : Int) (k : Int)) (fun k v => [dB (a ||| b)]) (fun k v => v = (a ||| b).toNat % 2 ^ k)
    (fun m v hv => by
      subst hv
      simp only [ref01_Join_l3_succ]
      refine wp_ndec (by omega) (wp_ret ?_)
      rw [Nat.mod_eq_of_lt (a ||| b).isLt]; rfl)
    (fun m k v hk hv ih => by
      simp only [ref01_Join_l3_succ]
      refine wp_dec (by omega) (wp_call (ref01_Has_sp a k (by omega)) ?_)
      have hb : (a ||| b).toNat.testBit k = (a.getLsbD k || b.getLsbD k) := by rw [← BitVec.getLsbD_or]; rfl
      have hs : (a ||| b).toNat % 2 ^ (k + 1) = (a ||| b).toNat % 2 ^ k + 2 ^ k * ((a ||| b).toNat.testBit k).toNat := by rw [Nat.mod_pow_succ, Nat.toNat_testBit]
      have hlt : (a ||| b).toNat % 2 ^ (k + 1) < 18446744073709551616 := Nat.lt_of_le_of_lt (Nat.mod_le _ _) (a ||| b).isLt
      rw [hb] at hs
      simp only [getD_c0, toBool_bool]
      have hst : (a.getLsbD k || b.getLsbD k) = true → IntKind.wrap .u64 ((v : Int) + ((2 ^ k : Nat) : Int)) = (((a ||| b).toNat % 2 ^ (k + 1) : Nat) : Int) := by
        intro h
        rw [h] at hs
        simp only [Bool.toNat_true, Nat.mul_one] at hs
        rw [← hv] at hs
        rw [show (v : Int) + ((2 ^ k : Nat) : Int) = ((v + 2 ^ k : Nat) : Int) from rfl, ← hs]
        generalize (a ||| b).toNat % 2 ^ (k + 1) = x at *
        rw [wrapU64 (x := (x : Int)) (by omega) (by omega)]
      refine wp_br (fun h => ?_) (fun h => ?_)
      · refine wp_call (ref01_Bit_sp k hk) ?_
        simp only [getD_c0, toInt_int]
        rw [hst (by simp [h]), wrap_succ (by omega)]
        exact ih _ rfl
      · refine wp_call (ref01_Has_sp b k (by omega)) ?_
        simp only [getD_c0, toBool_bool]
        refine wp_br (fun h' => ?_) (fun h' => ?_)
        · refine wp_call (ref01_Bit_sp k hk) ?_
          simp only [getD_c0, toInt_int]
          rw [hst (by simp [h']), wrap_succ (by omega)]
          exact ih _ rfl
        · rw [wrap_succ (by omega)]
          refine ih _ ?_
          rw [hs, h, h', hv]; simp)
    65 0 0 (by omega) (by omega) (by simp [Nat.mod_one])
  exact this
/-- May a label flow to another one? -/
def flows (a b : Lab) : Bool := (List.range 64).all fun t => !a.getLsbD t || b.getLsbD t
theorem flows_64 {a b : Lab} : flows a b = true ↔ ∀ t, t < 64 → a.getLsbD t = true → b.getLsbD t = true := by
  unfold flows
  rw [List.all_eq_true]
  constructor
  · intro h t ht ha
    have := h t (List.mem_range.2 ht)
    simpa [ha] using this
  · intro h t ht
    have := h t (List.mem_range.1 ht)
    cases ha : a.getLsbD t <;> simp_all
theorem flows_iff {a b : Lab} : flows a b = true ↔ ∀ t, a.getLsbD t = true → b.getLsbD t = true := by
  rw [flows_64]
  refine ⟨fun h t ht => ?_, fun h t _ => h t⟩
  rcases Nat.lt_or_ge t 64 with hl | hl
  · exact h t hl ht
  · rw [BitVec.getLsbD_of_ge _ _ hl] at ht; cases ht
theorem flows_andNot (a b : Lab) : ((a &&& ~~~b).toNat = 0) ↔ flows a b = true := by
  rw [flows_iff]
  constructor
  · intro h t ht
    have h0 : a &&& ~~~b = 0#64 := BitVec.eq_of_toNat_eq (by simpa using h)
    have : (a &&& ~~~b).getLsbD t = false := by rw [h0]; simp
    rw [BitVec.getLsbD_and, BitVec.getLsbD_not, ht] at this
    have hl := BitVec.lt_of_getLsbD ht
    simpa [hl] using this
  · intro h
    have : a &&& ~~~b = 0#64 := by
      apply BitVec.eq_of_getLsbD_eq
      intro i hi
      rw [BitVec.getLsbD_and, BitVec.getLsbD_not]
      have := h i
      cases ha : a.getLsbD i <;> simp_all
    rw [this]; rfl
theorem ref01_Flows_sp (a b : Lab) : Sp 90 [dB a, dB b] [.bool (flows a b)] := by
  refine sound_ 65 (ref01_Flows_tree _ _ _) ?_
  have := loop_up (P := Tryz.prog) (md := md) 64 (fun m k (_ : Unit) => ref01_Flows_l2 65 m (a.toNat : Int) (b.toNat : Int) (k : Int)) (fun k v => [.bool (flows a b)]) (fun k v => ∀ t, t < k → a.getLsbD t = true → b.getLsbD t = true)
    (fun m v hv => by
      simp only [ref01_Flows_l2_succ]
      refine wp_ndec (by omega) (wp_ret ?_)
      rw [show flows a b = true from flows_64.2 hv])
    (fun m k v hk hv ih => by
      simp only [ref01_Flows_l2_succ]
      refine wp_dec (by omega) (wp_call (ref01_Has_sp a k (by omega)) ?_)
      simp only [getD_c0, toBool_bool]
      refine wp_br (fun h => ?_) (fun h => ?_)
      · refine wp_call (ref01_Has_sp b k (by omega)) ?_
        simp only [getD_c0, toBool_bool]
        refine wp_br (fun h' => ?_) (fun h' => ?_)
        · refine wp_ret ?_
          have : flows a b = false := by
            rw [Bool.eq_false_iff]
            intro hf
            rw [flows_iff] at hf
            have := hf k h
            simp [this] at h'
          rw [this]
        · rw [wrap_succ (by omega)]
          refine ih () (fun t ht hat => ?_)
          by_cases hk : t = k
          · subst hk; simpa using h'
          · exact hv t (by omega) hat
      · rw [wrap_succ (by omega)]
        refine ih () (fun t ht hat => ?_)
        by_cases hk : t = k
        · subst hk; rw [h] at hat; cases hat
        · exact hv t (by omega) hat)
    65 0 () (by omega) (by omega) (fun t ht => by omega)
  exact this
end Go.Proofs.YtjmddikeadbmjaaGreat
set_option maxRecDepth 100000
namespace Go.Proofs.YtjmddikeadbmjaaGreat

structure Wh where
  neg : Bool
  mag : List Limb
def dW (w : Wh) : D := .agg [.bool w.neg, dL w.mag]
def zv (w : Wh) : Int := if w.neg then -(nv w.mag : Int) else (nv w.mag : Int)
def wz (z : Int) : Wh := ⟨decide (z < 0), lb z.natAbs⟩
@[simp] theorem dW_0 (w : Wh) : (dW w).fld 0 = .bool w.neg := rfl
@[simp] theorem dW_1 (w : Wh) : (dW w).fld 1 = dL w.mag := rfl
theorem dW_mk (b : Bool) (l : List Limb) : D.agg [.bool b, dL l] = dW ⟨b, l⟩ := rfl
theorem dW_zero : D.agg [.bool false, .sl []] = dW (wz 0) := by simp [dW, wz, lb_zero, dL]
theorem zv_abs (w : Wh) : (zv w).natAbs = nv w.mag := by unfold zv; split <;> omega
theorem wz_len (w : Wh) : (lb (zv w).natAbs).length ≤ w.mag.length := by rw [zv_abs]; exact lb_len.2 (nv_lt _)
theorem zv_wz (z : Int) : zv (wz z) = z := by
  unfold zv wz
  simp only [nv_lb, decide_eq_true_eq]
  split <;> omega
theorem zv_lb (b : Bool) (n : Nat) : zv ⟨b, lb n⟩ = if b then -(n : Int) else (n : Int) := by simp only [zv, nv_lb]
theorem wz_zero : wz 0 = ⟨false, []⟩ := by simp [wz, lb_zero]
theorem wz_of (b : Bool) {n : Nat} (h : n ≠ 0) : wz (if b then -(n : Int) else (n : Int)) = ⟨b, lb n⟩ := by
  cases b <;> simp [wz] <;> omega
theorem wz_zv (w : Wh) : wz (zv w) = if nv w.mag = 0 then ⟨false, []⟩ else ⟨w.neg, lb (nv w.mag)⟩ := by
  split
  · rename_i h
    unfold zv; rw [h]; simp [wz_zero]
  · rename_i h
    unfold zv
    exact wz_of _ h
theorem bool_beq (a b : Bool) : (a == b) = decide (a = b) := by cases a <;> cases b <;> rfl
def inR (z : Int) : Prop := -9223372036854775808 ≤ z ∧ z ≤ 9223372036854775807
instance (z : Int) : Decidable (inR z) := by unfold inR; infer_instance
/-- A number as an int. -/
def smallZ (z : Int) : List D := if inR z then [.int z, .bool true] else [.int 0, .bool false]
def sgnZ (z : Int) : Int := if z < 0 then -1 else if z = 0 then 0 else 1
def cmpZ (x y : Int) : Int := if x < y then -1 else if x = y then 0 else 1
theorem ref03_Norm_sp (w : Wh) (h : w.mag.length ≤ 1000000) : Sp 105 [dW w] [dW (wz (zv w))] := by
  refine sound_ 0 (ref03_Norm_tree _ _) (wp_call (ref02_Norm_sp w.mag h) ?_)
  simp only [getD_c0, els_dL, List.length_map, int_beq, dW_0, toBool_bool]
  refine wp_decs (fun h => wp_ret ?_) (fun h => wp_ret ?_)
  · have h0 : nv w.mag = 0 := lb_len0.1 (by omega)
    rw [wz_zv, if_pos h0]; rfl
  · have h0 : nv w.mag ≠ 0 := fun hh => h (by rw [hh, lb_zero]; rfl)
    rw [wz_zv, if_neg h0]; rfl
theorem two_limbs {n : Nat} (h : n < 18446744073709551616) : nv [BitVec.ofNat 32 (n % 4294967296), BitVec.ofNat 32 (n / 4294967296)] = n := by
  simp only [nv, nv_nil]
  rw [ofNat_lt (by rw [B_eq]; omega), ofNat_lt (by rw [B_eq]; omega), B_eq]; omega
theorem ref03_Of_sp (z : Int) (h : inR z) : Sp 95 [.int z] [dW (wz z)] := by
  unfold inR at h
  refine sound_ 0 (ref03_Of_tree _ _) ?_
  simp only [toInt_int]
  refine wp_decs (fun h0 => ?_) (fun h0 => ?_)
  · obtain ⟨n, rfl⟩ : ∃ n : Nat, z = n := ⟨z.toNat, by omega⟩
    have e : [D.int (IntKind.wrap .u32 (Int.tmod (n : Int) 4294967296)), D.int (IntKind.wrap .u32 (IntKind.wrap .i64 (Int.tdiv (n : Int) 4294967296)))] = [BitVec.ofNat 32 (n % 4294967296), BitVec.ofNat 32 (n / 4294967296)].map dB := by
      rw [Int.tmod_eq_emod_of_nonneg (by omega), Int.tdiv_eq_ediv_of_nonneg (by omega), show (n : Int) % 4294967296 = ((n % 4294967296 : Nat) : Int) by omega, show (n : Int) / 4294967296 = ((n / 4294967296 : Nat) : Int) by omega,
        wrap64 (by omega) (by omega), wrapU32 (by omega) (by omega), wrapU32 (by omega) (by omega), dB_ofNat (by rw [B_eq]; omega), dB_ofNat (by rw [B_eq]; omega)]; rfl
    rw [e]
    have hv := two_limbs (n := n) (by omega)
    refine wp_tt (by decide) (wp_tt (by decide) (wp_call (ref03_Norm_sp ⟨false, [BitVec.ofNat 32 (n % 4294967296), BitVec.ofNat 32 (n / 4294967296)]⟩ (by simp)) (wp_ret ?_)))
    simp only [getD_c0, zv, hv]; rfl
  · obtain ⟨n, rfl⟩ : ∃ n : Nat, z = -1 - (n : Int) := ⟨(-1 - z).toNat, by omega⟩
    have e : [D.int (IntKind.wrap .u32 (Int.tmod (IntKind.wrap .i64 (-1 - (-1 - (n : Int)))) 4294967296)), D.int (IntKind.wrap .u32 (IntKind.wrap .i64 (Int.tdiv (IntKind.wrap .i64 (-1 - (-1 - (n : Int)))) 4294967296)))] = [BitVec.ofNat 32 (n % 4294967296), BitVec.ofNat 32 (n / 4294967296)].map dB := by
      rw [show (-1 : Int) - (-1 - (n : Int)) = (n : Int) by omega, wrap64 (x := (n : Int)) (by omega) (by omega), Int.tmod_eq_emod_of_nonneg (by omega), Int.tdiv_eq_ediv_of_nonneg (by omega), show (n : Int) % 4294967296 = ((n % 4294967296 : Nat) : Int) by omega, show (n : Int) / 4294967296 = ((n / 4294967296 : Nat) : Int) by omega,
        wrap64 (by omega) (by omega), wrapU32 (by omega) (by omega), wrapU32 (by omega) (by omega), dB_ofNat (by rw [B_eq]; omega), dB_ofNat (by rw [B_eq]; omega)]; rfl
    rw [e]
    have hv := two_limbs (n := n) (by omega)
    have sp := ref02_Add_sp [BitVec.ofNat 32 (n % 4294967296), BitVec.ofNat 32 (n / 4294967296)] [1] (by simp) (by simp)
    rw [hv, show nv [1] = 1 from rfl] at sp
    refine wp_tt (by decide) (wp_tt (by decide) (wp_call sp ?_))
    simp only [getD_c0]
    have hl : (lb (n + 1)).length ≤ 3 := lb_len.2 (by show n + 1 < 79228162514264337593543950336; omega)
    refine wp_call (ref03_Norm_sp ⟨true, lb (n + 1)⟩ (by simp only; omega)) (wp_ret ?_)
    simp only [getD_c0, zv_lb, if_true]
    rw [show -((n + 1 : Nat) : Int) = -1 - (n : Int) by omega]
theorem ref03_Neg_sp (w : Wh) (h : w.mag.length ≤ 1000000) : Sp 146 [dW w] [dW (wz (-zv w))] := by
  refine sound_ 0 (ref03_Neg_tree _ _) ?_
  simp only [dW_0, dW_1, toBool_bool]
  refine wp_call (ref03_Norm_sp ⟨!w.neg, w.mag⟩ h) (wp_ret ?_)
  simp only [getD_c0]
  rw [show zv ⟨!w.neg, w.mag⟩ = -zv w by unfold zv; cases w.neg <;> simp]
theorem ref03_Add_sp (a b : Wh) (ha : a.mag.length ≤ 10000) (hb : b.mag.length ≤ 10000) : Sp 129 [dW a, dW b] [dW (wz (zv a + zv b))] := by
  refine sound_ 0 (ref03_Add_tree _ _ _) (wp_call (ref03_Norm_sp a (by omega)) (wp_call (ref03_Norm_sp b (by omega)) ?_))
  have la := wz_len a
  have lb' := wz_len b
  generalize zv a = x at *
  generalize zv b = y at *
  simp only [getD_c0, dW_0, dW_1, toBool_bool, bool_beq, wz]
  have hadd : (lb (x.natAbs + y.natAbs)).length ≤ 10001 := by
    refine lb_len.2 ?_
    have h1 := lb_len.1 (Nat.le_trans la ha)
    have h2 := lb_len.1 (Nat.le_trans lb' hb)
    obtain ⟨K, hK⟩ : ∃ K, K = 10000 := ⟨_, rfl⟩
    rw [← hK] at h1 h2
    rw [show 10001 = K + 1 by omega, Nat.pow_succ, B_eq]
    rw [B_eq] at h1 h2
    omega
  have hsub : ∀ p q : Nat, (lb p).length ≤ 10000 → (lb (p - q)).length ≤ 10000 := fun p q hp => by
    obtain ⟨K, hK⟩ : ∃ K, K = 10000 := ⟨_, rfl⟩
    rw [← hK] at hp ⊢
    exact lb_len.2 (Nat.lt_of_le_of_lt (Nat.sub_le _ _) (lb_len.1 hp))
  refine wp_decs (fun h => ?_) (fun h => ?_)
  · have sp := ref02_Add_sp (lb x.natAbs) (lb y.natAbs) (by omega) (by omega)
    rw [nv_lb, nv_lb] at sp
    refine wp_call sp ?_
    simp only [getD_c0]
    refine wp_call (ref03_Norm_sp ⟨decide (x < 0), lb (x.natAbs + y.natAbs)⟩ (by simp only; omega)) (wp_ret ?_)
    simp only [getD_c0, zv_lb]
    have h' : x < 0 ↔ y < 0 := by simpa using h
    congr 2
    rw [show (if decide (x < 0) = true then -((x.natAbs + y.natAbs : Nat) : Int) else ((x.natAbs + y.natAbs : Nat) : Int)) = x + y by
      by_cases hx : x < 0 <;> simp [hx] <;> omega]
    rfl
  · have h' : ¬ (x < 0 ↔ y < 0) := by simpa using h
    have sp := ref02_Cmp_sp (lb x.natAbs) (lb y.natAbs) (by omega) (by omega)
    rw [nv_lb, nv_lb] at sp
    refine wp_call sp ?_
    simp only [getD_c0, toInt_int, cmpN]
    refine wp_decs (fun h2 => ?_) (fun h2 => ?_)
    · have sp := ref02_Sub_sp (lb x.natAbs) (lb y.natAbs) (by omega) (by omega)
      rw [nv_lb, nv_lb] at sp
      refine wp_call sp ?_
      simp only [getD_c0]
      refine wp_call (ref03_Norm_sp ⟨decide (x < 0), lb (x.natAbs - y.natAbs)⟩ (by simp only; have := hsub x.natAbs y.natAbs (by omega); omega)) (wp_ret ?_)
      simp only [getD_c0, zv_lb]
      have hge : y.natAbs ≤ x.natAbs := by split at h2 <;> omega
      rw [show (if decide (x < 0) = true then -((x.natAbs - y.natAbs : Nat) : Int) else ((x.natAbs - y.natAbs : Nat) : Int)) = x + y by
        by_cases hx : x < 0 <;> simp [hx] <;> omega]
      rfl
    · have sp := ref02_Sub_sp (lb y.natAbs) (lb x.natAbs) (by omega) (by omega)
      rw [nv_lb, nv_lb] at sp
      refine wp_call sp ?_
      simp only [getD_c0]
      refine wp_call (ref03_Norm_sp ⟨decide (y < 0), lb (y.natAbs - x.natAbs)⟩ (by simp only; have := hsub y.natAbs x.natAbs (by omega); omega)) (wp_ret ?_)
      simp only [getD_c0, zv_lb]
      have hge : x.natAbs < y.natAbs := by
        rcases Nat.lt_or_ge x.natAbs y.natAbs with h3 | h3
        · exact h3
        · rw [if_neg (by omega)] at h2; split at h2 <;> omega
      rw [show (if decide (y < 0) = true then -((y.natAbs - x.natAbs : Nat) : Int) else ((y.natAbs - x.natAbs : Nat) : Int)) = x + y by
        by_cases hx : y < 0 <;> simp [hx] <;> omega]
      rfl
theorem ref03_Sub_sp (a b : Wh) (ha : a.mag.length ≤ 10000) (hb : b.mag.length ≤ 10000) : Sp 122 [dW a, dW b] [dW (wz (zv a - zv b))] := by
  refine sound_ 0 (ref03_Sub_tree _ _ _) (wp_call (ref03_Neg_sp b (by omega)) ?_)
  simp only [getD_c0]
  have := wz_len b
  refine wp_call (ref03_Add_sp a (wz (-zv b)) ha (by simp only [wz, Int.natAbs_neg]; omega)) (wp_ret ?_)
  simp only [getD_c0, zv_wz, ← Int.sub_eq_add_neg]
theorem ref03_Sign_sp (a : Wh) (ha : a.mag.length ≤ 1000000) : Sp 121 [dW a] [.int (sgnZ (zv a))] := by
  refine sound_ 0 (ref03_Sign_tree _ _) (wp_call (ref03_Norm_sp a ha) ?_)
  generalize zv a = x
  simp only [getD_c0, dW_0, dW_1, els_dL, List.length_map, int_beq, toBool_bool, wz]
  have h0 : ((lb x.natAbs).length : Int) = 0 ↔ x = 0 := by rw [Int.natCast_eq_zero, lb_len0]; omega
  unfold sgnZ
  refine wp_decs (fun h => wp_ret ?_) (fun h => wp_decs (fun h2 => wp_ret ?_) (fun h2 => wp_ret ?_))
  · rw [if_neg (by have := h0.1 h; omega), if_pos (h0.1 h)]
  · rw [if_pos h2]
  · rw [if_neg h2, if_neg (fun hh => h (h0.2 hh))]
theorem sub_len {a b : Wh} {k : Nat} (ha : a.mag.length ≤ k) (hb : b.mag.length ≤ k) : (wz (zv a - zv b)).mag.length ≤ k + 1 := by
  simp only [wz]
  refine lb_len.2 ?_
  have h1 := lb_len.1 (Nat.le_trans (wz_len a) ha)
  have h2 := lb_len.1 (Nat.le_trans (wz_len b) hb)
  rw [Nat.pow_succ, B_eq]
  rw [B_eq] at h1 h2
  omega
theorem ref03_Cmp_sp (a b : Wh) (ha : a.mag.length ≤ 10000) (hb : b.mag.length ≤ 10000) : Sp 106 [dW a, dW b] [.int (cmpZ (zv a) (zv b))] := by
  refine sound_ 0 (ref03_Cmp_tree _ _ _) (wp_call (ref03_Sub_sp a b ha hb) ?_)
  simp only [getD_c0]
  have := sub_len ha hb
  refine wp_call (ref03_Sign_sp _ (by omega)) (wp_ret ?_)
  simp only [getD_c0, toInt_int, zv_wz]
  congr 2
  unfold sgnZ cmpZ
  split <;> split <;> first | rfl | omega | (split <;> split <;> first | rfl | omega) | (split <;> first | rfl | omega)
theorem mul_i64_small {x : Int} (h : inR (x * 4294967296)) : IntKind.wrap .i64 (x * 4294967296) = x * 4294967296 := wrap64 h.1 h.2
theorem ref03_Small_sp (a : Wh) (ha : a.mag.length ≤ 10000) : Sp 52 [dW a] (smallZ (zv a)) := by
  refine sound_ 10 (ref03_Small_tree _ _) (wp_call (ref03_Norm_sp a (by omega)) ?_)
  generalize zv a = z
  simp only [getD_c0, dW_0, dW_1, els_dL, List.length_map]
  refine wp_decs (fun h => wp_ret ?_) (fun h => ?_)
  · have : ¬ (lb z.natAbs).length ≤ 2 := by simp only [wz] at h; omega
    rw [lb_len] at this
    have : ¬ inR z := by
      intro hr
      apply this
      unfold inR at hr
      show z.natAbs < 18446744073709551616
      omega
    rw [smallZ, if_neg this]
  · have hl : (wz z).mag.length ≤ 2 := by omega
    have hof : ∀ y, inR y → (wz y).mag.length ≤ 2 := fun y hy => lb_len.2 (by unfold inR at hy; show y.natAbs < 18446744073709551616; omega)
    have r1 : inR 9223372036854775807 := by decide
    have r2 : inR (-9223372036854775808) := by decide
    refine wp_call (ref03_Of_sp _ r1) (wp_call (ref03_Cmp_sp (wz z) (wz 9223372036854775807) (by omega) (by have := hof _ r1; omega)) ?_)
    simp only [getD_c0, toInt_int, zv_wz, cmpZ]
    refine wp_decs (fun h2 => wp_ret ?_) (fun h2 => ?_)
    · rw [smallZ, if_neg]
      unfold inR
      split at h2
      · omega
      · split at h2 <;> omega
    · refine wp_call (ref03_Of_sp _ r2) (wp_call (ref03_Cmp_sp (wz z) (wz (-9223372036854775808)) (by omega) (by have := hof _ r2; omega)) ?_)
      simp only [getD_c0, toInt_int, zv_wz, cmpZ]
      refine wp_decs (fun h3 => wp_ret ?_) (fun h3 => ?_)
      · rw [smallZ, if_neg]
        unfold inR
        split at h3
        · omega
        · split at h3 <;> omega
      · have hz : inR z := by
          unfold inR
          constructor
          · split at h3 <;> omega
          · split at h2
            · omega
            · split at h2 <;> omega
        rw [smallZ, if_pos hz]
        have key := loop_down (P := Tryz.prog) (md := md) (fun m k (x : Int) => ref03_Small_l6 10 m x ((k : Int) - 1) (dW (wz z))) (fun _ _ => [.int z, .bool true])
          (fun k x => k ≤ (wz z).mag.length ∧ x = if z < 0 then -((z.natAbs / B ^ k : Nat) : Int) else ((z.natAbs / B ^ k : Nat) : Int))
          (fun m x ⟨_, hx⟩ => by
            simp only [ref03_Small_l6_succ]
            refine wp_ndec (by omega) (wp_ret ?_)
            rw [hx]
            simp only [Nat.pow_zero, Nat.div_one]
            congr 2
            split <;> omega)
          (fun m k x ⟨hk, hx⟩ ih => by
            have hk' : k < (lb z.natAbs).length := hk
            have hg : (lb z.natAbs)[k]? = some (lb z.natAbs)[k] := List.getElem?_eq_getElem _
            simp only [ref03_Small_l6_succ, show ((k + 1 : Nat) : Int) - 1 = (k : Int) by omega, dW_0, dW_1, els_dL, List.length_map, toBool_bool, Int.toNat_natCast]
            have e1 : (wz z).mag = lb z.natAbs := rfl
            have e2 : (wz z).neg = decide (z < 0) := rfl
            rw [e1, e2, getD_map hg, toInt_dB, nv_limb, nv_lb]
            have hd := Nat.mod_add_div (z.natAbs / B ^ k) B
            rw [Nat.div_div_eq_div_mul, ← Nat.pow_succ] at hd
            have hle : z.natAbs / B ^ k ≤ z.natAbs := Nat.div_le_self _ _
            have hm := Nat.mod_lt (z.natAbs / B ^ k) B_pos
            unfold inR at hz
            have ih' := ih (if z < 0 then -((z.natAbs / B ^ k : Nat) : Int) else ((z.natAbs / B ^ k : Nat) : Int)) ⟨by omega, rfl⟩
            generalize z.natAbs / B ^ k = p at *
            generalize z.natAbs / B ^ (k + 1) = q at *
            generalize p % B = r at *
            rw [B_eq] at hd hm
            refine wp_dec (by omega) (wp_decs (fun hn => ?_) (fun hn => ?_))
            · rw [if_pos hn] at hx ih'
              refine wp_dec (by omega) (wp_dec (by omega) ?_)
              rw [hx, wrap64 (x := -(q : Int) * 4294967296) (by omega) (by omega), wrap64 (x := (r : Int)) (by omega) (by omega), wrap64 (x := -(q : Int) * 4294967296 - r) (by omega) (by omega), wrap64 (by omega) (by omega), show -(q : Int) * 4294967296 - (r : Int) = -(p : Int) by omega]
              exact ih'
            · rw [if_neg hn] at hx ih'
              refine wp_dec (by omega) (wp_dec (by omega) ?_)
              rw [hx, wrap64 (x := (q : Int) * 4294967296) (by omega) (by omega), wrap64 (x := (r : Int)) (by omega) (by omega), wrap64 (x := (q : Int) * 4294967296 + r) (by omega) (by omega), wrap64 (by omega) (by omega), show (q : Int) * 4294967296 + (r : Int) = (p : Int) by omega]
              exact ih')
          10 (wz z).mag.length 0 (by omega) ⟨Nat.le_refl _, by
            have : z.natAbs / B ^ (wz z).mag.length = 0 := Nat.div_eq_of_lt (lb_len.1 (Nat.le_refl _))
            rw [this]; simp⟩
        rw [wrap64 (by omega) (by omega)]
        exact key
theorem nat_trim_sp (l : List Limb) (hl : l.length < 9223372036854775807) : Sp 150 [dL l] [dL (lb (nv l))] := by
  refine sound_ (l.length + 1) (nat_trim_tree _ _) ?_
  have := loop_down (P := Tryz.prog) (md := md) (fun m k (_ : Unit) => nat_trim_l2 (l.length + 1) m (dL l) (k : Int)) (fun _ _ => [dL (lb (nv l))]) (fun k _ => k ≤ l.length ∧ ∀ i, k ≤ i → (hi : i < l.length) → l[i] = 0)
    (fun m s ⟨h1, h2⟩ => by
      simp only [nat_trim_l2_succ, els_dL, List.length_map, List.length_take]
      refine wp_ndec (by omega) (wp_dec (by omega) (wp_dec (by omega) (wp_dec (by omega) (wp_ret ?_))))
      rw [lb_take (k := 0) (by omega) h2 (fun _ h => by omega), dL_take]; rfl)
    (fun m k s ⟨h1, h2⟩ ih => by
      have hk : l[k]? = some l[k] := List.getElem?_eq_getElem _
      simp only [nat_trim_l2_succ, els_dL, List.length_map, List.length_take, wrap_pred k (by omega), Int.toNat_natCast, getD_map hk, toInt_dB, int_beq]
      refine wp_dec (by omega) (wp_dec (by omega) (wp_dec (by omega) (wp_decs (fun h => ?_) (fun h => ?_))))
      · refine ih () ⟨by omega, fun i hi hlt => ?_⟩
        by_cases he : i = k
        · subst he; exact BitVec.eq_of_toNat_eq (by simp; omega)
        · exact h2 i (by omega) hlt
      · refine wp_dec (by omega) (wp_dec (by omega) (wp_dec (by omega) (wp_ret ?_)))
        rw [lb_take (k := k + 1) (by omega) h2 (fun _ _ hc => h (by have hc' : l[k] = 0 := hc; rw [hc']; rfl)), dL_take])
    (l.length + 1) l.length () (by omega) ⟨Nat.le_refl _, fun i h1 h2 => by omega⟩
  simpa using this
theorem nat_Norm_sp (l : List Limb) (hl : l.length ≤ 1000000) : Sp 139 [dL l] [dL (lb (nv l))] := by
  refine sound_ 0 (nat_Norm_tree _ _) (wp_call (nat_trim_sp l (by omega)) ?_)
  have h1 : (lb (nv l)).length ≤ l.length := lb_len.2 (nv_lt l)
  simp only [getD_c0, els_dL, List.length_map, List.length_replicate, Int.toNat_natCast]
  refine wp_dec (by omega) (wp_dec (by omega) (wp_dec (by unfold bigN; omega) (wp_ret ?_)))
  rw [List.take_of_length_le (by simp), List.drop_eq_nil_of_le (by simp), List.append_nil]; rfl
theorem whole_signed_sp (b : Bool) (n : Nat) : Sp 141 [.bool b, dL (lb n)] [dW (wz (if b then -(n : Int) else (n : Int)))] := by
  refine sound_ 0 (whole_signed_tree _ _ _) ?_
  simp only [els_dL, List.length_map, int_beq, toBool_bool]
  refine wp_decs (fun h => wp_ret ?_) (fun h => wp_ret ?_)
  · have : n = 0 := lb_len0.1 (by omega)
    subst this
    simp [dW_zero]
  · have : n ≠ 0 := fun hh => h (by rw [hh, lb_zero]; rfl)
    rw [wz_of _ this]; rfl
theorem whole_Norm_sp (w : Wh) (h : w.mag.length ≤ 1000000) : Sp 140 [dW w] [dW (wz (zv w))] := by
  refine sound_ 0 (whole_Norm_tree _ _) (wp_call (nat_Norm_sp w.mag h) ?_)
  simp only [getD_c0, dW_0, toBool_bool]
  exact wp_call (whole_signed_sp w.neg (nv w.mag)) (wp_ret rfl)
theorem u64_neg {z : Int} (h : z < 0) (h2 : -9223372036854775808 ≤ z) : IntKind.wrap .u64 (0 - IntKind.wrap .u64 z) = -z := by
  rw [IntKind.wrap_u64, IntKind.wrap_u64]; omega
theorem fdiv32 (x : Nat) : Int.fdiv (x : Int) (2 ^ (min (Int.toNat 32) (IntKind.bits .u64))) = ((x / 4294967296 : Nat) : Int) := by
  show Int.fdiv (x : Int) 4294967296 = _
  rw [Int.fdiv_eq_ediv_of_nonneg _ (by omega)]; omega
theorem whole_Of_sp (z : Int) (h : inR z) : Sp 111 [.int z] [dW (wz z)] := by
  unfold inR at h
  refine sound_ 0 (whole_Of_tree _ _) ?_
  simp only [toInt_int]
  have main : ∀ n : Nat, n < 18446744073709551616 → [D.int (IntKind.wrap .u32 (n : Int)), D.int (IntKind.wrap .u32 (Int.fdiv (n : Int) (2 ^ (min (Int.toNat 32) (IntKind.bits .u64)))))] = [BitVec.ofNat 32 (n % 4294967296), BitVec.ofNat 32 (n / 4294967296)].map dB := by
    intro n hn
    rw [fdiv32, wrapU32 (x := ((n / 4294967296 : Nat) : Int)) (by omega) (by omega), dB_ofNat (t := n / 4294967296) (by rw [B_eq]; omega), show IntKind.wrap .u32 (n : Int) = ((n % 4294967296 : Nat) : Int) by rw [IntKind.wrap_u32]; omega, dB_ofNat (t := n % 4294967296) (by rw [B_eq]; omega)]; rfl
  refine wp_decs (fun h0 => ?_) (fun h0 => ?_)
  · obtain ⟨n, hn⟩ : ∃ n : Nat, -z = n := ⟨(-z).toNat, by omega⟩
    rw [u64_neg h0 h.1, hn, main n (by omega)]
    simp only [h0, decide_true]
    have sp := nat_Norm_sp [BitVec.ofNat 32 (n % 4294967296), BitVec.ofNat 32 (n / 4294967296)] (by simp)
    rw [two_limbs (by omega)] at sp
    refine wp_dec (by omega) (wp_call sp ?_)
    simp only [getD_c0]
    refine wp_call (whole_signed_sp true n) (wp_ret ?_)
    simp only [getD_c0, if_true]
    rw [show -(n : Int) = z by omega]
  · obtain ⟨n, rfl⟩ : ∃ n : Nat, z = n := ⟨z.toNat, by omega⟩
    rw [wrapU64 (by omega) (by omega), main n (by omega)]
    simp only [h0, decide_false]
    have sp := nat_Norm_sp [BitVec.ofNat 32 (n % 4294967296), BitVec.ofNat 32 (n / 4294967296)] (by simp)
    rw [two_limbs (by omega)] at sp
    refine wp_dec (by omega) (wp_call sp ?_)
    simp only [getD_c0]
    exact wp_call (whole_signed_sp false n) (wp_ret rfl)
theorem or_limb {x d : Nat} (hx : x < 4294967296) (hd : d < 4294967296) : bits_ .or .u64 (x : Int) ((d * 4294967296 : Nat) : Int) = ((x + d * 4294967296 : Nat) : Int) := by
  have h := or_bits (BitVec.ofNat 64 x) (BitVec.ofNat 64 (d * 4294967296))
  rw [BitVec.toNat_or, BitVec.toNat_ofNat, BitVec.toNat_ofNat, Nat.mod_eq_of_lt (a := x) (by omega), Nat.mod_eq_of_lt (a := d * 4294967296) (by omega)] at h
  rw [h]
  congr 1
  have := Nat.two_pow_add_eq_or_of_lt (i := 32) (b := x) (by omega) d
  rw [show 2 ^ 32 * d = d * 4294967296 by omega] at this
  rw [Nat.or_comm, ← this]; omega
theorem whole_Small_sp (a : Wh) (ha : a.mag.length ≤ 1000000) : Sp 119 [dW a] (smallZ (zv a)) := by
  refine sound_ 10 (whole_Small_tree _ _) (wp_call (whole_Norm_sp a (by omega)) ?_)
  generalize zv a = z
  simp only [getD_c0, dW_0, dW_1, els_dL, List.length_map]
  refine wp_decs (fun h => wp_ret ?_) (fun h => ?_)
  · have : ¬ (lb z.natAbs).length ≤ 2 := by simp only [wz] at h; omega
    rw [lb_len] at this
    have : ¬ inR z := by
      intro hr
      apply this
      unfold inR at hr
      show z.natAbs < 18446744073709551616
      omega
    rw [smallZ, if_neg this]
  · have hl : (lb z.natAbs).length ≤ 2 := by simp only [wz] at h; omega
    have hlt : z.natAbs < 18446744073709551616 := lb_len.1 hl
    have fin : ∀ (m : Nat) (t : D) (k : Int), Tw (whole_Small_l6 10 (m + 1) (z.natAbs : Int) t k k (dW (wz z))) (smallZ z) := by
      intro m t k
      simp only [Tw, whole_Small_l6_succ, dW_0, toBool_bool, wz]
      refine wp_ndec (by omega) (wp_decs (fun hn => wp_decs (fun h2 => wp_ret ?_) (fun h2 => wp_ret ?_)) (fun hn => wp_decs (fun h2 => wp_ret ?_) (fun h2 => wp_ret ?_)))
      · rw [smallZ, if_neg]; unfold inR; omega
      · rw [smallZ, if_pos (by unfold inR; omega), IntKind.wrap_u64, IntKind.wrap_i64]
        congr 2
        omega
      · rw [smallZ, if_neg]; unfold inR; omega
      · rw [smallZ, if_pos (by unfold inR; omega), wrap64 (by omega) (by omega)]
        congr 2
        omega
    have one : ∀ (m : Nat) (l : List Limb) (t : Int) (k x : Nat) (d : Limb), k ≤ 1 → l[k]? = some d → (k : Int) < t → (k = 0 → x = 0) → x < 4294967296 → Tw (whole_Small_l6 10 m ((x + d.toNat * 4294967296 ^ k : Nat) : Int) (dL l) t ((k + 1 : Nat) : Int) (dW (wz z))) (smallZ z) → Tw (whole_Small_l6 10 (m + 1) (x : Int) (dL l) t (k : Int) (dW (wz z))) (smallZ z) := by
      intro m l t k x d hk hd ht hx hx2 hw
      have hkl : k < l.length := (List.getElem?_eq_some_iff.1 hd).1
      have hdl := limb_lt d
      rw [B_eq] at hdl
      simp only [Tw, whole_Small_l6_succ, els_dL, List.length_map, Int.toNat_natCast, getD_map hd, toInt_dB]
      rw [wrap64 (x := 32 * (k : Int)) (by omega) (by omega), wrapU64 (x := 32 * (k : Int)) (by omega) (by omega), wrapU64 (x := (d.toNat : Int)) (by omega) (by omega), wrap_succ (by omega)]
      refine wp_dec (by omega) (wp_dec (by omega) (wp_dec (by omega) (wp_dec (by omega) ?_)))
      have e : bits_ .or .u64 (x : Int) (IntKind.wrap .u64 ((d.toNat : Int) * 2 ^ (min (Int.toNat (32 * (k : Int))) (IntKind.bits .u64)))) = ((x + d.toNat * 4294967296 ^ k : Nat) : Int) := by
        rcases (by omega : k = 0 ∨ k = 1) with rfl | rfl
        · rw [hx rfl]
          show bits_ .or .u64 ((0 : Nat) : Int) (IntKind.wrap .u64 ((d.toNat : Int) * 1)) = _
          rw [Int.mul_one, wrapU64 (by omega) (by omega)]
          have := or_bits (0 : Lab) (BitVec.ofNat 64 d.toNat)
          rw [BitVec.toNat_or, BitVec.toNat_ofNat, Nat.mod_eq_of_lt (a := d.toNat) (by omega)] at this
          simpa using this
        · show bits_ .or .u64 (x : Int) (IntKind.wrap .u64 ((d.toNat : Int) * 4294967296)) = _
          rw [show (d.toNat : Int) * 4294967296 = ((d.toNat * 4294967296 : Nat) : Int) by omega, wrapU64 (by omega) (by omega), or_limb hx2 hdl]
          try simp
      rw [e]
      exact hw
    have hz0 : z.natAbs = nv (lb z.natAbs) := (nv_lb _).symm
    simp only [show (wz z).mag = lb z.natAbs from rfl]
    generalize hll : lb z.natAbs = ll at *
    match ll, hl with
    | [], _ =>
      have : z.natAbs = 0 := by simpa using hz0
      have hf := fin 9 (dL []) 0
      rw [this] at hf
      exact hf
    | [d], _ =>
      have : z.natAbs = d.toNat := by simpa [nv] using hz0
      refine one 9 [d] 1 0 0 d (by omega) rfl (by omega) (fun _ => rfl) (by omega) ?_
      have hf := fin 8 (dL [d]) 1
      rw [this] at hf
      simpa using hf
    | [d, e], _ =>
      have : z.natAbs = d.toNat + e.toNat * 4294967296 := by simp only [nv, nv_nil] at hz0; rw [B_eq] at hz0; omega
      have hdl := limb_lt d
      rw [B_eq] at hdl
      refine one 9 [d, e] 2 0 0 d (by omega) rfl (by omega) (fun _ => rfl) (by omega) ?_
      have := one 8 [d, e] 2 1 d.toNat e (by omega) rfl (by omega) (fun h => by omega) (by omega) (by
        have hf := fin 7 (dL [d, e]) 2
        rw [this] at hf
        simpa using hf)
      simpa using this
end Go.Proofs.YtjmddikeadbmjaaGreat
set_option maxRecDepth 100000
namespace Go.Proofs.YtjmddikeadbmjaaGreat

def numT (n : Num) : Int := zv ⟨n.neg, n.top⟩
def numB (n : Num) : Int := (nv n.bot : Int)
def ofZ (z : Int) : Num := ⟨decide (z < 0), lb z.natAbs, [1]⟩
def optI : Option Int → List D
  | some z => [.int z, .bool true]
  | none => [.int 0, .bool false]
def smO (z : Int) : Option Int := if inR z then some z else none
theorem smallZ_eq (z : Int) : smallZ z = optI (smO z) := by unfold smallZ smO; split <;> rfl
/-- A number as an int. -/
def smallN (n : Num) : Option Int := if n.bot = [1] then smO (numT n) else none
/-- In lowest terms; an error. -/
def mkR (p q : Int) : Num × Int :=
  if q = 0 then (.zero, 3)
  else if 32 < (lb (p.natAbs / Nat.gcd p.natAbs q.natAbs)).length ∨ 32 < (lb (q.natAbs / Nat.gcd p.natAbs q.natAbs)).length then (.zero, 7)
  else (⟨decide (0 < (lb (p.natAbs / Nat.gcd p.natAbs q.natAbs)).length) && !(decide (p < 0) == decide (q < 0)), lb (p.natAbs / Nat.gcd p.natAbs q.natAbs), lb (q.natAbs / Nat.gcd p.natAbs q.natAbs)⟩, 0)
def rightN (n : Num) : Bool := decide (n.top.length ≤ 32 ∧ n.bot.length ≤ 32 ∧ mkR (numT n) (numB n) = (n, 0))
theorem dN_zero : D.agg [.bool false, .sl [], .sl []] = dN .zero := rfl
theorem one_iff (l : List Limb) : (l = [1]) ↔ (l.length = 1 ∧ ∀ h : 0 < l.length, l[0].toNat = 1) := by
  constructor
  · rintro rfl; exact ⟨rfl, fun _ => rfl⟩
  · rintro ⟨h1, h2⟩
    match l, h1 with
    | [x], _ => have := h2 (by simp); simp at this; exact congrArg (· :: []) (BitVec.eq_of_toNat_eq (by simpa using this))
theorem one_tree {P : Program} {md : Nat → FMode} (l : List Limb) : (Tree.br (((l.map dB).length : Int) == 1) (.br (decide (0 ≤ (0 : Int))) (.br (decide (0 < ((l.map dB).length : Int))) (.ret [D.bool ((((l.map dB).getD (Int.toNat 0) D.nil).toInt) == 1)]) .fail) .fail) (.ret [D.bool false])).wp P md (fun zs => zs = [.bool (decide (l = [1]))]) := by
  simp only [List.length_map, int_beq]
  refine wp_decs (fun h => wp_dec (by omega) (wp_dec (by omega) (wp_ret ?_))) (fun h => wp_ret ?_)
  · have hg : l[0]? = some (l[0]'(by omega)) := List.getElem?_eq_getElem _
    rw [show Int.toNat 0 = 0 from rfl, getD_map hg, toInt_dB]
    congr 2
    rw [decide_eq_decide, one_iff]
    refine ⟨fun hh => ⟨by omega, fun _ => by omega⟩, fun hh => by have := hh.2 (by omega); omega⟩
  · rw [decide_eq_false]; rintro rfl; exact h rfl
theorem ref04_IsWhole_sp (n : Num) : Sp 51 [dN n] [.bool (decide (n.bot = [1]))] := by
  refine sound_ 0 (ref04_IsWhole_tree _ _) ?_
  simp only [dN_2, els_dL]
  exact one_tree n.bot
theorem ratio_isOne_sp (l : List Limb) : Sp 118 [dL l] [.bool (decide (l = [1]))] := by
  refine sound_ 0 (ratio_isOne_tree _ _) ?_
  simp only [els_dL]
  exact one_tree l
theorem ref04_Top_sp (n : Num) (h : n.top.length ≤ 1000000) : Sp 53 [dN n] [dW (wz (numT n))] := by
  refine sound_ 0 (ref04_Top_tree _ _) ?_
  simp only [dN_0, dN_1, toBool_bool]
  exact wp_call (ref03_Norm_sp ⟨n.neg, n.top⟩ h) (wp_ret rfl)
theorem ref04_Bot_sp (n : Num) (h : n.bot.length ≤ 1000000) : Sp 55 [dN n] [dW (wz (numB n))] := by
  refine sound_ 0 (ref04_Bot_tree _ _) ?_
  simp only [dN_2]
  exact wp_call (ref03_Norm_sp ⟨false, n.bot⟩ h) (wp_ret rfl)
theorem ref04_Whole_sp (w : Wh) (h : w.mag.length ≤ 1000000) : Sp 94 [dW w] [dN (ofZ (zv w))] := by
  refine sound_ 0 (ref04_Whole_tree _ _) (wp_call (ref03_Norm_sp w h) (wp_ret rfl))
theorem ref04_Of_sp (z : Int) (h : inR z) : Sp 39 [.int z] [dN (ofZ z)] := by
  refine sound_ 0 (ref04_Of_tree _ _) (wp_call (ref03_Of_sp z h) ?_)
  have hl : (wz z).mag.length ≤ 2 := lb_len.2 (by unfold inR at h; show z.natAbs < 18446744073709551616; omega)
  refine wp_call (ref04_Whole_sp (wz z) (by omega)) (wp_ret ?_)
  rw [zv_wz]; rfl
theorem ref04_Small_sp (n : Num) (h : n.top.length ≤ 10000) : Sp 23 [dN n] (optI (smallN n)) := by
  refine sound_ 0 (ref04_Small_tree _ _) (wp_call (ref04_IsWhole_sp n) ?_)
  simp only [getD_c0, toBool_bool, not_dec]
  unfold smallN
  refine wp_decs (fun h => wp_ret ?_) (fun h0 => ?_)
  · rw [if_neg h]; rfl
  · rw [if_pos (Classical.not_not.1 h0)]
    refine wp_call (ref04_Top_sp n (by omega)) ?_
    have hl : (wz (numT n)).mag.length ≤ n.top.length := wz_len ⟨n.neg, n.top⟩
    refine wp_call (ref03_Small_sp (wz (numT n)) (by omega)) ?_
    rw [zv_wz, smallZ_eq]
    cases smO (numT n) <;> exact wp_ret rfl
theorem ratio_top_sp (n : Num) : Sp 113 [dN n] [dW ⟨n.neg, n.top⟩] := sound_ 0 (ratio_top_tree _ _) (wp_ret rfl)
theorem ratio_Small_sp (n : Num) (h : n.top.length ≤ 1000000) : Sp 64 [dN n] (optI (smallN n)) := by
  refine sound_ 0 (ratio_Small_tree _ _) (wp_call (ratio_isOne_sp n.bot) ?_)
  simp only [getD_c0, toBool_bool, not_dec]
  unfold smallN
  refine wp_decs (fun h => wp_ret ?_) (fun h0 => ?_)
  · rw [if_neg h]; rfl
  · rw [if_pos (Classical.not_not.1 h0)]
    refine wp_call (ratio_top_sp n) (wp_call (whole_Small_sp ⟨n.neg, n.top⟩ h) ?_)
    rw [smallZ_eq, show zv ⟨n.neg, n.top⟩ = numT n from rfl]
    cases smO (numT n) <;> exact wp_ret rfl
/-- A whole number, if it is not too great. -/
def wholeN (z : Int) : Num := if 32 < (lb z.natAbs).length then .zero else ofZ z
theorem ratio_Whole_sp (w : Wh) (h : w.mag.length ≤ 1000000) : Sp 110 [dW w] [dN (wholeN (zv w))] := by
  refine sound_ 0 (ratio_Whole_tree _ _) (wp_call (whole_Norm_sp w h) ?_)
  simp only [getD_c0, dW_0, dW_1, els_dL, List.length_map, toBool_bool]
  unfold wholeN
  refine wp_decs (fun h => wp_ret ?_) (fun h => wp_ret ?_)
  · rw [if_pos (by simp only [wz] at h; omega)]; rfl
  · rw [if_neg (by simp only [wz] at h; omega)]; rfl
theorem ratio_Of_sp (z : Int) (h : inR z) : Sp 58 [.int z] [dN (ofZ z)] := by
  refine sound_ 0 (ratio_Of_tree _ _) (wp_call (whole_Of_sp z h) ?_)
  have hl : (wz z).mag.length ≤ 2 := lb_len.2 (by unfold inR at h; show z.natAbs < 18446744073709551616; omega)
  refine wp_call (ratio_Whole_sp (wz z) (by omega)) (wp_ret ?_)
  rw [zv_wz, wholeN, if_neg (by simp only [wz] at hl; omega)]; rfl
theorem num_eq (a b : Num) : (a = b) ↔ (a.neg = b.neg ∧ a.top = b.top ∧ a.bot = b.bot) := by
  cases a; cases b; simp
theorem ref04_Same_sp (a b : Num) (h1 : a.top.length ≤ 9223372036854775807) (h2 : a.bot.length ≤ 9223372036854775807) : Sp 30 [dN a, dN b] [.bool (decide (a = b))] := by
  refine sound_ 0 (ref04_Same_tree _ _ _) ?_
  simp only [dN_0, dN_1, dN_2, toBool_bool, bool_beq]
  refine wp_decs (fun e1 => wp_call (ref02_Same_sp a.top b.top h1) ?_) (fun e1 => wp_ret ?_)
  · simp only [getD_c0, toBool_bool]
    refine wp_decs (fun e2 => wp_call (ref02_Same_sp a.bot b.bot h2) (wp_ret ?_)) (fun e2 => wp_ret ?_)
    · simp only [getD_c0, toBool_bool]
      congr 2
      rw [decide_eq_decide, num_eq]; simp [e1, e2]
    · rw [decide_eq_false]; rintro rfl; exact e2 rfl
  · rw [decide_eq_false]; rintro rfl; exact e1 rfl
theorem slices_EqualI_sp (a b : List Int) (ha : a.length ≤ 9223372036854775807) : Sp 48 [dI a, dI b] [.bool (decide (a = b))] := by
  refine sound_ (a.length + 1) (slices_Equal_int_int_tree _ _ _) ?_
  simp only [els_dI, List.length_map, int_bne]
  refine wp_decs (fun h => wp_ret ?_) (fun h => ?_)
  · rw [decide_eq_false]; rintro rfl; exact h rfl
  · refine eq_loop D.int dint_inj a b (by omega) ha (fun m i => slices_Equal_int_int_l4 (a.length + 1) m (dI a) (dI b) (a.length : Int) i) (fun m i => ?_)
    rw [slices_Equal_int_int_l4_succ]
    simp only [els_dI, List.length_map]
theorem ref04_Make_sp (p q : Wh) (hp : p.mag.length ≤ 1000) (hq : q.mag.length ≤ 1000) : Sp 54 [dW p, dW q] [dN (mkR (zv p) (zv q)).1, .int (mkR (zv p) (zv q)).2] := by
  refine sound_ 0 (ref04_Make_tree _ _ _) (wp_call (ref03_Norm_sp p (by omega)) (wp_call (ref03_Norm_sp q (by omega)) ?_))
  have lp := wz_len p
  have lq := wz_len q
  generalize zv p = x at *
  generalize zv q = y at *
  simp only [getD_c0, dW_0, dW_1, els_dL, List.length_map, toBool_bool, int_beq, wz]
  refine wp_decs (fun h => wp_ret ?_) (fun h => ?_)
  · have : y = 0 := by have := lb_len0.1 (show (lb y.natAbs).length = 0 by omega); omega
    unfold mkR; rw [if_pos this]; rfl
  · have hy : y ≠ 0 := fun hh => h (by rw [hh]; simp [lb_zero])
    have sp := ref02_Gcd_sp (lb x.natAbs) (lb y.natAbs) (by omega) (by omega)
    rw [nv_lb, nv_lb] at sp
    refine wp_call sp ?_
    simp only [getD_c0]
    have hg : Nat.gcd x.natAbs y.natAbs ≠ 0 := fun hh => hy (by have := (Nat.gcd_eq_zero_iff.1 hh).2; omega)
    have hgl : (lb (Nat.gcd x.natAbs y.natAbs)).length ≤ 1000 := by
      refine Nat.le_trans ?_ (Nat.le_trans lq hq)
      refine lb_len.2 (Nat.lt_of_le_of_lt (Nat.gcd_le_right _ (by omega)) (lb_len.1 (Nat.le_refl _)))
    have sp1 := ref02_DivMod_sp (lb x.natAbs) (lb (Nat.gcd x.natAbs y.natAbs)) (by omega) (by omega)
    have sp2 := ref02_DivMod_sp (lb y.natAbs) (lb (Nat.gcd x.natAbs y.natAbs)) (by omega) (by omega)
    rw [nv_lb, nv_lb] at sp1 sp2
    refine wp_call sp1 (wp_call sp2 ?_)
    simp only [getD_c0, els_dL, List.length_map]
    unfold mkR
    rw [if_neg hy]
    refine wp_decs (fun h1 => wp_ret ?_) (fun h1 => wp_decs (fun h2 => wp_ret ?_) (fun h2 => wp_decs (fun h3 => wp_ret ?_) (fun h3 => wp_ret ?_)))
    · rw [if_pos (by omega)]; rfl
    · rw [if_pos (by omega)]; rfl
    · rw [if_neg (by omega), decide_eq_true (p := 0 < (lb (x.natAbs / Nat.gcd x.natAbs y.natAbs)).length) (by omega), Bool.true_and]; rfl
    · rw [if_neg (by omega), decide_eq_false (p := 0 < (lb (x.natAbs / Nat.gcd x.natAbs y.natAbs)).length) (by omega), Bool.false_and]; rfl
theorem ref04_Right_sp (n : Num) : Sp 24 [dN n] [.bool (rightN n)] := by
  refine sound_ 0 (ref04_Right_tree _ _) ?_
  simp only [dN_1, dN_2, els_dL, List.length_map]
  unfold rightN
  refine wp_decs (fun h => wp_ret ?_) (fun h => wp_decs (fun h' => wp_ret ?_) (fun h' => ?_))
  · rw [decide_eq_false (by omega)]
  · rw [decide_eq_false (by omega)]
  · refine wp_call (ref04_Top_sp n (by omega)) (wp_call (ref04_Bot_sp n (by omega)) ?_)
    have l1 : (wz (numT n)).mag.length ≤ n.top.length := wz_len ⟨n.neg, n.top⟩
    have l2 : (wz (numB n)).mag.length ≤ n.bot.length := wz_len ⟨false, n.bot⟩
    refine wp_call (ref04_Make_sp (wz (numT n)) (wz (numB n)) (by omega) (by omega)) ?_
    simp only [getD_c0, getD_c1, toInt_int, int_beq, zv_wz]
    generalize mkR (numT n) (numB n) = r
    refine wp_decs (fun h3 => wp_call (ref04_Same_sp n r.1 (by omega) (by omega)) (wp_ret ?_)) (fun h3 => wp_ret ?_)
    · simp only [getD_c0, toBool_bool]
      congr 2
      rw [decide_eq_decide]
      refine ⟨fun hh => ⟨by omega, by omega, by rw [hh]; exact Prod.ext rfl h3⟩, fun hh => by rw [hh.2.2]⟩
    · rw [decide_eq_false]
      rintro ⟨_, _, hh⟩
      exact h3 (by rw [hh])
end Go.Proofs.YtjmddikeadbmjaaGreat
