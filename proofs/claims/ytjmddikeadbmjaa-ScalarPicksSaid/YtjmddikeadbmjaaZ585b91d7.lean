/- Proved: lemmas for the law of this folder, part 4. No condition. -/
import Derived.Test.YtjmddikeadbmjaaRows
import Derived.WalkKit
import Derived.WalkSpells
import Derived.WalkLawsBesides
import Derived.Lib.Hide
import Derived.Laws.CopyOwn
import Derived.Deep.QuietTactic
import Derived.BigQuiet
import Derived.Orders
import Derived.Defers
import Derived.Recover
import Derived.Test.YtjmddikeadbmjaaProg
import Derived.KernelRfl
import Derived.ProofKit
import Derived.OpenShut
import Derived.Test.YtjmddikeadbmjaaZ4c7b3eb3
set_option linter.unusedSimpArgs false
set_option linter.unusedVariables false
namespace Go.Proofs.Ytjmddikeadbmjaa
def mdL : List (Nat × FMode) := [(41, { own := [(0, [])] }), (30, { own := [(0, [])] }), (35, { own := [(0, [])] }), (36, { own := [(0, [])] }), (84, { arg := some 0, back := true }), (88, { own := [(0, [])] })]
def md (f : Nat) : FMode := mdAt mdL f
theorem wfP : WfP Try.prog := wf_of (by kernel_rfl)
theorem mixP : Try.prog.follows .mixedOrders = true := by kernel_rfl
theorem noopP : NoopP Try.prog md := noop_all (by
  intro p hp hn
  simp only [mdL, List.mem_cons, List.not_mem_nil, or_false] at hp
  rcases hp with rfl | rfl | rfl | rfl | rfl | rfl
  all_goals first | exact absurd hn (by decide) | skip
  )
theorem sound_ {f : Nat} {cts : List CT} {xs ys : List D} {orc : List (Nat × Orc)} {t : Tree} (n : Nat) (h : evFun Try.prog md orc n f cts xs = t) (ht : t.wp Try.prog md (fun zs => zs = ys)) : Spec Try.prog md f cts xs ys :=
  fun_sound wfP mixP noopP (orc := orc) (n := n) (by rw [h]; exact ht)
end Go.Proofs.Ytjmddikeadbmjaa
set_option maxRecDepth 100000
namespace Go.Proofs.Ytjmddikeadbmjaa
/-! scrim/scrimref04.Same -/
def ref04_Same_orc : List (Nat × Orc) := []
theorem ref04_Same_tree (n : Nat) (a0 : D) (b1 : D) : evFun Try.prog md ref04_Same_orc n 14 [] [a0, b1] =
 .br (((a0.fld 0).toBool) == ((b1.fld 0).toBool)) (.call 24 [] [a0.fld 1, b1.fld 1] fun yy1 =>
 .br ((yy1.getD 0 D.nil).toBool) (.call 24 [] [a0.fld 2, b1.fld 2] fun yy2 =>
 .ret [D.bool ((yy2.getD 0 D.nil).toBool)])
 (.ret [D.bool false]))
 (.ret [D.bool false]) := by kernel_rfl

/-! scrim/scrimref04.Of -/
def ref04_Of_orc : List (Nat × Orc) := []
theorem ref04_Of_tree (n : Nat) (n0 : D) : evFun Try.prog md ref04_Of_orc n 15 [] [n0] =
 .call 26 [] [D.int n0.toInt] fun yy1 =>
 .call 25 [] [yy1.getD 0 D.nil] fun yy2 =>
 .ret [yy2.getD 0 D.nil] := by kernel_rfl

/-! scrim/ratio.Of -/
def ratio_Of_orc : List (Nat × Orc) := []
theorem ratio_Of_tree (n : Nat) (n0 : D) : evFun Try.prog md ratio_Of_orc n 18 [] [n0] =
 .call 29 [] [D.int n0.toInt] fun yy1 =>
 .call 28 [] [yy1.getD 0 D.nil] fun yy2 =>
 .ret [yy2.getD 0 D.nil] := by kernel_rfl

/-! scrim/scrimref04.Whole -/
def ref04_Whole_orc : List (Nat × Orc) := []
theorem ref04_Whole_tree (n : Nat) (n0 : D) : evFun Try.prog md ref04_Whole_orc n 25 [] [n0] =
 .call 37 [] [n0] fun yy1 =>
 .ret [D.agg [D.bool (((yy1.getD 0 D.nil).fld 0).toBool), (yy1.getD 0 D.nil).fld 1, D.sl [D.int 1]]] := by kernel_rfl

/-! scrim/ratio.Whole -/
def ratio_Whole_orc : List (Nat × Orc) := []
theorem ratio_Whole_tree (n : Nat) (n0 : D) : evFun Try.prog md ratio_Whole_orc n 28 [] [n0] =
 .call 39 [] [n0] fun yy1 =>
 .br (decide (32 < ((((yy1.getD 0 D.nil).fld 1).els).length : Int))) (.ret [D.agg [D.bool false, D.sl [], D.sl []]])
 (.ret [D.agg [D.bool (((yy1.getD 0 D.nil).fld 0).toBool), (yy1.getD 0 D.nil).fld 1, D.sl [D.int 1]]]) := by kernel_rfl

/-! scrim/ratio.Add -/
def ratio_Add_orc : List (Nat × Orc) := []
theorem ratio_Add_tree (n : Nat) (a0 : D) (b1 : D) : evFun Try.prog md ratio_Add_orc n 43 [] [a0, b1] =
 .call 61 [] [a0] fun yy1 =>
 .call 62 [] [b1] fun yy2 =>
 .call 60 [] [yy1.getD 0 D.nil, yy2.getD 0 D.nil] fun yy3 =>
 .call 61 [] [b1] fun yy4 =>
 .call 62 [] [a0] fun yy5 =>
 .call 60 [] [yy4.getD 0 D.nil, yy5.getD 0 D.nil] fun yy6 =>
 .call 59 [] [yy3.getD 0 D.nil, yy6.getD 0 D.nil] fun yy7 =>
 .call 62 [] [a0] fun yy8 =>
 .call 62 [] [b1] fun yy9 =>
 .call 60 [] [yy8.getD 0 D.nil, yy9.getD 0 D.nil] fun yy10 =>
 .call 63 [] [yy7.getD 0 D.nil, yy10.getD 0 D.nil] fun yy11 =>
 .ret [yy11.getD 0 D.nil, D.int ((yy11.getD 1 D.nil).toInt)] := by kernel_rfl

/-! scrim/ratio.Sub -/
def ratio_Sub_orc : List (Nat × Orc) := []
theorem ratio_Sub_tree (n : Nat) (a0 : D) (b1 : D) : evFun Try.prog md ratio_Sub_orc n 44 [] [a0, b1] =
 .call 64 [] [b1] fun yy1 =>
 .call 43 [] [a0, yy1.getD 0 D.nil] fun yy2 =>
 .ret [yy2.getD 0 D.nil, D.int ((yy2.getD 1 D.nil).toInt)] := by kernel_rfl

/-! scrim/ratio.Mul -/
def ratio_Mul_orc : List (Nat × Orc) := []
theorem ratio_Mul_tree (n : Nat) (a0 : D) (b1 : D) : evFun Try.prog md ratio_Mul_orc n 45 [] [a0, b1] =
 .call 61 [] [a0] fun yy1 =>
 .call 61 [] [b1] fun yy2 =>
 .call 60 [] [yy1.getD 0 D.nil, yy2.getD 0 D.nil] fun yy3 =>
 .call 62 [] [a0] fun yy4 =>
 .call 62 [] [b1] fun yy5 =>
 .call 60 [] [yy4.getD 0 D.nil, yy5.getD 0 D.nil] fun yy6 =>
 .call 63 [] [yy3.getD 0 D.nil, yy6.getD 0 D.nil] fun yy7 =>
 .ret [yy7.getD 0 D.nil, D.int ((yy7.getD 1 D.nil).toInt)] := by kernel_rfl

/-! scrim/ratio.Div -/
def ratio_Div_orc : List (Nat × Orc) := []
theorem ratio_Div_tree (n : Nat) (a0 : D) (b1 : D) : evFun Try.prog md ratio_Div_orc n 46 [] [a0, b1] =
 .call 61 [] [a0] fun yy1 =>
 .call 62 [] [b1] fun yy2 =>
 .call 60 [] [yy1.getD 0 D.nil, yy2.getD 0 D.nil] fun yy3 =>
 .call 62 [] [a0] fun yy4 =>
 .call 61 [] [b1] fun yy5 =>
 .call 60 [] [yy4.getD 0 D.nil, yy5.getD 0 D.nil] fun yy6 =>
 .call 63 [] [yy3.getD 0 D.nil, yy6.getD 0 D.nil] fun yy7 =>
 .ret [yy7.getD 0 D.nil, D.int ((yy7.getD 1 D.nil).toInt)] := by kernel_rfl

/-! scrim/ratio.Cmp -/
def ratio_Cmp_orc : List (Nat × Orc) := []
theorem ratio_Cmp_tree (n : Nat) (a0 : D) (b1 : D) : evFun Try.prog md ratio_Cmp_orc n 47 [] [a0, b1] =
 .call 65 [] [a0.fld 2] fun yy1 =>
 .br ((yy1.getD 0 D.nil).toBool) (.call 65 [] [b1.fld 2] fun yy2 =>
 .br ((yy2.getD 0 D.nil).toBool) (.call 61 [] [a0] fun yy3 =>
 .call 61 [] [b1] fun yy4 =>
 .call 66 [] [yy3.getD 0 D.nil, yy4.getD 0 D.nil] fun yy5 =>
 .ret [D.int ((yy5.getD 0 D.nil).toInt)])
 (.call 61 [] [a0] fun yy6 =>
 .call 62 [] [b1] fun yy7 =>
 .call 60 [] [yy6.getD 0 D.nil, yy7.getD 0 D.nil] fun yy8 =>
 .call 61 [] [b1] fun yy9 =>
 .call 62 [] [a0] fun yy10 =>
 .call 60 [] [yy9.getD 0 D.nil, yy10.getD 0 D.nil] fun yy11 =>
 .call 66 [] [yy8.getD 0 D.nil, yy11.getD 0 D.nil] fun yy12 =>
 .ret [D.int ((yy12.getD 0 D.nil).toInt)]))
 (.call 61 [] [a0] fun yy13 =>
 .call 62 [] [b1] fun yy14 =>
 .call 60 [] [yy13.getD 0 D.nil, yy14.getD 0 D.nil] fun yy15 =>
 .call 61 [] [b1] fun yy16 =>
 .call 62 [] [a0] fun yy17 =>
 .call 60 [] [yy16.getD 0 D.nil, yy17.getD 0 D.nil] fun yy18 =>
 .call 66 [] [yy15.getD 0 D.nil, yy18.getD 0 D.nil] fun yy19 =>
 .ret [D.int ((yy19.getD 0 D.nil).toInt)]) := by kernel_rfl

/-! scrim/ratio.Mod -/
def ratio_Mod_orc : List (Nat × Orc) := []
theorem ratio_Mod_tree (n : Nat) (a0 : D) (b1 : D) : evFun Try.prog md ratio_Mod_orc n 49 [] [a0, b1] =
 .call 67 [] [a0] fun yy1 =>
 .br (((yy1.getD 0 D.nil).toInt) == 0) (.call 68 [] [D.bool ((b1.fld 0).toBool), b1] fun yy2 =>
 .ret [yy2.getD 0 D.nil, D.int 0])
 (.call 46 [] [b1, a0] fun yy3 =>
 .br (((yy3.getD 1 D.nil).toInt) != 0) (.ret [D.agg [D.bool false, D.sl [], D.sl []], D.int ((yy3.getD 1 D.nil).toInt)])
 (.call 69 [] [yy3.getD 0 D.nil] fun yy4 =>
 .call 45 [] [a0, yy4.getD 0 D.nil] fun yy5 =>
 .br (((yy5.getD 1 D.nil).toInt) != 0) (.ret [D.agg [D.bool false, D.sl [], D.sl []], D.int ((yy5.getD 1 D.nil).toInt)])
 (.call 44 [] [b1, yy5.getD 0 D.nil] fun yy6 =>
 .ret [yy6.getD 0 D.nil, D.int ((yy6.getD 1 D.nil).toInt)]))) := by kernel_rfl

/-! scrim/ratio.Small -/
def ratio_Small_orc : List (Nat × Orc) := []
theorem ratio_Small_tree (n : Nat) (a0 : D) : evFun Try.prog md ratio_Small_orc n 50 [] [a0] =
 .call 65 [] [a0.fld 2] fun yy1 =>
 .br (!((yy1.getD 0 D.nil).toBool)) (.ret [D.int 0, D.bool false])
 (.call 61 [] [a0] fun yy2 =>
 .call 70 [] [yy2.getD 0 D.nil] fun yy3 =>
 .ret [D.int ((yy3.getD 0 D.nil).toInt), D.bool ((yy3.getD 1 D.nil).toBool)]) := by kernel_rfl

/-! scrim/ratio.Pow -/
def ratio_Pow_orc : List (Nat × Orc) := []
theorem ratio_Pow_tree (n : Nat) (a0 : D) (n1 : D) : evFun Try.prog md ratio_Pow_orc n 51 [] [a0, n1] =
 .call 61 [] [a0] fun yy1 =>
 .call 62 [] [a0] fun yy2 =>
 .br (decide (n1.toInt < 0)) (.call 71 [] [yy1.getD 0 D.nil] fun yy3 =>
 .br (((yy3.getD 0 D.nil).toInt) == 0) (.ret [D.agg [D.bool false, D.sl [], D.sl []], D.int 3])
 (.br (n1.toInt == (-9223372036854775808)) (.ret [D.agg [D.bool false, D.sl [], D.sl []], D.int 3])
 (.call 72 [] [yy2.getD 0 D.nil, D.int (IntKind.wrap .i64 (0 - n1.toInt))] fun yy4 =>
 .br (((yy4.getD 1 D.nil).toInt) != 0) (.ret [D.agg [D.bool false, D.sl [], D.sl []], D.int ((yy4.getD 1 D.nil).toInt)])
 (.call 72 [] [yy1.getD 0 D.nil, D.int (IntKind.wrap .i64 (0 - n1.toInt))] fun yy5 =>
 .br (((yy5.getD 1 D.nil).toInt) != 0) (.ret [D.agg [D.bool false, D.sl [], D.sl []], D.int ((yy5.getD 1 D.nil).toInt)])
 (.call 63 [] [yy4.getD 0 D.nil, yy5.getD 0 D.nil] fun yy6 =>
 .ret [yy6.getD 0 D.nil, D.int ((yy6.getD 1 D.nil).toInt)])))))
 (.call 72 [] [yy1.getD 0 D.nil, D.int n1.toInt] fun yy7 =>
 .br (((yy7.getD 1 D.nil).toInt) != 0) (.ret [D.agg [D.bool false, D.sl [], D.sl []], D.int ((yy7.getD 1 D.nil).toInt)])
 (.call 72 [] [yy2.getD 0 D.nil, D.int n1.toInt] fun yy8 =>
 .br (((yy8.getD 1 D.nil).toInt) != 0) (.ret [D.agg [D.bool false, D.sl [], D.sl []], D.int ((yy8.getD 1 D.nil).toInt)])
 (.call 63 [] [yy7.getD 0 D.nil, yy8.getD 0 D.nil] fun yy9 =>
 .ret [yy9.getD 0 D.nil, D.int ((yy9.getD 1 D.nil).toInt)]))) := by kernel_rfl

/-! scrim/ratio.Lcm -/
def ratio_Lcm_orc : List (Nat × Orc) := []
theorem ratio_Lcm_tree (n : Nat) (a0 : D) (b1 : D) : evFun Try.prog md ratio_Lcm_orc n 52 [] [a0, b1] =
 .call 53 [] [a0, b1] fun yy1 =>
 .br (((yy1.getD 1 D.nil).toInt) != 0) (.ret [D.agg [D.bool false, D.sl [], D.sl []], D.int ((yy1.getD 1 D.nil).toInt)])
 (.call 67 [] [yy1.getD 0 D.nil] fun yy2 =>
 .br (((yy2.getD 0 D.nil).toInt) == 0) (.call 18 [] [D.int 0] fun yy3 =>
 .ret [yy3.getD 0 D.nil, D.int 0])
 (.call 46 [] [a0, yy1.getD 0 D.nil] fun yy4 =>
 .br (((yy4.getD 1 D.nil).toInt) != 0) (.ret [D.agg [D.bool false, D.sl [], D.sl []], D.int ((yy4.getD 1 D.nil).toInt)])
 (.call 45 [] [yy4.getD 0 D.nil, b1] fun yy5 =>
 .ret [yy5.getD 0 D.nil, D.int ((yy5.getD 1 D.nil).toInt)]))) := by kernel_rfl

/-! scrim/ratio.Gcd -/
def ratio_Gcd_orc : List (Nat × Orc) := []
theorem ratio_Gcd_tree (n : Nat) (a0 : D) (b1 : D) : evFun Try.prog md ratio_Gcd_orc n 53 [] [a0, b1] =
 .call 65 [] [a0.fld 2] fun yy1 =>
 .br (!((yy1.getD 0 D.nil).toBool)) (.ret [D.agg [D.bool false, D.sl [], D.sl []], D.int 3])
 (.call 65 [] [b1.fld 2] fun yy2 =>
 .br (!((yy2.getD 0 D.nil).toBool)) (.ret [D.agg [D.bool false, D.sl [], D.sl []], D.int 3])
 (.call 73 [] [a0.fld 1, b1.fld 1] fun yy3 =>
 .call 28 [] [D.agg [D.bool false, yy3.getD 0 D.nil]] fun yy4 =>
 .ret [yy4.getD 0 D.nil, D.int 0])) := by kernel_rfl

/-! scrim/ratio.top -/
def ratio_top_orc : List (Nat × Orc) := []
theorem ratio_top_tree (n : Nat) (a0 : D) : evFun Try.prog md ratio_top_orc n 61 [] [a0] =
 .ret [D.agg [D.bool ((a0.fld 0).toBool), a0.fld 1]] := by kernel_rfl

/-! scrim/ratio.bot -/
def ratio_bot_orc : List (Nat × Orc) := []
theorem ratio_bot_tree (n : Nat) (a0 : D) : evFun Try.prog md ratio_bot_orc n 62 [] [a0] =
 .ret [D.agg [D.bool false, a0.fld 2]] := by kernel_rfl

/-! scrim/ratio.Make -/
def ratio_Make_orc : List (Nat × Orc) := []
theorem ratio_Make_tree (n : Nat) (p0 : D) (q1 : D) : evFun Try.prog md ratio_Make_orc n 63 [] [p0, q1] =
 .call 41 [] [p0.fld 1] fun yy1 =>
 .call 41 [] [q1.fld 1] fun yy2 =>
 .br ((((yy2.getD 0 D.nil).els).length : Int) == 0) (.ret [D.agg [D.bool false, D.sl [], D.sl []], D.int 3])
 (.call 65 [] [D.sl ((yy2.getD 0 D.nil).els)] fun yy3 =>
 .br (!((yy3.getD 0 D.nil).toBool)) (.call 73 [] [D.sl ((yy1.getD 0 D.nil).els), D.sl ((yy2.getD 0 D.nil).els)] fun yy4 =>
 .call 65 [] [yy4.getD 0 D.nil] fun yy5 =>
 .br (!((yy5.getD 0 D.nil).toBool)) (.call 77 [] [D.sl ((yy1.getD 0 D.nil).els), yy4.getD 0 D.nil] fun yy6 =>
 .call 77 [] [D.sl ((yy2.getD 0 D.nil).els), yy4.getD 0 D.nil] fun yy7 =>
 .br (decide (32 < (((yy6.getD 0 D.nil).els).length : Int))) (.ret [D.agg [D.bool false, D.sl [], D.sl []], D.int 7])
 (.br (decide (32 < (((yy7.getD 0 D.nil).els).length : Int))) (.ret [D.agg [D.bool false, D.sl [], D.sl []], D.int 7])
 (.br (decide (0 < (((yy6.getD 0 D.nil).els).length : Int))) (.ret [D.agg [D.bool (!(((p0.fld 0).toBool) == ((q1.fld 0).toBool))), yy6.getD 0 D.nil, yy7.getD 0 D.nil], D.int 0])
 (.ret [D.agg [D.bool false, yy6.getD 0 D.nil, yy7.getD 0 D.nil], D.int 0]))))
 (.br (decide (32 < (((yy1.getD 0 D.nil).els).length : Int))) (.ret [D.agg [D.bool false, D.sl [], D.sl []], D.int 7])
 (.br (decide (32 < (((yy2.getD 0 D.nil).els).length : Int))) (.ret [D.agg [D.bool false, D.sl [], D.sl []], D.int 7])
 (.br (decide (0 < (((yy1.getD 0 D.nil).els).length : Int))) (.ret [D.agg [D.bool (!(((p0.fld 0).toBool) == ((q1.fld 0).toBool))), D.sl ((yy1.getD 0 D.nil).els), D.sl ((yy2.getD 0 D.nil).els)], D.int 0])
 (.ret [D.agg [D.bool false, D.sl ((yy1.getD 0 D.nil).els), D.sl ((yy2.getD 0 D.nil).els)], D.int 0])))))
 (.br (decide (32 < (((yy1.getD 0 D.nil).els).length : Int))) (.ret [D.agg [D.bool false, D.sl [], D.sl []], D.int 7])
 (.br (decide (32 < (((yy2.getD 0 D.nil).els).length : Int))) (.ret [D.agg [D.bool false, D.sl [], D.sl []], D.int 7])
 (.br (decide (0 < (((yy1.getD 0 D.nil).els).length : Int))) (.ret [D.agg [D.bool (!(((p0.fld 0).toBool) == ((q1.fld 0).toBool))), D.sl ((yy1.getD 0 D.nil).els), D.sl ((yy2.getD 0 D.nil).els)], D.int 0])
 (.ret [D.agg [D.bool false, D.sl ((yy1.getD 0 D.nil).els), D.sl ((yy2.getD 0 D.nil).els)], D.int 0]))))) := by kernel_rfl

/-! scrim/ratio.Neg -/
def ratio_Neg_orc : List (Nat × Orc) := []
theorem ratio_Neg_tree (n : Nat) (a0 : D) : evFun Try.prog md ratio_Neg_orc n 64 [] [a0] =
 .call 68 [] [D.bool (!((a0.fld 0).toBool)), a0] fun yy1 =>
 .ret [yy1.getD 0 D.nil] := by kernel_rfl

/-! scrim/ratio.isOne -/
def ratio_isOne_orc : List (Nat × Orc) := []
theorem ratio_isOne_tree (n : Nat) (a0 : D) : evFun Try.prog md ratio_isOne_orc n 65 [] [a0] =
 .br ((a0.els.length : Int) == 1) (.br (decide (0 ≤ 0)) (.br (decide (0 < (a0.els.length : Int))) (.ret [D.bool (((a0.els.getD (Int.toNat 0) D.nil).toInt) == 1)]) .fail) .fail)
 (.ret [D.bool false]) := by kernel_rfl

/-! scrim/ratio.Sign -/
def ratio_Sign_orc : List (Nat × Orc) := []
theorem ratio_Sign_tree (n : Nat) (a0 : D) : evFun Try.prog md ratio_Sign_orc n 67 [] [a0] =
 .call 61 [] [a0] fun yy1 =>
 .call 71 [] [yy1.getD 0 D.nil] fun yy2 =>
 .ret [D.int ((yy2.getD 0 D.nil).toInt)] := by kernel_rfl

/-! scrim/ratio.copied -/
def ratio_copied_orc : List (Nat × Orc) := []
theorem ratio_copied_tree (n : Nat) (neg0 : D) (a1 : D) : evFun Try.prog md ratio_copied_orc n 68 [] [neg0, a1] =
 .call 41 [] [a1.fld 1] fun yy1 =>
 .call 41 [] [a1.fld 2] fun yy2 =>
 .br neg0.toBool (.ret [D.agg [D.bool (decide (0 < (((yy1.getD 0 D.nil).els).length : Int))), D.sl ((yy1.getD 0 D.nil).els), D.sl ((yy2.getD 0 D.nil).els)]])
 (.ret [D.agg [D.bool false, D.sl ((yy1.getD 0 D.nil).els), D.sl ((yy2.getD 0 D.nil).els)]]) := by kernel_rfl

/-! scrim/ratio.Floor -/
def ratio_Floor_orc : List (Nat × Orc) := []
theorem ratio_Floor_tree (n : Nat) (a0 : D) : evFun Try.prog md ratio_Floor_orc n 69 [] [a0] =
 .call 61 [] [a0] fun yy1 =>
 .call 62 [] [a0] fun yy2 =>
 .call 79 [] [yy1.getD 0 D.nil, yy2.getD 0 D.nil] fun yy3 =>
 .call 28 [] [yy3.getD 0 D.nil] fun yy4 =>
 .ret [yy4.getD 0 D.nil] := by kernel_rfl

end Go.Proofs.Ytjmddikeadbmjaa
set_option maxRecDepth 100000
namespace Go.Proofs.Ytjmddikeadbmjaa
/-! scrim/scrimref07.Ints -/
def ref07_Ints_orc : List (Nat × Orc) := [(4, ⟨[(0, some 23), (1, some 23), (5, none)], [], []⟩)]
def ref07_Ints_ps : List Nat := [23, 23]
def ref07_Ints_rs : List ResultVar := [.tmp 4]
def ref07_Ints_ts : List Nat := [4]
noncomputable def ref07_Ints_l4 (n m4 : Nat) (a0 : D) (b1 : D) (i5 : Int) : Tree :=
  evLoop Try.prog md (ev Try.prog md n ref07_Ints_orc (cAt (bodyOf Try.prog 27) [1, 1, 0, 1, 0, 0])) (orcAt ref07_Ints_orc 4) m4 ⟨[.d 23 a0, .d 23 b1, .undef, .undef, .undef, .i .i64 i5, .undef, .undef, .undef, .undef, .undef, .undef, .undef, .undef, .undef, .undef, .undef, .undef, .undef, .undef, .undef, .undef, .undef, .undef, .undef, .undef], [], [], [], []⟩
   (blockK 0 (seqK (joinE Try.prog md (joinAt ref07_Ints_orc (cAt (bodyOf Try.prog 27) [1, 1, 1])) (ev Try.prog md n ref07_Ints_orc (cAt (bodyOf Try.prog 27) [1, 1, 1]))) (retK Try.prog md (md 27) ref07_Ints_ps ref07_Ints_rs ref07_Ints_ts)))
theorem ref07_Ints_l4_succ (n m4 : Nat) (a0 : D) (b1 : D) (i5 : Int) : ref07_Ints_l4 n (m4 + 1) a0 b1 i5 =
 .br (decide (i5 < (a0.els.length : Int))) (.br (decide (0 ≤ i5)) (.br (decide (i5 < (a0.els.length : Int))) (.br (decide (0 ≤ i5)) (.br (decide (i5 < (b1.els.length : Int))) (.br (((a0.els.getD (Int.toNat i5) D.nil).toInt) != ((b1.els.getD (Int.toNat i5) D.nil).toInt)) (.ret [D.bool false])
 (ref07_Ints_l4 n m4 a0 b1 (IntKind.wrap .i64 (i5 + 1)))) .fail) .fail) .fail) .fail)
 (.ret [D.bool true]) := by kernel_rfl
theorem ref07_Ints_tree (n : Nat) (a0 : D) (b1 : D) : evFun Try.prog md ref07_Ints_orc n 27 [] [a0, b1] =
 .br ((a0.els.length : Int) != (b1.els.length : Int)) (.ret [D.bool false])
 (ref07_Ints_l4 n n a0 b1 0) := by kernel_rfl

/-! slices.Clone[[]int,int] -/
def slices_Clone_int_int_orc : List (Nat × Orc) := []
theorem slices_Clone_int_int_tree (n : Nat) (s0 : D) : evFun Try.prog md slices_Clone_int_int_orc n 30 [] [s0] =
 .amb s0.els.isEmpty (.ret [D.sl []])
 (.br (decide (([] : List D).length + s0.els.length ≤ bigN)) (.ret [D.sl ([] ++ s0.els)]) .fail) := by kernel_rfl

/-! slices.Equal[[]int,int] -/
def slices_Equal_int_int_orc : List (Nat × Orc) := [(4, ⟨[(0, some 23), (1, some 23), (12, none), (13, none)], [], []⟩)]
def slices_Equal_int_int_ps : List Nat := [23, 23]
def slices_Equal_int_int_rs : List ResultVar := [.tmp 4]
def slices_Equal_int_int_ts : List Nat := [4]
noncomputable def slices_Equal_int_int_l4 (n m4 : Nat) (s10 : D) (s21 : D) (t12 : Int) (t13 : Int) : Tree :=
  evLoop Try.prog md (ev Try.prog md n slices_Equal_int_int_orc (cAt (bodyOf Try.prog 31) [1, 1, 0, 1, 0, 0])) (orcAt slices_Equal_int_int_orc 4) m4 ⟨[.d 23 s10, .d 23 s21, .undef, .undef, .undef, .undef, .undef, .undef, .undef, .undef, .undef, .undef, .i .i64 t12, .i .i64 t13, .undef, .undef, .undef, .undef, .undef, .undef, .undef, .undef, .undef, .undef, .undef, .undef], [], [], [], []⟩
   (blockK 0 (seqK (joinE Try.prog md (joinAt slices_Equal_int_int_orc (cAt (bodyOf Try.prog 31) [1, 1, 1])) (ev Try.prog md n slices_Equal_int_int_orc (cAt (bodyOf Try.prog 31) [1, 1, 1]))) (retK Try.prog md (md 31) slices_Equal_int_int_ps slices_Equal_int_int_rs slices_Equal_int_int_ts)))
theorem slices_Equal_int_int_l4_succ (n m4 : Nat) (s10 : D) (s21 : D) (t12 : Int) (t13 : Int) : slices_Equal_int_int_l4 n (m4 + 1) s10 s21 t12 t13 =
 .br (decide (t13 < t12)) (.br (decide (0 ≤ t13)) (.br (decide (t13 < (s10.els.length : Int))) (.br (decide (0 ≤ t13)) (.br (decide (t13 < (s21.els.length : Int))) (.br (((s10.els.getD (Int.toNat t13) D.nil).toInt) != ((s21.els.getD (Int.toNat t13) D.nil).toInt)) (.ret [D.bool false])
 (slices_Equal_int_int_l4 n m4 s10 s21 t12 (IntKind.wrap .i64 (t13 + 1)))) .fail) .fail) .fail) .fail)
 (.ret [D.bool true]) := by kernel_rfl
theorem slices_Equal_int_int_tree (n : Nat) (s10 : D) (s21 : D) : evFun Try.prog md slices_Equal_int_int_orc n 31 [] [s10, s21] =
 .br ((s10.els.length : Int) != (s21.els.length : Int)) (.ret [D.bool false])
 (slices_Equal_int_int_l4 n n s10 s21 (s10.els.length : Int) 0) := by kernel_rfl

/-! slices.Clone[[]uint32,uint32] -/
def slices_Clone_uint32_uint32_orc : List (Nat × Orc) := []
theorem slices_Clone_uint32_uint32_tree (n : Nat) (s0 : D) : evFun Try.prog md slices_Clone_uint32_uint32_orc n 35 [] [s0] =
 .amb s0.els.isEmpty (.ret [D.sl []])
 (.br (decide (([] : List D).length + s0.els.length ≤ bigN)) (.ret [D.sl ([] ++ s0.els)]) .fail) := by kernel_rfl

/-! slices.Clone[[]scrim/api.Array,scrim/api.Array] -/
def slices_Clone_api_Array_api_Array_orc : List (Nat × Orc) := []
theorem slices_Clone_api_Array_api_Array_tree (n : Nat) (s0 : D) : evFun Try.prog md slices_Clone_api_Array_api_Array_orc n 36 [] [s0] =
 .amb s0.els.isEmpty (.ret [D.sl []])
 (.br (decide (([] : List D).length + s0.els.length ≤ bigN)) (.ret [D.sl ([] ++ s0.els)]) .fail) := by kernel_rfl

end Go.Proofs.Ytjmddikeadbmjaa
set_option maxRecDepth 100000
namespace Go.Proofs.Ytjmddikeadbmjaa
/-! scrim/scrimref03.Of -/
def ref03_Of_orc : List (Nat × Orc) := []
theorem ref03_Of_tree (n : Nat) (n0 : D) : evFun Try.prog md ref03_Of_orc n 26 [] [n0] =
 .br (decide (0 ≤ n0.toInt)) (.br (!(4294967296 == (0 : Int))) (.br (!(4294967296 == (0 : Int))) (.call 37 [] [D.agg [D.bool false, D.sl [D.int (IntKind.wrap .u32 (Int.tmod n0.toInt 4294967296)), D.int (IntKind.wrap .u32 (IntKind.wrap .i64 (Int.tdiv n0.toInt 4294967296)))]]] fun yy1 =>
 .ret [yy1.getD 0 D.nil]) .fail) .fail)
 (.br (!(4294967296 == (0 : Int))) (.br (!(4294967296 == (0 : Int))) (.call 38 [] [D.sl [D.int (IntKind.wrap .u32 (Int.tmod (IntKind.wrap .i64 ((-1) - n0.toInt)) 4294967296)), D.int (IntKind.wrap .u32 (IntKind.wrap .i64 (Int.tdiv (IntKind.wrap .i64 ((-1) - n0.toInt)) 4294967296)))], D.sl [D.int 1]] fun yy2 =>
 .call 37 [] [D.agg [D.bool true, yy2.getD 0 D.nil]] fun yy3 =>
 .ret [yy3.getD 0 D.nil]) .fail) .fail) := by kernel_rfl

/-! scrim/whole.Of -/
def whole_Of_orc : List (Nat × Orc) := []
theorem whole_Of_tree (n : Nat) (n0 : D) : evFun Try.prog md whole_Of_orc n 29 [] [n0] =
 .br (decide (n0.toInt < 0)) (.br (decide (0 ≤ 32)) (.call 41 [] [D.sl [D.int (IntKind.wrap .u32 (IntKind.wrap .u64 (0 - (IntKind.wrap .u64 n0.toInt)))), D.int (IntKind.wrap .u32 (Int.fdiv (IntKind.wrap .u64 (0 - (IntKind.wrap .u64 n0.toInt))) (2 ^ (min (Int.toNat 32) (IntKind.bits .u64)))))]] fun yy1 =>
 .call 40 [] [D.bool (decide (n0.toInt < 0)), D.sl ((yy1.getD 0 D.nil).els)] fun yy2 =>
 .ret [yy2.getD 0 D.nil]) .fail)
 (.br (decide (0 ≤ 32)) (.call 41 [] [D.sl [D.int (IntKind.wrap .u32 (IntKind.wrap .u64 n0.toInt)), D.int (IntKind.wrap .u32 (Int.fdiv (IntKind.wrap .u64 n0.toInt) (2 ^ (min (Int.toNat 32) (IntKind.bits .u64)))))]] fun yy3 =>
 .call 40 [] [D.bool (decide (n0.toInt < 0)), D.sl ((yy3.getD 0 D.nil).els)] fun yy4 =>
 .ret [yy4.getD 0 D.nil]) .fail) := by kernel_rfl

/-! scrim/scrimref03.Norm -/
def ref03_Norm_orc : List (Nat × Orc) := []
theorem ref03_Norm_tree (n : Nat) (a0 : D) : evFun Try.prog md ref03_Norm_orc n 37 [] [a0] =
 .call 55 [] [a0.fld 1] fun yy1 =>
 .br ((((yy1.getD 0 D.nil).els).length : Int) == 0) (.ret [D.agg [D.bool false, D.sl []]])
 (.ret [D.agg [D.bool ((a0.fld 0).toBool), yy1.getD 0 D.nil]]) := by kernel_rfl

/-! scrim/whole.Norm -/
def whole_Norm_orc : List (Nat × Orc) := []
theorem whole_Norm_tree (n : Nat) (a0 : D) : evFun Try.prog md whole_Norm_orc n 39 [] [a0] =
 .call 41 [] [a0.fld 1] fun yy1 =>
 .call 40 [] [D.bool ((a0.fld 0).toBool), D.sl ((yy1.getD 0 D.nil).els)] fun yy2 =>
 .ret [yy2.getD 0 D.nil] := by kernel_rfl

/-! scrim/whole.signed -/
def whole_signed_orc : List (Nat × Orc) := []
theorem whole_signed_tree (n : Nat) (neg0 : D) (mag1 : D) : evFun Try.prog md whole_signed_orc n 40 [] [neg0, mag1] =
 .br ((mag1.els.length : Int) == 0) (.ret [D.agg [D.bool false, D.sl []]])
 (.ret [D.agg [D.bool neg0.toBool, mag1]]) := by kernel_rfl

/-! scrim/whole.Add -/
def whole_Add_orc : List (Nat × Orc) := []
theorem whole_Add_tree (n : Nat) (a0 : D) (b1 : D) : evFun Try.prog md whole_Add_orc n 59 [] [a0, b1] =
 .br (((a0.fld 0).toBool) == ((b1.fld 0).toBool)) (.call 74 [] [a0.fld 1, b1.fld 1] fun yy1 =>
 .call 40 [] [D.bool ((a0.fld 0).toBool), yy1.getD 0 D.nil] fun yy2 =>
 .ret [yy2.getD 0 D.nil])
 (.call 75 [] [a0.fld 1, b1.fld 1] fun yy3 =>
 .br ((yy3.getD 1 D.nil).toBool) (.call 40 [] [D.bool ((a0.fld 0).toBool), yy3.getD 0 D.nil] fun yy4 =>
 .ret [yy4.getD 0 D.nil])
 (.call 75 [] [b1.fld 1, a0.fld 1] fun yy5 =>
 .call 40 [] [D.bool ((b1.fld 0).toBool), yy5.getD 0 D.nil] fun yy6 =>
 .ret [yy6.getD 0 D.nil])) := by kernel_rfl

/-! scrim/whole.Mul -/
def whole_Mul_orc : List (Nat × Orc) := []
theorem whole_Mul_tree (n : Nat) (a0 : D) (b1 : D) : evFun Try.prog md whole_Mul_orc n 60 [] [a0, b1] =
 .call 76 [] [a0.fld 1, b1.fld 1] fun yy1 =>
 .call 40 [] [D.bool (!(((a0.fld 0).toBool) == ((b1.fld 0).toBool))), yy1.getD 0 D.nil] fun yy2 =>
 .ret [yy2.getD 0 D.nil] := by kernel_rfl

/-! scrim/whole.Cmp -/
def whole_Cmp_orc : List (Nat × Orc) := []
theorem whole_Cmp_tree (n : Nat) (a0 : D) (b1 : D) : evFun Try.prog md whole_Cmp_orc n 66 [] [a0, b1] =
 .call 71 [] [a0] fun yy1 =>
 .call 71 [] [b1] fun yy2 =>
 .br (decide (((yy1.getD 0 D.nil).toInt) < ((yy2.getD 0 D.nil).toInt))) (.ret [D.int (-1)])
 (.br (decide (((yy2.getD 0 D.nil).toInt) < ((yy1.getD 0 D.nil).toInt))) (.ret [D.int 1])
 (.br (decide (((yy1.getD 0 D.nil).toInt) < 0)) (.call 78 [] [b1.fld 1, a0.fld 1] fun yy3 =>
 .ret [D.int ((yy3.getD 0 D.nil).toInt)])
 (.call 78 [] [a0.fld 1, b1.fld 1] fun yy4 =>
 .ret [D.int ((yy4.getD 0 D.nil).toInt)]))) := by kernel_rfl

/-! scrim/whole.Small -/
def whole_Small_orc : List (Nat × Orc) := [(6, ⟨[(1, none), (4, none), (14, some 30), (15, none), (16, none)], [(1, true)], []⟩)]
def whole_Small_ps : List Nat := [62]
def whole_Small_rs : List ResultVar := [.tmp 2, .tmp 3]
def whole_Small_ts : List Nat := [3, 4]
noncomputable def whole_Small_l6 (n m6 : Nat) (size4 : Int) (t14 : D) (t15 : Int) (t16 : Int) (a1 : D) : Tree :=
  evLoop Try.prog md (ev Try.prog md n whole_Small_orc (cAt (bodyOf Try.prog 70) [1, 1, 1, 1, 0, 1, 0, 0])) (orcAt whole_Small_orc 6) m6 ⟨[.undef, .ptr 1 [], .undef, .undef, .i .u64 size4, .undef, .undef, .undef, .undef, .undef, .undef, .undef, .undef, .undef, .d 30 t14, .i .i64 t15, .i .i64 t16, .undef, .undef, .undef, .undef, .undef, .undef, .undef, .undef, .undef, .undef, .undef, .undef, .undef, .undef, .undef, .undef, .undef, .undef, .undef, .undef, .undef, .undef, .undef, .undef], [(1, .var 62 (.d 62 a1) true)], [1], [], []⟩
   (blockK 0 (seqK (joinE Try.prog md (joinAt whole_Small_orc (cAt (bodyOf Try.prog 70) [1, 1, 1, 1, 1])) (ev Try.prog md n whole_Small_orc (cAt (bodyOf Try.prog 70) [1, 1, 1, 1, 1]))) (retK Try.prog md (md 70) whole_Small_ps whole_Small_rs whole_Small_ts)))
theorem whole_Small_l6_succ (n m6 : Nat) (size4 : Int) (t14 : D) (t15 : Int) (t16 : Int) (a1 : D) : whole_Small_l6 n (m6 + 1) size4 t14 t15 t16 a1 =
 .br (decide (t16 < t15)) (.br (decide (0 ≤ t16)) (.br (decide (t16 < (t14.els.length : Int))) (.br (decide (0 ≤ IntKind.wrap .u64 (IntKind.wrap .i64 (32 * t16)))) (whole_Small_l6 n m6 (bits_ .or .u64 size4 (IntKind.wrap .u64 ((IntKind.wrap .u64 ((t14.els.getD (Int.toNat t16) D.nil).toInt)) * 2 ^ (min (Int.toNat (IntKind.wrap .u64 (IntKind.wrap .i64 (32 * t16)))) (IntKind.bits .u64))))) t14 t15 (IntKind.wrap .i64 (t16 + 1)) a1) .fail) .fail) .fail)
 (.br ((a1.fld 0).toBool) (.br (decide (9223372036854775808 < size4)) (.ret [D.int 0, D.bool false])
 (.ret [D.int (IntKind.wrap .i64 (IntKind.wrap .u64 (0 - size4))), D.bool true]))
 (.br (decide (9223372036854775807 < size4)) (.ret [D.int 0, D.bool false])
 (.ret [D.int (IntKind.wrap .i64 size4), D.bool true]))) := by kernel_rfl
theorem whole_Small_tree (n : Nat) (a0 : D) : evFun Try.prog md whole_Small_orc n 70 [] [a0] =
 .call 39 [] [a0] fun yy1 =>
 .br (decide (2 < ((((yy1.getD 0 D.nil).fld 1).els).length : Int))) (.ret [D.int 0, D.bool false])
 (whole_Small_l6 n n 0 ((yy1.getD 0 D.nil).fld 1) ((((yy1.getD 0 D.nil).fld 1).els).length : Int) 0 (yy1.getD 0 D.nil)) := by kernel_rfl

/-! scrim/whole.Sign -/
def whole_Sign_orc : List (Nat × Orc) := []
theorem whole_Sign_tree (n : Nat) (a0 : D) : evFun Try.prog md whole_Sign_orc n 71 [] [a0] =
 .call 78 [] [a0.fld 1, D.sl []] fun yy1 =>
 .br (((yy1.getD 0 D.nil).toInt) == 0) (.ret [D.int 0])
 (.br ((a0.fld 0).toBool) (.ret [D.int (-1)])
 (.ret [D.int 1])) := by kernel_rfl

/-! scrim/whole.Pow -/
def whole_Pow_orc : List (Nat × Orc) := [(4, ⟨[(1, none), (4, none), (6, none), (7, none)], [(4, false), (6, true), (7, true)], []⟩)]
def whole_Pow_ps : List Nat := [62, 3]
def whole_Pow_rs : List ResultVar := [.cell 4 62, .tmp 5]
def whole_Pow_ts : List Nat := [62, 40]
noncomputable def whole_Pow_l4 (n m4 : Nat) (n1 : Int) (t4_0 : Bool) (out6 : D) (factor7 : D) : Tree :=
  evLoop Try.prog md (ev Try.prog md n whole_Pow_orc (cAt (bodyOf Try.prog 72) [1, 1, 1, 0, 0, 0])) (orcAt whole_Pow_orc 4) m4 ⟨[.undef, .i .i64 n1, .undef, .undef, .ptr 4 [], .undef, .ptr 6 [], .ptr 7 [], .undef, .undef, .undef, .undef, .undef, .undef, .undef, .undef, .undef, .undef, .undef, .undef, .undef, .undef, .undef, .undef, .undef, .undef, .undef, .undef, .undef, .undef, .undef, .undef, .undef, .undef, .undef, .undef, .undef, .undef, .undef, .undef], [(4, .var 62 (.agg 62 [.b t4_0, .mt]) true), (6, .var 62 (.d 62 out6) true), (7, .var 62 (.d 62 factor7) true)], [4, 6, 7], [], []⟩
   (blockK 0 (seqK (joinE Try.prog md (joinAt whole_Pow_orc (cAt (bodyOf Try.prog 72) [1, 1, 1, 1])) (ev Try.prog md n whole_Pow_orc (cAt (bodyOf Try.prog 72) [1, 1, 1, 1]))) (retK Try.prog md (md 72) whole_Pow_ps whole_Pow_rs whole_Pow_ts)))
theorem whole_Pow_l4_succ (n m4 : Nat) (n1 : Int) (t4_0 : Bool) (out6 : D) (factor7 : D) : whole_Pow_l4 n (m4 + 1) n1 t4_0 out6 factor7 =
 .br (decide (0 < n1)) (.br (decide (32 < (((factor7.fld 1).els).length : Int))) (.ret [D.agg [D.bool false, D.sl []], D.int 7])
 (.br ((bits_ .and .i64 n1 1) == 1) (.call 60 [] [out6, factor7] fun yy3 =>
 .br (decide (32 < ((((yy3.getD 0 D.nil).fld 1).els).length : Int))) (.ret [D.agg [D.bool false, D.sl []], D.int 7])
 (.br (decide (0 ≤ 1)) (.br (decide (0 < (Int.fdiv n1 (2 ^ (min (Int.toNat 1) (IntKind.bits .i64)))))) (.call 60 [] [factor7, factor7] fun yy4 =>
 whole_Pow_l4 n m4 (Int.fdiv n1 (2 ^ (min (Int.toNat 1) (IntKind.bits .i64)))) t4_0 (yy3.getD 0 D.nil) (yy4.getD 0 D.nil))
 (whole_Pow_l4 n m4 (Int.fdiv n1 (2 ^ (min (Int.toNat 1) (IntKind.bits .i64)))) t4_0 (yy3.getD 0 D.nil) factor7)) .fail))
 (.br (decide (32 < (((out6.fld 1).els).length : Int))) (.ret [D.agg [D.bool false, D.sl []], D.int 7])
 (.br (decide (0 ≤ 1)) (.br (decide (0 < (Int.fdiv n1 (2 ^ (min (Int.toNat 1) (IntKind.bits .i64)))))) (.call 60 [] [factor7, factor7] fun yy5 =>
 whole_Pow_l4 n m4 (Int.fdiv n1 (2 ^ (min (Int.toNat 1) (IntKind.bits .i64)))) t4_0 out6 (yy5.getD 0 D.nil))
 (whole_Pow_l4 n m4 (Int.fdiv n1 (2 ^ (min (Int.toNat 1) (IntKind.bits .i64)))) t4_0 out6 factor7)) .fail))))
 (.ret [out6, D.int 0]) := by kernel_rfl
theorem whole_Pow_tree (n : Nat) (a0 : D) (n1 : D) : evFun Try.prog md whole_Pow_orc n 72 [] [a0, n1] =
 .br (decide (n1.toInt < 0)) (.ret [D.agg [D.bool false, D.sl []], D.int 3])
 (.call 29 [] [D.int 1] fun yy1 =>
 .call 39 [] [a0] fun yy2 =>
 whole_Pow_l4 n n n1.toInt false (yy1.getD 0 D.nil) (yy2.getD 0 D.nil)) := by kernel_rfl

/-! scrim/whole.DivMod -/
def whole_DivMod_orc : List (Nat × Orc) := []
theorem whole_DivMod_tree (n : Nat) (a0 : D) (b1 : D) : evFun Try.prog md whole_DivMod_orc n 79 [] [a0, b1] =
 .call 77 [] [a0.fld 1, b1.fld 1] fun yy1 =>
 .br (!((yy1.getD 2 D.nil).toBool)) (.ret [D.agg [D.bool false, D.sl []], D.agg [D.bool false, D.sl []], D.bool false])
 (.call 40 [] [D.bool (!(((a0.fld 0).toBool) == ((b1.fld 0).toBool))), yy1.getD 0 D.nil] fun yy2 =>
 .call 40 [] [D.bool ((a0.fld 0).toBool), yy1.getD 1 D.nil] fun yy3 =>
 .br (!(((a0.fld 0).toBool) == ((b1.fld 0).toBool))) (.br (decide (0 < (((yy1.getD 1 D.nil).els).length : Int))) (.call 29 [] [D.int 1] fun yy4 =>
 .call 86 [] [yy2.getD 0 D.nil, yy4.getD 0 D.nil] fun yy5 =>
 .call 59 [] [yy3.getD 0 D.nil, b1] fun yy6 =>
 .ret [yy5.getD 0 D.nil, yy6.getD 0 D.nil, D.bool true])
 (.ret [yy2.getD 0 D.nil, yy3.getD 0 D.nil, D.bool true]))
 (.ret [yy2.getD 0 D.nil, yy3.getD 0 D.nil, D.bool true])) := by kernel_rfl

/-! scrim/whole.Sub -/
def whole_Sub_orc : List (Nat × Orc) := []
theorem whole_Sub_tree (n : Nat) (a0 : D) (b1 : D) : evFun Try.prog md whole_Sub_orc n 86 [] [a0, b1] =
 .call 59 [] [a0, D.agg [D.bool (!((b1.fld 0).toBool)), b1.fld 1]] fun yy1 =>
 .ret [yy1.getD 0 D.nil] := by kernel_rfl

end Go.Proofs.Ytjmddikeadbmjaa
set_option maxRecDepth 100000
namespace Go.Proofs.Ytjmddikeadbmjaa
/-! scrim/scrimref02.Same -/
def ref02_Same_orc : List (Nat × Orc) := [(4, ⟨[(0, some 30), (1, some 30), (5, none)], [], []⟩)]
def ref02_Same_ps : List Nat := [30, 30]
def ref02_Same_rs : List ResultVar := [.tmp 4]
def ref02_Same_ts : List Nat := [4]
noncomputable def ref02_Same_l4 (n m4 : Nat) (a0 : D) (b1 : D) (i5 : Int) : Tree :=
  evLoop Try.prog md (ev Try.prog md n ref02_Same_orc (cAt (bodyOf Try.prog 24) [1, 1, 0, 1, 0, 0])) (orcAt ref02_Same_orc 4) m4 ⟨[.d 30 a0, .d 30 b1, .undef, .undef, .undef, .i .i64 i5, .undef, .undef, .undef, .undef, .undef, .undef, .undef, .undef, .undef, .undef, .undef, .undef, .undef, .undef, .undef, .undef, .undef, .undef, .undef, .undef], [], [], [], []⟩
   (blockK 0 (seqK (joinE Try.prog md (joinAt ref02_Same_orc (cAt (bodyOf Try.prog 24) [1, 1, 1])) (ev Try.prog md n ref02_Same_orc (cAt (bodyOf Try.prog 24) [1, 1, 1]))) (retK Try.prog md (md 24) ref02_Same_ps ref02_Same_rs ref02_Same_ts)))
theorem ref02_Same_l4_succ (n m4 : Nat) (a0 : D) (b1 : D) (i5 : Int) : ref02_Same_l4 n (m4 + 1) a0 b1 i5 =
 .br (decide (i5 < (a0.els.length : Int))) (.br (decide (0 ≤ i5)) (.br (decide (i5 < (a0.els.length : Int))) (.br (decide (0 ≤ i5)) (.br (decide (i5 < (b1.els.length : Int))) (.br (((a0.els.getD (Int.toNat i5) D.nil).toInt) != ((b1.els.getD (Int.toNat i5) D.nil).toInt)) (.ret [D.bool false])
 (ref02_Same_l4 n m4 a0 b1 (IntKind.wrap .i64 (i5 + 1)))) .fail) .fail) .fail) .fail)
 (.ret [D.bool true]) := by kernel_rfl
theorem ref02_Same_tree (n : Nat) (a0 : D) (b1 : D) : evFun Try.prog md ref02_Same_orc n 24 [] [a0, b1] =
 .br ((a0.els.length : Int) != (b1.els.length : Int)) (.ret [D.bool false])
 (ref02_Same_l4 n n a0 b1 0) := by kernel_rfl

/-! scrim/scrimref02.Add -/
def ref02_Add_orc : List (Nat × Orc) := [(4, ⟨[(0, some 30), (1, some 30), (5, none), (6, none), (7, none)], [], [(.slot 5, 1040, 69)]⟩)]
def ref02_Add_ps : List Nat := [30, 30]
def ref02_Add_rs : List ResultVar := [.tmp 4]
def ref02_Add_ts : List Nat := [30]
noncomputable def ref02_Add_l4 (n m4 : Nat) (a0 : D) (b1 : D) (out5 : List D) (carry6 : Int) (i7 : Int) : Tree :=
  evLoop Try.prog md (ev Try.prog md n ref02_Add_orc (cAt (bodyOf Try.prog 38) [1, 1, 1, 0, 1, 0, 0])) (orcAt ref02_Add_orc 4) m4 ⟨[.d 30 a0, .d 30 b1, .undef, .undef, .undef, .row 1040, .i .u64 carry6, .i .i64 i7, .undef, .undef, .undef, .undef, .undef, .undef, .undef, .undef, .undef, .undef, .undef, .undef, .undef, .undef, .undef, .undef, .undef, .undef, .undef, .undef, .undef, .undef, .undef, .undef, .undef, .undef, .undef], [(1040, .row 69 out5 true)], [1040], [], []⟩
   (blockK 0 (seqK (joinE Try.prog md (joinAt ref02_Add_orc (cAt (bodyOf Try.prog 38) [1, 1, 1, 1])) (ev Try.prog md n ref02_Add_orc (cAt (bodyOf Try.prog 38) [1, 1, 1, 1]))) (retK Try.prog md (md 38) ref02_Add_ps ref02_Add_rs ref02_Add_ts)))
theorem ref02_Add_l4_succ (n m4 : Nat) (a0 : D) (b1 : D) (out5 : List D) (carry6 : Int) (i7 : Int) : ref02_Add_l4 n (m4 + 1) a0 b1 out5 carry6 i7 =
 .call 56 [] [a0, b1] fun yy1 =>
 .br (decide (i7 ≤ ((yy1.getD 0 D.nil).toInt))) (.call 57 [] [a0, D.int i7] fun yy2 =>
 .call 57 [] [b1, D.int i7] fun yy3 =>
 .br (!(4294967296 == (0 : Int))) (.br (decide (out5.length + [D.int (IntKind.wrap .u32 (Int.tmod (IntKind.wrap .u64 ((IntKind.wrap .u64 (((yy2.getD 0 D.nil).toInt) + ((yy3.getD 0 D.nil).toInt))) + carry6)) 4294967296))].length ≤ bigN)) (.br (!(4294967296 == (0 : Int))) (ref02_Add_l4 n m4 a0 b1 (out5 ++ [D.int (IntKind.wrap .u32 (Int.tmod (IntKind.wrap .u64 ((IntKind.wrap .u64 (((yy2.getD 0 D.nil).toInt) + ((yy3.getD 0 D.nil).toInt))) + carry6)) 4294967296))]) (IntKind.wrap .u64 (Int.tdiv (IntKind.wrap .u64 ((IntKind.wrap .u64 (((yy2.getD 0 D.nil).toInt) + ((yy3.getD 0 D.nil).toInt))) + carry6)) 4294967296)) (IntKind.wrap .i64 (i7 + 1))) .fail) .fail) .fail)
 (.call 55 [] [D.sl out5] fun yy4 =>
 .ret [yy4.getD 0 D.nil]) := by kernel_rfl
theorem ref02_Add_tree (n : Nat) (a0 : D) (b1 : D) : evFun Try.prog md ref02_Add_orc n 38 [] [a0, b1] =
 ref02_Add_l4 n n a0 b1 [] 0 0 := by kernel_rfl

/-! scrim/nat.Norm -/
def nat_Norm_orc : List (Nat × Orc) := []
theorem nat_Norm_tree (n : Nat) (a0 : D) : evFun Try.prog md nat_Norm_orc n 41 [] [a0] =
 .call 58 [] [a0] fun yy1 =>
 .br (decide (0 ≤ (((yy1.getD 0 D.nil).els).length : Int))) (.br (decide ((((yy1.getD 0 D.nil).els).length : Int) ≤ (((yy1.getD 0 D.nil).els).length : Int))) (.br (decide ((((yy1.getD 0 D.nil).els).length : Int) ≤ bigN)) (.ret [D.sl (((yy1.getD 0 D.nil).els).take (List.replicate (Int.toNat (((yy1.getD 0 D.nil).els).length : Int)) (D.int 0)).length ++ (List.replicate (Int.toNat (((yy1.getD 0 D.nil).els).length : Int)) (D.int 0)).drop ((yy1.getD 0 D.nil).els).length)]) .fail) .fail) .fail := by kernel_rfl

/-! scrim/scrimref02.Norm -/
def ref02_Norm_orc : List (Nat × Orc) := [(2, ⟨[(0, some 30), (3, none)], [], []⟩)]
def ref02_Norm_ps : List Nat := [30]
def ref02_Norm_rs : List ResultVar := [.tmp 2]
def ref02_Norm_ts : List Nat := [30]
noncomputable def ref02_Norm_l2 (n m2 : Nat) (a0 : D) (n3 : Int) : Tree :=
  evLoop Try.prog md (ev Try.prog md n ref02_Norm_orc (cAt (bodyOf Try.prog 55) [1, 1, 0, 0, 0])) (orcAt ref02_Norm_orc 2) m2 ⟨[.d 30 a0, .undef, .undef, .i .i64 n3, .undef, .undef, .undef, .undef, .undef, .undef, .undef, .undef, .undef, .undef, .undef, .undef, .undef, .undef, .undef, .undef, .undef, .undef, .undef, .undef], [], [], [], []⟩
   (blockK 0 (seqK (joinE Try.prog md (joinAt ref02_Norm_orc (cAt (bodyOf Try.prog 55) [1, 1, 1])) (ev Try.prog md n ref02_Norm_orc (cAt (bodyOf Try.prog 55) [1, 1, 1]))) (retK Try.prog md (md 55) ref02_Norm_ps ref02_Norm_rs ref02_Norm_ts)))
theorem ref02_Norm_l2_succ (n m2 : Nat) (a0 : D) (n3 : Int) : ref02_Norm_l2 n (m2 + 1) a0 n3 =
 .br (decide (0 < n3)) (.br (decide (0 ≤ IntKind.wrap .i64 (n3 - 1))) (.br (decide (IntKind.wrap .i64 (n3 - 1) < (a0.els.length : Int))) (.br (((a0.els.getD (Int.toNat (IntKind.wrap .i64 (n3 - 1))) D.nil).toInt) == 0) (ref02_Norm_l2 n m2 a0 (IntKind.wrap .i64 (n3 - 1)))
 (.br (decide (0 ≤ n3)) (.br (decide (n3 ≤ (a0.els.length : Int))) (.br (decide ((a0.els.take (Int.toNat n3)).length ≤ bigN)) (.ret [D.sl (a0.els.take (Int.toNat n3))]) .fail) .fail) .fail)) .fail) .fail)
 (.br (decide (0 ≤ n3)) (.br (decide (n3 ≤ (a0.els.length : Int))) (.br (decide ((a0.els.take (Int.toNat n3)).length ≤ bigN)) (.ret [D.sl (a0.els.take (Int.toNat n3))]) .fail) .fail) .fail) := by kernel_rfl
theorem ref02_Norm_tree (n : Nat) (a0 : D) : evFun Try.prog md ref02_Norm_orc n 55 [] [a0] =
 ref02_Norm_l2 n n a0 (a0.els.length : Int) := by kernel_rfl

/-! scrim/scrimref02.longer -/
def ref02_longer_orc : List (Nat × Orc) := []
theorem ref02_longer_tree (n : Nat) (a0 : D) (b1 : D) : evFun Try.prog md ref02_longer_orc n 56 [] [a0, b1] =
 .br (decide ((b1.els.length : Int) < (a0.els.length : Int))) (.ret [D.int (a0.els.length : Int)])
 (.ret [D.int (b1.els.length : Int)]) := by kernel_rfl

/-! scrim/scrimref02.limb -/
def ref02_limb_orc : List (Nat × Orc) := []
theorem ref02_limb_tree (n : Nat) (a0 : D) (i1 : D) : evFun Try.prog md ref02_limb_orc n 57 [] [a0, i1] =
 .br (decide (i1.toInt < (a0.els.length : Int))) (.br (decide (0 ≤ i1.toInt)) (.br (decide (i1.toInt < (a0.els.length : Int))) (.ret [D.int (IntKind.wrap .u64 ((a0.els.getD (Int.toNat i1.toInt) D.nil).toInt))]) .fail) .fail)
 (.ret [D.int 0]) := by kernel_rfl

/-! scrim/nat.trim -/
def nat_trim_orc : List (Nat × Orc) := [(2, ⟨[(0, some 30), (3, none)], [], []⟩)]
def nat_trim_ps : List Nat := [30]
def nat_trim_rs : List ResultVar := [.tmp 2]
def nat_trim_ts : List Nat := [30]
noncomputable def nat_trim_l2 (n m2 : Nat) (a0 : D) (n3 : Int) : Tree :=
  evLoop Try.prog md (ev Try.prog md n nat_trim_orc (cAt (bodyOf Try.prog 58) [1, 1, 0, 0, 0])) (orcAt nat_trim_orc 2) m2 ⟨[.d 30 a0, .undef, .undef, .i .i64 n3, .undef, .undef, .undef, .undef, .undef, .undef, .undef, .undef, .undef, .undef, .undef, .undef, .undef, .undef, .undef, .undef, .undef, .undef], [], [], [], []⟩
   (blockK 0 (seqK (joinE Try.prog md (joinAt nat_trim_orc (cAt (bodyOf Try.prog 58) [1, 1, 1])) (ev Try.prog md n nat_trim_orc (cAt (bodyOf Try.prog 58) [1, 1, 1]))) (retK Try.prog md (md 58) nat_trim_ps nat_trim_rs nat_trim_ts)))
theorem nat_trim_l2_succ (n m2 : Nat) (a0 : D) (n3 : Int) : nat_trim_l2 n (m2 + 1) a0 n3 =
 .br (decide (0 < n3)) (.br (decide (0 ≤ IntKind.wrap .i64 (n3 - 1))) (.br (decide (IntKind.wrap .i64 (n3 - 1) < (a0.els.length : Int))) (.br (((a0.els.getD (Int.toNat (IntKind.wrap .i64 (n3 - 1))) D.nil).toInt) == 0) (nat_trim_l2 n m2 a0 (IntKind.wrap .i64 (n3 - 1)))
 (.br (decide (0 ≤ n3)) (.br (decide (n3 ≤ n3)) (.br (decide (n3 ≤ (a0.els.length : Int))) (.ret [D.sl (a0.els.take (Int.toNat n3))]) .fail) .fail) .fail)) .fail) .fail)
 (.br (decide (0 ≤ n3)) (.br (decide (n3 ≤ n3)) (.br (decide (n3 ≤ (a0.els.length : Int))) (.ret [D.sl (a0.els.take (Int.toNat n3))]) .fail) .fail) .fail) := by kernel_rfl
theorem nat_trim_tree (n : Nat) (a0 : D) : evFun Try.prog md nat_trim_orc n 58 [] [a0] =
 nat_trim_l2 n n a0 (a0.els.length : Int) := by kernel_rfl

/-! scrim/nat.Gcd -/
def nat_Gcd_orc : List (Nat × Orc) := [(2, ⟨[(0, some 30), (1, some 30)], [], []⟩)]
def nat_Gcd_ps : List Nat := [30, 30]
def nat_Gcd_rs : List ResultVar := [.tmp 4]
def nat_Gcd_ts : List Nat := [30]
noncomputable def nat_Gcd_l2 (n m2 : Nat) (a0 : D) (b1 : D) : Tree :=
  evLoop Try.prog md (ev Try.prog md n nat_Gcd_orc (cAt (bodyOf Try.prog 73) [1, 1, 0, 0, 0])) (orcAt nat_Gcd_orc 2) m2 ⟨[.d 30 a0, .d 30 b1, .undef, .undef, .undef, .undef, .undef, .undef, .undef, .undef, .undef, .undef, .undef, .undef, .undef, .undef, .undef, .undef, .undef, .undef, .undef, .undef, .undef, .undef, .undef, .undef, .undef, .undef, .undef, .undef, .undef, .undef, .undef, .undef, .undef, .undef, .undef, .undef, .undef], [], [], [], []⟩
   (blockK 0 (seqK (joinE Try.prog md (joinAt nat_Gcd_orc (cAt (bodyOf Try.prog 73) [1, 1, 1])) (ev Try.prog md n nat_Gcd_orc (cAt (bodyOf Try.prog 73) [1, 1, 1]))) (retK Try.prog md (md 73) nat_Gcd_ps nat_Gcd_rs nat_Gcd_ts)))
theorem nat_Gcd_l2_succ (n m2 : Nat) (a0 : D) (b1 : D) : nat_Gcd_l2 n (m2 + 1) a0 b1 =
 .br (decide (0 < (b1.els.length : Int))) (.br (decide ((a0.els.length : Int) ≤ 2)) (.br (decide ((b1.els.length : Int) ≤ 2)) (.call 81 [] [a0] fun yy3 =>
 .call 81 [] [b1] fun yy4 =>
 .call 80 [] [D.int ((yy3.getD 0 D.nil).toInt), D.int ((yy4.getD 0 D.nil).toInt)] fun yy5 =>
 .ret [yy5.getD 0 D.nil])
 (.call 77 [] [a0, b1] fun yy6 =>
 nat_Gcd_l2 n m2 b1 (yy6.getD 1 D.nil)))
 (.call 77 [] [a0, b1] fun yy7 =>
 nat_Gcd_l2 n m2 b1 (yy7.getD 1 D.nil)))
 (.call 41 [] [a0] fun yy8 =>
 .ret [D.sl ((yy8.getD 0 D.nil).els)]) := by kernel_rfl
theorem nat_Gcd_tree (n : Nat) (a0 : D) (b1 : D) : evFun Try.prog md nat_Gcd_orc n 73 [] [a0, b1] =
 .call 58 [] [a0] fun yy1 =>
 .call 58 [] [b1] fun yy2 =>
 nat_Gcd_l2 n n (yy1.getD 0 D.nil) (yy2.getD 0 D.nil) := by kernel_rfl

/-! scrim/nat.Add -/
def nat_Add_orc : List (Nat × Orc) := [(8, ⟨[(1, some 30), (5, none), (6, none), (30, none), (31, none)], [], [(.slot 5, 1080, 69)]⟩)]
def nat_Add_ps : List Nat := [30, 30]
def nat_Add_rs : List ResultVar := [.tmp 4]
def nat_Add_ts : List Nat := [30]
noncomputable def nat_Add_l8 (n m8 : Nat) (b1 : D) (out5 : List D) (carry6 : Int) (t30 : Int) (t31 : Int) : Tree :=
  evLoop Try.prog md (ev Try.prog md n nat_Add_orc (cAt (bodyOf Try.prog 74) [1, 1, 1, 1, 1, 1, 0, 1, 0, 0])) (orcAt nat_Add_orc 8) m8 ⟨[.undef, .d 30 b1, .undef, .undef, .undef, .row 1080, .i .u32 carry6, .undef, .undef, .undef, .undef, .undef, .undef, .undef, .undef, .undef, .undef, .undef, .undef, .undef, .undef, .undef, .undef, .undef, .undef, .undef, .undef, .undef, .undef, .undef, .i .i64 t30, .i .i64 t31, .undef, .undef, .undef, .undef, .undef, .undef, .undef, .undef, .undef, .undef, .undef, .undef, .undef, .undef, .undef, .undef, .undef, .undef, .undef, .undef, .undef, .undef, .undef, .undef, .undef, .undef, .undef, .undef, .undef, .undef, .undef, .undef, .undef], [(1080, .row 69 out5 true)], [1080], [], []⟩
   (blockK 0 (seqK (joinE Try.prog md (joinAt nat_Add_orc (cAt (bodyOf Try.prog 74) [1, 1, 1, 1, 1, 1, 1])) (ev Try.prog md n nat_Add_orc (cAt (bodyOf Try.prog 74) [1, 1, 1, 1, 1, 1, 1]))) (retK Try.prog md (md 74) nat_Add_ps nat_Add_rs nat_Add_ts)))
theorem nat_Add_l8_succ (n m8 : Nat) (b1 : D) (out5 : List D) (carry6 : Int) (t30 : Int) (t31 : Int) : nat_Add_l8 n (m8 + 1) b1 out5 carry6 t30 t31 =
 .br (decide (t31 < t30)) (.br (decide (t31 < (b1.els.length : Int))) (.br (decide (0 ≤ t31)) (.br (decide (t31 < (b1.els.length : Int))) (.br (decide (0 ≤ t31)) (.br (decide (t31 < (out5.length : Int))) (.call 82 [] [D.int ((out5.getD (Int.toNat t31) D.nil).toInt), D.int ((b1.els.getD (Int.toNat t31) D.nil).toInt), D.int carry6] fun yy3 =>
 .br (decide (0 ≤ t31)) (.br (decide (t31 < (out5.length : Int))) (nat_Add_l8 n m8 b1 (out5.set (Int.toNat t31) (D.int ((yy3.getD 0 D.nil).toInt))) ((yy3.getD 1 D.nil).toInt) t30 (IntKind.wrap .i64 (t31 + 1))) .fail) .fail) .fail) .fail) .fail) .fail)
 (.br (carry6 == 0) (.br (carry6 != 0) (.br (decide (out5.length + [D.int carry6].length ≤ bigN)) (.ret [D.sl (out5 ++ [D.int carry6])]) .fail)
 (.ret [D.sl out5]))
 (.br (decide (0 ≤ t31)) (.br (decide (t31 < (out5.length : Int))) (.call 82 [] [D.int ((out5.getD (Int.toNat t31) D.nil).toInt), D.int 0, D.int carry6] fun yy4 =>
 .br (decide (0 ≤ t31)) (.br (decide (t31 < (out5.length : Int))) (nat_Add_l8 n m8 b1 (out5.set (Int.toNat t31) (D.int ((yy4.getD 0 D.nil).toInt))) ((yy4.getD 1 D.nil).toInt) t30 (IntKind.wrap .i64 (t31 + 1))) .fail) .fail) .fail) .fail)))
 (.br (carry6 != 0) (.br (decide (out5.length + [D.int carry6].length ≤ bigN)) (.ret [D.sl (out5 ++ [D.int carry6])]) .fail)
 (.ret [D.sl out5])) := by kernel_rfl
theorem nat_Add_tree (n : Nat) (a0 : D) (b1 : D) : evFun Try.prog md nat_Add_orc n 74 [] [a0, b1] =
 .call 58 [] [a0] fun yy1 =>
 .call 58 [] [b1] fun yy2 =>
 .br (decide ((((yy1.getD 0 D.nil).els).length : Int) < (((yy2.getD 0 D.nil).els).length : Int))) (.br (decide (0 ≤ (((yy2.getD 0 D.nil).els).length : Int))) (.br (decide ((((yy2.getD 0 D.nil).els).length : Int) ≤ IntKind.wrap .i64 ((((yy2.getD 0 D.nil).els).length : Int) + 1))) (.br (decide (IntKind.wrap .i64 ((((yy2.getD 0 D.nil).els).length : Int) + 1) ≤ bigN)) (nat_Add_l8 n n (yy1.getD 0 D.nil) (((yy2.getD 0 D.nil).els).take (List.replicate (Int.toNat (((yy2.getD 0 D.nil).els).length : Int)) (D.int 0)).length ++ (List.replicate (Int.toNat (((yy2.getD 0 D.nil).els).length : Int)) (D.int 0)).drop ((yy2.getD 0 D.nil).els).length) 0 ((((yy2.getD 0 D.nil).els).take (List.replicate (Int.toNat (((yy2.getD 0 D.nil).els).length : Int)) (D.int 0)).length ++ (List.replicate (Int.toNat (((yy2.getD 0 D.nil).els).length : Int)) (D.int 0)).drop ((yy2.getD 0 D.nil).els).length).length : Int) 0) .fail) .fail) .fail)
 (.br (decide (0 ≤ (((yy1.getD 0 D.nil).els).length : Int))) (.br (decide ((((yy1.getD 0 D.nil).els).length : Int) ≤ IntKind.wrap .i64 ((((yy1.getD 0 D.nil).els).length : Int) + 1))) (.br (decide (IntKind.wrap .i64 ((((yy1.getD 0 D.nil).els).length : Int) + 1) ≤ bigN)) (nat_Add_l8 n n (yy2.getD 0 D.nil) (((yy1.getD 0 D.nil).els).take (List.replicate (Int.toNat (((yy1.getD 0 D.nil).els).length : Int)) (D.int 0)).length ++ (List.replicate (Int.toNat (((yy1.getD 0 D.nil).els).length : Int)) (D.int 0)).drop ((yy1.getD 0 D.nil).els).length) 0 ((((yy1.getD 0 D.nil).els).take (List.replicate (Int.toNat (((yy1.getD 0 D.nil).els).length : Int)) (D.int 0)).length ++ (List.replicate (Int.toNat (((yy1.getD 0 D.nil).els).length : Int)) (D.int 0)).drop ((yy1.getD 0 D.nil).els).length).length : Int) 0) .fail) .fail) .fail) := by kernel_rfl

/-! scrim/nat.Sub -/
def nat_Sub_orc : List (Nat × Orc) := [(6, ⟨[(1, some 30), (6, none), (7, none), (19, none), (20, none)], [], [(.slot 6, 1060, 69)]⟩)]
def nat_Sub_ps : List Nat := [30, 30]
def nat_Sub_rs : List ResultVar := [.tmp 4, .tmp 5]
def nat_Sub_ts : List Nat := [30, 4]
noncomputable def nat_Sub_l6 (n m6 : Nat) (b1 : D) (out6 : List D) (borrow7 : Int) (t19 : Int) (t20 : Int) : Tree :=
  evLoop Try.prog md (ev Try.prog md n nat_Sub_orc (cAt (bodyOf Try.prog 75) [1, 1, 1, 1, 0, 1, 0, 0])) (orcAt nat_Sub_orc 6) m6 ⟨[.undef, .d 30 b1, .undef, .undef, .undef, .undef, .row 1060, .i .u32 borrow7, .undef, .undef, .undef, .undef, .undef, .undef, .undef, .undef, .undef, .undef, .undef, .i .i64 t19, .i .i64 t20, .undef, .undef, .undef, .undef, .undef, .undef, .undef, .undef, .undef, .undef, .undef, .undef, .undef, .undef, .undef, .undef, .undef, .undef, .undef, .undef, .undef, .undef, .undef, .undef, .undef, .undef, .undef, .undef], [(1060, .row 69 out6 true)], [1060], [], []⟩
   (blockK 0 (seqK (joinE Try.prog md (joinAt nat_Sub_orc (cAt (bodyOf Try.prog 75) [1, 1, 1, 1, 1])) (ev Try.prog md n nat_Sub_orc (cAt (bodyOf Try.prog 75) [1, 1, 1, 1, 1]))) (retK Try.prog md (md 75) nat_Sub_ps nat_Sub_rs nat_Sub_ts)))
theorem nat_Sub_l6_succ (n m6 : Nat) (b1 : D) (out6 : List D) (borrow7 : Int) (t19 : Int) (t20 : Int) : nat_Sub_l6 n (m6 + 1) b1 out6 borrow7 t19 t20 =
 .br (decide (t20 < t19)) (.br (decide (t20 < (b1.els.length : Int))) (.br (decide (0 ≤ t20)) (.br (decide (t20 < (b1.els.length : Int))) (.br (decide (0 ≤ t20)) (.br (decide (t20 < (out6.length : Int))) (.call 83 [] [D.int ((out6.getD (Int.toNat t20) D.nil).toInt), D.int ((b1.els.getD (Int.toNat t20) D.nil).toInt), D.int borrow7] fun yy4 =>
 .br (decide (0 ≤ t20)) (.br (decide (t20 < (out6.length : Int))) (nat_Sub_l6 n m6 b1 (out6.set (Int.toNat t20) (D.int ((yy4.getD 0 D.nil).toInt))) ((yy4.getD 1 D.nil).toInt) t19 (IntKind.wrap .i64 (t20 + 1))) .fail) .fail) .fail) .fail) .fail) .fail)
 (.br (borrow7 == 0) (.call 58 [] [D.sl out6] fun yy5 =>
 .ret [yy5.getD 0 D.nil, D.bool true])
 (.br (decide (0 ≤ t20)) (.br (decide (t20 < (out6.length : Int))) (.call 83 [] [D.int ((out6.getD (Int.toNat t20) D.nil).toInt), D.int 0, D.int borrow7] fun yy6 =>
 .br (decide (0 ≤ t20)) (.br (decide (t20 < (out6.length : Int))) (nat_Sub_l6 n m6 b1 (out6.set (Int.toNat t20) (D.int ((yy6.getD 0 D.nil).toInt))) ((yy6.getD 1 D.nil).toInt) t19 (IntKind.wrap .i64 (t20 + 1))) .fail) .fail) .fail) .fail)))
 (.call 58 [] [D.sl out6] fun yy7 =>
 .ret [yy7.getD 0 D.nil, D.bool true]) := by kernel_rfl
theorem nat_Sub_tree (n : Nat) (a0 : D) (b1 : D) : evFun Try.prog md nat_Sub_orc n 75 [] [a0, b1] =
 .call 78 [] [a0, b1] fun yy1 =>
 .br (decide (((yy1.getD 0 D.nil).toInt) < 0)) (.ret [D.sl [], D.bool false])
 (.call 41 [] [a0] fun yy2 =>
 .call 58 [] [b1] fun yy3 =>
 nat_Sub_l6 n n (yy3.getD 0 D.nil) ((yy2.getD 0 D.nil).els) 0 (((yy2.getD 0 D.nil).els).length : Int) 0) := by kernel_rfl

/-! scrim/nat.Mul -/
def nat_Mul_orc : List (Nat × Orc) := [(6, ⟨[(1, some 30), (5, none), (30, some 30), (31, none), (32, none)], [], [(.slot 5, 1060, 69)]⟩), (10, ⟨[(1, some 30), (5, none), (6, none), (7, none), (8, none), (30, some 30), (31, none), (32, none), (37, some 30), (38, none), (39, none)], [], [(.slot 5, 1100, 69)]⟩)]
def nat_Mul_ps : List Nat := [30, 30]
def nat_Mul_rs : List ResultVar := [.tmp 4]
def nat_Mul_ts : List Nat := [30]
noncomputable def nat_Mul_l10 (n m6 m10 : Nat) (b1 : D) (out5 : List D) (i6 : Int) (x7 : Int) (carry8 : Int) (t30 : D) (t31 : Int) (t32 : Int) (t37 : D) (t38 : Int) (t39 : Int) : Tree :=
  evLoop Try.prog md (ev Try.prog md n nat_Mul_orc (cAt (bodyOf Try.prog 76) [1, 1, 1, 1, 0, 1, 0, 0, 1, 1, 0, 0, 1, 1, 0, 1, 0, 0])) (orcAt nat_Mul_orc 10) m10 ⟨[.undef, .d 30 b1, .undef, .undef, .undef, .row 1100, .i .i64 i6, .i .u32 x7, .i .u64 carry8, .undef, .undef, .undef, .undef, .undef, .undef, .undef, .undef, .undef, .undef, .undef, .undef, .undef, .undef, .undef, .undef, .undef, .undef, .undef, .undef, .undef, .d 30 t30, .i .i64 t31, .i .i64 t32, .undef, .undef, .undef, .undef, .d 30 t37, .i .i64 t38, .i .i64 t39, .undef, .undef, .undef, .undef, .undef, .undef, .undef, .undef, .undef, .undef, .undef, .undef, .undef, .undef, .undef, .undef, .undef, .undef, .undef, .undef, .undef, .undef, .undef, .undef, .undef, .undef, .undef, .undef, .undef, .undef, .undef, .undef, .undef, .undef, .undef, .undef, .undef, .undef, .undef, .undef], [(1100, .row 69 out5 true)], [1100], [], []⟩
   (blockK 2 (seqK (joinE Try.prog md (joinAt nat_Mul_orc (cAt (bodyOf Try.prog 76) [1, 1, 1, 1, 0, 1, 0, 0, 1, 1, 0, 0, 1, 1, 1])) (ev Try.prog md n nat_Mul_orc (cAt (bodyOf Try.prog 76) [1, 1, 1, 1, 0, 1, 0, 0, 1, 1, 0, 0, 1, 1, 1]))) (blockK 1 (seqK (joinE Try.prog md (joinAt nat_Mul_orc (cAt (bodyOf Try.prog 76) [1, 1, 1, 1, 0, 1, 0, 0, 1, 1, 1])) (ev Try.prog md n nat_Mul_orc (cAt (bodyOf Try.prog 76) [1, 1, 1, 1, 0, 1, 0, 0, 1, 1, 1]))) (loopK Try.prog md (orcAt nat_Mul_orc 6) (fun s1 => evLoop Try.prog md (ev Try.prog md n nat_Mul_orc (cAt (bodyOf Try.prog 76) [1, 1, 1, 1, 0, 1, 0, 0])) (orcAt nat_Mul_orc 6) m6 s1 (blockK 0 (seqK (joinE Try.prog md (joinAt nat_Mul_orc (cAt (bodyOf Try.prog 76) [1, 1, 1, 1, 1])) (ev Try.prog md n nat_Mul_orc (cAt (bodyOf Try.prog 76) [1, 1, 1, 1, 1]))) (retK Try.prog md (md 76) nat_Mul_ps nat_Mul_rs nat_Mul_ts)))) (blockK 0 (seqK (joinE Try.prog md (joinAt nat_Mul_orc (cAt (bodyOf Try.prog 76) [1, 1, 1, 1, 1])) (ev Try.prog md n nat_Mul_orc (cAt (bodyOf Try.prog 76) [1, 1, 1, 1, 1]))) (retK Try.prog md (md 76) nat_Mul_ps nat_Mul_rs nat_Mul_ts))))))))
noncomputable def nat_Mul_l6 (n m6 : Nat) (b1 : D) (out5 : List D) (t30 : D) (t31 : Int) (t32 : Int) : Tree :=
  evLoop Try.prog md (ev Try.prog md n nat_Mul_orc (cAt (bodyOf Try.prog 76) [1, 1, 1, 1, 0, 1, 0, 0])) (orcAt nat_Mul_orc 6) m6 ⟨[.undef, .d 30 b1, .undef, .undef, .undef, .row 1060, .undef, .undef, .undef, .undef, .undef, .undef, .undef, .undef, .undef, .undef, .undef, .undef, .undef, .undef, .undef, .undef, .undef, .undef, .undef, .undef, .undef, .undef, .undef, .undef, .d 30 t30, .i .i64 t31, .i .i64 t32, .undef, .undef, .undef, .undef, .undef, .undef, .undef, .undef, .undef, .undef, .undef, .undef, .undef, .undef, .undef, .undef, .undef, .undef, .undef, .undef, .undef, .undef, .undef, .undef, .undef, .undef, .undef, .undef, .undef, .undef, .undef, .undef, .undef, .undef, .undef, .undef, .undef, .undef, .undef, .undef, .undef, .undef, .undef, .undef, .undef, .undef, .undef], [(1060, .row 69 out5 true)], [1060], [], []⟩
   (blockK 0 (seqK (joinE Try.prog md (joinAt nat_Mul_orc (cAt (bodyOf Try.prog 76) [1, 1, 1, 1, 1])) (ev Try.prog md n nat_Mul_orc (cAt (bodyOf Try.prog 76) [1, 1, 1, 1, 1]))) (retK Try.prog md (md 76) nat_Mul_ps nat_Mul_rs nat_Mul_ts)))
theorem nat_Mul_l10_succ (n m6 m10 : Nat) (b1 : D) (out5 : List D) (i6 : Int) (x7 : Int) (carry8 : Int) (t30 : D) (t31 : Int) (t32 : Int) (t37 : D) (t38 : Int) (t39 : Int) : nat_Mul_l10 n m6 (m10 + 1) b1 out5 i6 x7 carry8 t30 t31 t32 t37 t38 t39 =
 .br (decide (t39 < t38)) (.br (decide (0 ≤ t39)) (.br (decide (t39 < (t37.els.length : Int))) (.br (decide (0 ≤ IntKind.wrap .i64 (i6 + t39))) (.br (decide (IntKind.wrap .i64 (i6 + t39) < (out5.length : Int))) (.br (decide (0 ≤ IntKind.wrap .i64 (i6 + t39))) (.br (decide (IntKind.wrap .i64 (i6 + t39) < (out5.length : Int))) (.br (decide (0 ≤ 32)) (nat_Mul_l10 n m6 m10 b1 (out5.set (Int.toNat (IntKind.wrap .i64 (i6 + t39))) (D.int (IntKind.wrap .u32 (IntKind.wrap .u64 ((IntKind.wrap .u64 ((IntKind.wrap .u64 ((IntKind.wrap .u64 x7) * (IntKind.wrap .u64 ((t37.els.getD (Int.toNat t39) D.nil).toInt)))) + (IntKind.wrap .u64 ((out5.getD (Int.toNat (IntKind.wrap .i64 (i6 + t39))) D.nil).toInt)))) + carry8))))) i6 x7 (Int.fdiv (IntKind.wrap .u64 ((IntKind.wrap .u64 ((IntKind.wrap .u64 ((IntKind.wrap .u64 x7) * (IntKind.wrap .u64 ((t37.els.getD (Int.toNat t39) D.nil).toInt)))) + (IntKind.wrap .u64 ((out5.getD (Int.toNat (IntKind.wrap .i64 (i6 + t39))) D.nil).toInt)))) + carry8)) (2 ^ (min (Int.toNat 32) (IntKind.bits .u64)))) t30 t31 t32 t37 t38 (IntKind.wrap .i64 (t39 + 1))) .fail) .fail) .fail) .fail) .fail) .fail) .fail)
 (.br (decide (0 ≤ IntKind.wrap .i64 (i6 + (b1.els.length : Int)))) (.br (decide (IntKind.wrap .i64 (i6 + (b1.els.length : Int)) < (out5.length : Int))) (nat_Mul_l6 n m6 b1 (out5.set (Int.toNat (IntKind.wrap .i64 (i6 + (b1.els.length : Int)))) (D.int (IntKind.wrap .u32 carry8))) t30 t31 (IntKind.wrap .i64 (t32 + 1))) .fail) .fail) := by kernel_rfl
theorem nat_Mul_l6_succ (n m6 : Nat) (b1 : D) (out5 : List D) (t30 : D) (t31 : Int) (t32 : Int) : nat_Mul_l6 n (m6 + 1) b1 out5 t30 t31 t32 =
 .br (decide (t32 < t31)) (.br (decide (0 ≤ t32)) (.br (decide (t32 < (t30.els.length : Int))) (nat_Mul_l10 n m6 n b1 out5 t32 ((t30.els.getD (Int.toNat t32) D.nil).toInt) 0 t30 t31 t32 b1 (b1.els.length : Int) 0) .fail) .fail)
 (.call 58 [] [D.sl out5] fun yy3 =>
 .ret [yy3.getD 0 D.nil]) := by kernel_rfl
theorem nat_Mul_tree (n : Nat) (a0 : D) (b1 : D) : evFun Try.prog md nat_Mul_orc n 76 [] [a0, b1] =
 .call 58 [] [a0] fun yy1 =>
 .call 58 [] [b1] fun yy2 =>
 .br ((((yy1.getD 0 D.nil).els).length : Int) == 0) (.ret [D.sl []])
 (.br ((((yy2.getD 0 D.nil).els).length : Int) == 0) (.ret [D.sl []])
 (.br (decide (0 ≤ IntKind.wrap .i64 ((((yy1.getD 0 D.nil).els).length : Int) + (((yy2.getD 0 D.nil).els).length : Int)))) (.br (decide (IntKind.wrap .i64 ((((yy1.getD 0 D.nil).els).length : Int) + (((yy2.getD 0 D.nil).els).length : Int)) ≤ IntKind.wrap .i64 ((((yy1.getD 0 D.nil).els).length : Int) + (((yy2.getD 0 D.nil).els).length : Int)))) (.br (decide (IntKind.wrap .i64 ((((yy1.getD 0 D.nil).els).length : Int) + (((yy2.getD 0 D.nil).els).length : Int)) ≤ bigN)) (nat_Mul_l6 n n (yy2.getD 0 D.nil) (List.replicate (Int.toNat (IntKind.wrap .i64 ((((yy1.getD 0 D.nil).els).length : Int) + (((yy2.getD 0 D.nil).els).length : Int)))) (D.int 0)) (yy1.getD 0 D.nil) (((yy1.getD 0 D.nil).els).length : Int) 0) .fail) .fail) .fail)) := by kernel_rfl

/-! scrim/nat.DivMod -/
def nat_DivMod_orc : List (Nat × Orc) := []
theorem nat_DivMod_tree (n : Nat) (a0 : D) (b1 : D) : evFun Try.prog md nat_DivMod_orc n 77 [] [a0, b1] =
 .call 58 [] [a0] fun yy1 =>
 .call 58 [] [b1] fun yy2 =>
 .br ((((yy2.getD 0 D.nil).els).length : Int) == 0) (.ret [D.sl [], D.sl [], D.bool false])
 (.call 78 [] [yy1.getD 0 D.nil, yy2.getD 0 D.nil] fun yy3 =>
 .br (decide (((yy3.getD 0 D.nil).toInt) < 0)) (.call 41 [] [yy1.getD 0 D.nil] fun yy4 =>
 .ret [D.sl [], D.sl ((yy4.getD 0 D.nil).els), D.bool true])
 (.br ((((yy2.getD 0 D.nil).els).length : Int) == 1) (.call 41 [] [yy1.getD 0 D.nil] fun yy5 =>
 .br (decide (0 ≤ 0)) (.br (decide (0 < (((yy2.getD 0 D.nil).els).length : Int))) (.call 84 [] [D.sl ((yy5.getD 0 D.nil).els), D.int ((((yy2.getD 0 D.nil).els).getD (Int.toNat 0) D.nil).toInt)] fun yy6 =>
 .call 58 [] [D.sl ((yy6.getD 1 D.nil).els)] fun yy7 =>
 .call 41 [] [D.sl [D.int ((yy6.getD 0 D.nil).toInt)]] fun yy8 =>
 .ret [yy7.getD 0 D.nil, D.sl ((yy8.getD 0 D.nil).els), D.bool true]) .fail) .fail)
 (.call 85 [] [yy1.getD 0 D.nil, yy2.getD 0 D.nil] fun yy9 =>
 .ret [yy9.getD 0 D.nil, yy9.getD 1 D.nil, D.bool true]))) := by kernel_rfl

/-! scrim/nat.Cmp -/
def nat_Cmp_orc : List (Nat × Orc) := [(7, ⟨[(0, some 30), (1, some 30), (5, none)], [], []⟩)]
def nat_Cmp_ps : List Nat := [30, 30]
def nat_Cmp_rs : List ResultVar := [.tmp 4]
def nat_Cmp_ts : List Nat := [3]
noncomputable def nat_Cmp_l7 (n m7 : Nat) (a0 : D) (b1 : D) (i5 : Int) : Tree :=
  evLoop Try.prog md (ev Try.prog md n nat_Cmp_orc (cAt (bodyOf Try.prog 78) [1, 1, 1, 0, 1, 0, 0])) (orcAt nat_Cmp_orc 7) m7 ⟨[.d 30 a0, .d 30 b1, .undef, .undef, .undef, .i .i64 i5, .undef, .undef, .undef, .undef, .undef, .undef, .undef, .undef, .undef, .undef, .undef, .undef, .undef, .undef, .undef, .undef, .undef, .undef, .undef, .undef, .undef, .undef, .undef, .undef, .undef, .undef, .undef, .undef, .undef, .undef, .undef, .undef, .undef, .undef, .undef, .undef, .undef, .undef, .undef, .undef, .undef, .undef, .undef], [], [], [], []⟩
   (blockK 1 (seqK (joinE Try.prog md (joinAt nat_Cmp_orc (cAt (bodyOf Try.prog 78) [1, 1, 1, 1])) (ev Try.prog md n nat_Cmp_orc (cAt (bodyOf Try.prog 78) [1, 1, 1, 1]))) (retK Try.prog md (md 78) nat_Cmp_ps nat_Cmp_rs nat_Cmp_ts)))
theorem nat_Cmp_l7_succ (n m7 : Nat) (a0 : D) (b1 : D) (i5 : Int) : nat_Cmp_l7 n (m7 + 1) a0 b1 i5 =
 .br (decide (0 ≤ i5)) (.br (decide (0 ≤ i5)) (.br (decide (i5 < (a0.els.length : Int))) (.br (decide (0 ≤ i5)) (.br (decide (i5 < (b1.els.length : Int))) (.br (decide (((a0.els.getD (Int.toNat i5) D.nil).toInt) < ((b1.els.getD (Int.toNat i5) D.nil).toInt))) (.ret [D.int (-1)])
 (.br (decide (0 ≤ i5)) (.br (decide (i5 < (a0.els.length : Int))) (.br (decide (0 ≤ i5)) (.br (decide (i5 < (b1.els.length : Int))) (.br (decide (((b1.els.getD (Int.toNat i5) D.nil).toInt) < ((a0.els.getD (Int.toNat i5) D.nil).toInt))) (.ret [D.int 1])
 (nat_Cmp_l7 n m7 a0 b1 (IntKind.wrap .i64 (i5 - 1)))) .fail) .fail) .fail) .fail)) .fail) .fail) .fail) .fail)
 (.ret [D.int 0]) := by kernel_rfl
theorem nat_Cmp_tree (n : Nat) (a0 : D) (b1 : D) : evFun Try.prog md nat_Cmp_orc n 78 [] [a0, b1] =
 .call 58 [] [a0] fun yy1 =>
 .call 58 [] [b1] fun yy2 =>
 .br (decide ((((yy1.getD 0 D.nil).els).length : Int) < (((yy2.getD 0 D.nil).els).length : Int))) (.ret [D.int (-1)])
 (.br (decide ((((yy2.getD 0 D.nil).els).length : Int) < (((yy1.getD 0 D.nil).els).length : Int))) (.ret [D.int 1])
 (nat_Cmp_l7 n n (yy1.getD 0 D.nil) (yy2.getD 0 D.nil) (IntKind.wrap .i64 ((((yy1.getD 0 D.nil).els).length : Int) - 1)))) := by kernel_rfl

/-! scrim/nat.small -/
def nat_small_orc : List (Nat × Orc) := [(1, ⟨[(0, none), (1, none)], [], []⟩)]
def nat_small_ps : List Nat := [22, 22]
def nat_small_rs : List ResultVar := [.tmp 4]
def nat_small_ts : List Nat := [30]
noncomputable def nat_small_l1 (n m1 : Nat) (a0 : Int) (b1 : Int) : Tree :=
  evLoop Try.prog md (ev Try.prog md n nat_small_orc (cAt (bodyOf Try.prog 80) [1, 0, 0, 0])) (orcAt nat_small_orc 1) m1 ⟨[.i .u64 a0, .i .u64 b1, .undef, .undef, .undef, .undef, .undef, .undef, .undef, .undef, .undef, .undef, .undef, .undef, .undef, .undef, .undef, .undef], [], [], [], []⟩
   (blockK 0 (seqK (joinE Try.prog md (joinAt nat_small_orc (cAt (bodyOf Try.prog 80) [1, 1])) (ev Try.prog md n nat_small_orc (cAt (bodyOf Try.prog 80) [1, 1]))) (retK Try.prog md (md 80) nat_small_ps nat_small_rs nat_small_ts)))
theorem nat_small_l1_succ (n m1 : Nat) (a0 : Int) (b1 : Int) : nat_small_l1 n (m1 + 1) a0 b1 =
 .br (b1 != 0) (.br (!(b1 == (0 : Int))) (nat_small_l1 n m1 b1 (Int.tmod a0 b1)) .fail)
 (.br (decide (0 ≤ 32)) (.call 41 [] [D.sl [D.int (IntKind.wrap .u32 a0), D.int (IntKind.wrap .u32 (Int.fdiv a0 (2 ^ (min (Int.toNat 32) (IntKind.bits .u64)))))]] fun yy1 =>
 .ret [D.sl ((yy1.getD 0 D.nil).els)]) .fail) := by kernel_rfl
theorem nat_small_tree (n : Nat) (a0 : D) (b1 : D) : evFun Try.prog md nat_small_orc n 80 [] [a0, b1] =
 nat_small_l1 n n a0.toInt b1.toInt := by kernel_rfl

/-! scrim/nat.word -/
def nat_word_orc : List (Nat × Orc) := [(3, ⟨[(3, none), (6, some 30), (7, none), (8, none)], [], []⟩)]
def nat_word_ps : List Nat := [30]
def nat_word_rs : List ResultVar := [.tmp 2]
def nat_word_ts : List Nat := [22]
noncomputable def nat_word_l3 (n m3 : Nat) (out3 : Int) (t6 : D) (t7 : Int) (t8 : Int) : Tree :=
  evLoop Try.prog md (ev Try.prog md n nat_word_orc (cAt (bodyOf Try.prog 81) [1, 1, 0, 1, 0, 0])) (orcAt nat_word_orc 3) m3 ⟨[.undef, .undef, .undef, .i .u64 out3, .undef, .undef, .d 30 t6, .i .i64 t7, .i .i64 t8, .undef, .undef, .undef, .undef, .undef, .undef, .undef, .undef, .undef, .undef, .undef, .undef, .undef, .undef], [], [], [], []⟩
   (blockK 0 (seqK (joinE Try.prog md (joinAt nat_word_orc (cAt (bodyOf Try.prog 81) [1, 1, 1])) (ev Try.prog md n nat_word_orc (cAt (bodyOf Try.prog 81) [1, 1, 1]))) (retK Try.prog md (md 81) nat_word_ps nat_word_rs nat_word_ts)))
theorem nat_word_l3_succ (n m3 : Nat) (out3 : Int) (t6 : D) (t7 : Int) (t8 : Int) : nat_word_l3 n (m3 + 1) out3 t6 t7 t8 =
 .br (decide (t8 < t7)) (.br (decide (0 ≤ t8)) (.br (decide (t8 < (t6.els.length : Int))) (.br (decide (0 ≤ IntKind.wrap .u64 (IntKind.wrap .i64 (32 * t8)))) (nat_word_l3 n m3 (bits_ .or .u64 out3 (IntKind.wrap .u64 ((IntKind.wrap .u64 ((t6.els.getD (Int.toNat t8) D.nil).toInt)) * 2 ^ (min (Int.toNat (IntKind.wrap .u64 (IntKind.wrap .i64 (32 * t8)))) (IntKind.bits .u64))))) t6 t7 (IntKind.wrap .i64 (t8 + 1))) .fail) .fail) .fail)
 (.ret [D.int out3]) := by kernel_rfl
theorem nat_word_tree (n : Nat) (a0 : D) : evFun Try.prog md nat_word_orc n 81 [] [a0] =
 nat_word_l3 n n 0 a0 (a0.els.length : Int) 0 := by kernel_rfl

/-! math/bits.Add32 -/
def bits_Add32_orc : List (Nat × Orc) := []
theorem bits_Add32_tree (n : Nat) (x0 : D) (y1 : D) (carry2 : D) : evFun Try.prog md bits_Add32_orc n 82 [] [x0, y1, carry2] =
 .br (decide (0 ≤ 32)) (.ret [D.int (IntKind.wrap .u32 (IntKind.wrap .u64 ((IntKind.wrap .u64 ((IntKind.wrap .u64 x0.toInt) + (IntKind.wrap .u64 y1.toInt))) + (IntKind.wrap .u64 carry2.toInt)))), D.int (IntKind.wrap .u32 (Int.fdiv (IntKind.wrap .u64 ((IntKind.wrap .u64 ((IntKind.wrap .u64 x0.toInt) + (IntKind.wrap .u64 y1.toInt))) + (IntKind.wrap .u64 carry2.toInt))) (2 ^ (min (Int.toNat 32) (IntKind.bits .u64)))))]) .fail := by kernel_rfl

/-! math/bits.Sub32 -/
def bits_Sub32_orc : List (Nat × Orc) := []
theorem bits_Sub32_tree (n : Nat) (x0 : D) (y1 : D) (borrow2 : D) : evFun Try.prog md bits_Sub32_orc n 83 [] [x0, y1, borrow2] =
 .br (decide (0 ≤ 31)) (.ret [D.int (IntKind.wrap .u32 ((IntKind.wrap .u32 (x0.toInt - y1.toInt)) - borrow2.toInt)), D.int (Int.fdiv (bits_ .or .u32 (bits_ .and .u32 (bits_ .xor .u32 (IntKind.max .u32) x0.toInt) y1.toInt) (bits_ .and .u32 (bits_ .xor .u32 (IntKind.max .u32) (bits_ .xor .u32 x0.toInt y1.toInt)) (IntKind.wrap .u32 ((IntKind.wrap .u32 (x0.toInt - y1.toInt)) - borrow2.toInt)))) (2 ^ (min (Int.toNat 31) (IntKind.bits .u32))))]) .fail := by kernel_rfl

/-! scrim/nat.shorten -/
def nat_shorten_orc : List (Nat × Orc) := [(3, ⟨[(0, none), (1, none), (5, none), (6, none)], [], [(.slot 0, 0, 69)]⟩)]
def nat_shorten_ps : List Nat := [30, 69]
def nat_shorten_rs : List ResultVar := [.tmp 4]
def nat_shorten_ts : List Nat := [69]
noncomputable def nat_shorten_l3 (n m3 : Nat) (a0 : List D) (by1 : Int) (rest5 : Int) (i6 : Int) : Tree :=
  evLoop Try.prog md (ev Try.prog md n nat_shorten_orc (cAt (bodyOf Try.prog 84) [1, 1, 0, 1, 0, 0])) (orcAt nat_shorten_orc 3) m3 ⟨[.row 0, .i .u32 by1, .undef, .undef, .undef, .i .u64 rest5, .i .i64 i6, .undef, .undef, .undef, .undef, .undef, .undef, .undef, .undef, .undef, .undef, .undef, .undef, .undef, .undef, .undef, .undef, .undef, .undef, .undef, .undef, .undef, .undef, .undef, .undef, .undef, .undef, .undef, .undef, .undef], [(0, .row 69 a0 true)], [0], [], [0]⟩
   (blockK 0 (seqK (joinE Try.prog md (joinAt nat_shorten_orc (cAt (bodyOf Try.prog 84) [1, 1, 1])) (ev Try.prog md n nat_shorten_orc (cAt (bodyOf Try.prog 84) [1, 1, 1]))) (retK Try.prog md (md 84) nat_shorten_ps nat_shorten_rs nat_shorten_ts)))
theorem nat_shorten_l3_succ (n m3 : Nat) (a0 : List D) (by1 : Int) (rest5 : Int) (i6 : Int) : nat_shorten_l3 n (m3 + 1) a0 by1 rest5 i6 =
 .br (decide (0 ≤ i6)) (.br (decide (0 ≤ 32)) (.br (decide (0 ≤ i6)) (.br (decide (i6 < (a0.length : Int))) (.br (!((IntKind.wrap .u64 by1) == (0 : Int))) (.br (decide (0 ≤ i6)) (.br (decide (i6 < (a0.length : Int))) (.br (!((IntKind.wrap .u64 by1) == (0 : Int))) (nat_shorten_l3 n m3 (a0.set (Int.toNat i6) (D.int (IntKind.wrap .u32 (IntKind.wrap .u64 (Int.tdiv (bits_ .or .u64 (IntKind.wrap .u64 (rest5 * 2 ^ (min (Int.toNat 32) (IntKind.bits .u64)))) (IntKind.wrap .u64 ((a0.getD (Int.toNat i6) D.nil).toInt))) (IntKind.wrap .u64 by1)))))) by1 (Int.tmod (bits_ .or .u64 (IntKind.wrap .u64 (rest5 * 2 ^ (min (Int.toNat 32) (IntKind.bits .u64)))) (IntKind.wrap .u64 ((a0.getD (Int.toNat i6) D.nil).toInt))) (IntKind.wrap .u64 by1)) (IntKind.wrap .i64 (i6 - 1))) .fail) .fail) .fail) .fail) .fail) .fail) .fail)
 (.ret [D.int (IntKind.wrap .u32 rest5), D.sl a0]) := by kernel_rfl
theorem nat_shorten_tree (n : Nat) (a0 : D) (by1 : D) : evFun Try.prog md nat_shorten_orc n 84 [] [a0, by1] =
 nat_shorten_l3 n n a0.els by1.toInt 0 (IntKind.wrap .i64 ((a0.els.length : Int) - 1)) := by kernel_rfl

/-! math/bits.LeadingZeros32 -/
def bits_LeadingZeros32_orc : List (Nat × Orc) := []
theorem bits_LeadingZeros32_tree (n : Nat) (x0 : D) : evFun Try.prog md bits_LeadingZeros32_orc n 87 [] [x0] =
 .call 93 [] [D.int x0.toInt] fun yy1 =>
 .ret [D.int (IntKind.wrap .i64 (32 - ((yy1.getD 0 D.nil).toInt)))] := by kernel_rfl

/-! scrim/nat.up -/
def nat_up_orc : List (Nat × Orc) := [(4, ⟨[(0, some 30), (1, none), (5, none), (6, none), (14, some 30), (15, none), (16, none)], [], [(.slot 5, 1040, 69)]⟩)]
def nat_up_ps : List Nat := [30, 3]
def nat_up_rs : List ResultVar := [.tmp 4]
def nat_up_ts : List Nat := [30]
noncomputable def nat_up_l4 (n m4 : Nat) (a0 : D) (shift1 : Int) (out5 : List D) (carry6 : Int) (t14 : D) (t15 : Int) (t16 : Int) : Tree :=
  evLoop Try.prog md (ev Try.prog md n nat_up_orc (cAt (bodyOf Try.prog 88) [1, 1, 1, 0, 1, 0, 0])) (orcAt nat_up_orc 4) m4 ⟨[.d 30 a0, .i .i64 shift1, .undef, .undef, .undef, .row 1040, .i .u64 carry6, .undef, .undef, .undef, .undef, .undef, .undef, .undef, .d 30 t14, .i .i64 t15, .i .i64 t16, .undef, .undef, .undef, .undef, .undef, .undef, .undef, .undef, .undef, .undef, .undef, .undef, .undef, .undef, .undef, .undef, .undef, .undef, .undef, .undef, .undef, .undef, .undef, .undef, .undef, .undef], [(1040, .row 69 out5 true)], [1040], [], []⟩
   (blockK 0 (seqK (joinE Try.prog md (joinAt nat_up_orc (cAt (bodyOf Try.prog 88) [1, 1, 1, 1])) (ev Try.prog md n nat_up_orc (cAt (bodyOf Try.prog 88) [1, 1, 1, 1]))) (retK Try.prog md (md 88) nat_up_ps nat_up_rs nat_up_ts)))
theorem nat_up_l4_succ (n m4 : Nat) (a0 : D) (shift1 : Int) (out5 : List D) (carry6 : Int) (t14 : D) (t15 : Int) (t16 : Int) : nat_up_l4 n (m4 + 1) a0 shift1 out5 carry6 t14 t15 t16 =
 .br (decide (t16 < t15)) (.br (decide (0 ≤ t16)) (.br (decide (t16 < (t14.els.length : Int))) (.br (decide (0 ≤ IntKind.wrap .u64 shift1)) (.br (decide (0 ≤ t16)) (.br (decide (t16 < (out5.length : Int))) (.br (decide (0 ≤ 32)) (nat_up_l4 n m4 a0 shift1 (out5.set (Int.toNat t16) (D.int (IntKind.wrap .u32 (bits_ .or .u64 (IntKind.wrap .u64 ((IntKind.wrap .u64 ((t14.els.getD (Int.toNat t16) D.nil).toInt)) * 2 ^ (min (Int.toNat (IntKind.wrap .u64 shift1)) (IntKind.bits .u64)))) carry6)))) (Int.fdiv (bits_ .or .u64 (IntKind.wrap .u64 ((IntKind.wrap .u64 ((t14.els.getD (Int.toNat t16) D.nil).toInt)) * 2 ^ (min (Int.toNat (IntKind.wrap .u64 shift1)) (IntKind.bits .u64)))) carry6) (2 ^ (min (Int.toNat 32) (IntKind.bits .u64)))) t14 t15 (IntKind.wrap .i64 (t16 + 1))) .fail) .fail) .fail) .fail) .fail) .fail)
 (.br (decide (0 ≤ (a0.els.length : Int))) (.br (decide ((a0.els.length : Int) < (out5.length : Int))) (.ret [D.sl (out5.set (Int.toNat (a0.els.length : Int)) (D.int (IntKind.wrap .u32 carry6)))]) .fail) .fail) := by kernel_rfl
theorem nat_up_tree (n : Nat) (a0 : D) (shift1 : D) : evFun Try.prog md nat_up_orc n 88 [] [a0, shift1] =
 .br (decide (0 ≤ IntKind.wrap .i64 ((a0.els.length : Int) + 1))) (.br (decide (IntKind.wrap .i64 ((a0.els.length : Int) + 1) ≤ IntKind.wrap .i64 ((a0.els.length : Int) + 1))) (.br (decide (IntKind.wrap .i64 ((a0.els.length : Int) + 1) ≤ bigN)) (nat_up_l4 n n a0 shift1.toInt (List.replicate (Int.toNat (IntKind.wrap .i64 ((a0.els.length : Int) + 1))) (D.int 0)) 0 a0 (a0.els.length : Int) 0) .fail) .fail) .fail := by kernel_rfl

/-! scrim/nat.estimate -/
def nat_estimate_orc : List (Nat × Orc) := [(4, ⟨[(0, some 30), (1, some 30), (5, none), (7, none), (8, none)], [], []⟩)]
def nat_estimate_ps : List Nat := [30, 30]
def nat_estimate_rs : List ResultVar := [.tmp 4]
def nat_estimate_ts : List Nat := [22]
noncomputable def nat_estimate_l4 (n m4 : Nat) (a0 : D) (divisor1 : D) (n5 : Int) (guess7 : Int) (rest8 : Int) : Tree :=
  evLoop Try.prog md (ev Try.prog md n nat_estimate_orc (cAt (bodyOf Try.prog 89) [1, 1, 1, 1, 0, 0, 0])) (orcAt nat_estimate_orc 4) m4 ⟨[.d 30 a0, .d 30 divisor1, .undef, .undef, .undef, .i .i64 n5, .undef, .i .u64 guess7, .i .u64 rest8, .undef, .undef, .undef, .undef, .undef, .undef, .undef, .undef, .undef, .undef, .undef, .undef, .undef, .undef, .undef, .undef, .undef, .undef, .undef, .undef, .undef, .undef, .undef, .undef, .undef, .undef, .undef, .undef, .undef, .undef, .undef, .undef, .undef, .undef, .undef, .undef, .undef, .undef, .undef, .undef, .undef, .undef, .undef, .undef, .undef, .undef, .undef, .undef, .undef, .undef, .undef, .undef, .undef, .undef, .undef, .undef, .undef, .undef, .undef, .undef, .undef, .undef, .undef, .undef, .undef, .undef, .undef, .undef], [], [], [], []⟩
   (blockK 0 (seqK (joinE Try.prog md (joinAt nat_estimate_orc (cAt (bodyOf Try.prog 89) [1, 1, 1, 1, 1])) (ev Try.prog md n nat_estimate_orc (cAt (bodyOf Try.prog 89) [1, 1, 1, 1, 1]))) (retK Try.prog md (md 89) nat_estimate_ps nat_estimate_rs nat_estimate_ts)))
theorem nat_estimate_l4_succ (n m4 : Nat) (a0 : D) (divisor1 : D) (n5 : Int) (guess7 : Int) (rest8 : Int) : nat_estimate_l4 n (m4 + 1) a0 divisor1 n5 guess7 rest8 =
 .br (decide (0 ≤ 32)) (.br ((Int.fdiv guess7 (2 ^ (min (Int.toNat 32) (IntKind.bits .u64)))) != 0) (.br (decide (0 ≤ IntKind.wrap .i64 (n5 - 1))) (.br (decide (IntKind.wrap .i64 (n5 - 1) < (divisor1.els.length : Int))) (.br (decide (0 ≤ 32)) (.br ((Int.fdiv (IntKind.wrap .u64 (rest8 + (IntKind.wrap .u64 ((divisor1.els.getD (Int.toNat (IntKind.wrap .i64 (n5 - 1))) D.nil).toInt)))) (2 ^ (min (Int.toNat 32) (IntKind.bits .u64)))) != 0) (.ret [D.int (IntKind.wrap .u64 (guess7 - 1))])
 (nat_estimate_l4 n m4 a0 divisor1 n5 (IntKind.wrap .u64 (guess7 - 1)) (IntKind.wrap .u64 (rest8 + (IntKind.wrap .u64 ((divisor1.els.getD (Int.toNat (IntKind.wrap .i64 (n5 - 1))) D.nil).toInt)))))) .fail) .fail) .fail)
 (.br (decide (0 ≤ IntKind.wrap .i64 (n5 - 2))) (.br (decide (IntKind.wrap .i64 (n5 - 2) < (divisor1.els.length : Int))) (.br (decide (0 ≤ 32)) (.br (decide (0 ≤ IntKind.wrap .i64 (n5 - 2))) (.br (decide (IntKind.wrap .i64 (n5 - 2) < (a0.els.length : Int))) (.br (decide ((bits_ .or .u64 (IntKind.wrap .u64 (rest8 * 2 ^ (min (Int.toNat 32) (IntKind.bits .u64)))) (IntKind.wrap .u64 ((a0.els.getD (Int.toNat (IntKind.wrap .i64 (n5 - 2))) D.nil).toInt))) < (IntKind.wrap .u64 (guess7 * (IntKind.wrap .u64 ((divisor1.els.getD (Int.toNat (IntKind.wrap .i64 (n5 - 2))) D.nil).toInt)))))) (.br (decide (0 ≤ IntKind.wrap .i64 (n5 - 1))) (.br (decide (IntKind.wrap .i64 (n5 - 1) < (divisor1.els.length : Int))) (.br (decide (0 ≤ 32)) (.br ((Int.fdiv (IntKind.wrap .u64 (rest8 + (IntKind.wrap .u64 ((divisor1.els.getD (Int.toNat (IntKind.wrap .i64 (n5 - 1))) D.nil).toInt)))) (2 ^ (min (Int.toNat 32) (IntKind.bits .u64)))) != 0) (.ret [D.int (IntKind.wrap .u64 (guess7 - 1))])
 (nat_estimate_l4 n m4 a0 divisor1 n5 (IntKind.wrap .u64 (guess7 - 1)) (IntKind.wrap .u64 (rest8 + (IntKind.wrap .u64 ((divisor1.els.getD (Int.toNat (IntKind.wrap .i64 (n5 - 1))) D.nil).toInt)))))) .fail) .fail) .fail)
 (.ret [D.int guess7])) .fail) .fail) .fail) .fail) .fail)) .fail := by kernel_rfl
theorem nat_estimate_tree (n : Nat) (a0 : D) (divisor1 : D) : evFun Try.prog md nat_estimate_orc n 89 [] [a0, divisor1] =
 .br (decide (0 ≤ (divisor1.els.length : Int))) (.br (decide ((divisor1.els.length : Int) < (a0.els.length : Int))) (.br (decide (0 ≤ 32)) (.br (decide (0 ≤ IntKind.wrap .i64 ((divisor1.els.length : Int) - 1))) (.br (decide (IntKind.wrap .i64 ((divisor1.els.length : Int) - 1) < (a0.els.length : Int))) (.br (decide (0 ≤ IntKind.wrap .i64 ((divisor1.els.length : Int) - 1))) (.br (decide (IntKind.wrap .i64 ((divisor1.els.length : Int) - 1) < (divisor1.els.length : Int))) (.br (!((IntKind.wrap .u64 ((divisor1.els.getD (Int.toNat (IntKind.wrap .i64 ((divisor1.els.length : Int) - 1))) D.nil).toInt)) == (0 : Int))) (.br (decide (0 ≤ IntKind.wrap .i64 ((divisor1.els.length : Int) - 1))) (.br (decide (IntKind.wrap .i64 ((divisor1.els.length : Int) - 1) < (divisor1.els.length : Int))) (.br (!((IntKind.wrap .u64 ((divisor1.els.getD (Int.toNat (IntKind.wrap .i64 ((divisor1.els.length : Int) - 1))) D.nil).toInt)) == (0 : Int))) (nat_estimate_l4 n n a0 divisor1 (divisor1.els.length : Int) (IntKind.wrap .u64 (Int.tdiv (bits_ .or .u64 (IntKind.wrap .u64 ((IntKind.wrap .u64 ((a0.els.getD (Int.toNat (divisor1.els.length : Int)) D.nil).toInt)) * 2 ^ (min (Int.toNat 32) (IntKind.bits .u64)))) (IntKind.wrap .u64 ((a0.els.getD (Int.toNat (IntKind.wrap .i64 ((divisor1.els.length : Int) - 1))) D.nil).toInt))) (IntKind.wrap .u64 ((divisor1.els.getD (Int.toNat (IntKind.wrap .i64 ((divisor1.els.length : Int) - 1))) D.nil).toInt)))) (Int.tmod (bits_ .or .u64 (IntKind.wrap .u64 ((IntKind.wrap .u64 ((a0.els.getD (Int.toNat (divisor1.els.length : Int)) D.nil).toInt)) * 2 ^ (min (Int.toNat 32) (IntKind.bits .u64)))) (IntKind.wrap .u64 ((a0.els.getD (Int.toNat (IntKind.wrap .i64 ((divisor1.els.length : Int) - 1))) D.nil).toInt))) (IntKind.wrap .u64 ((divisor1.els.getD (Int.toNat (IntKind.wrap .i64 ((divisor1.els.length : Int) - 1))) D.nil).toInt)))) .fail) .fail) .fail) .fail) .fail) .fail) .fail) .fail) .fail) .fail) .fail := by kernel_rfl

/-! scrim/nat.down -/
def nat_down_orc : List (Nat × Orc) := [(4, ⟨[(0, some 30), (1, none), (5, none), (6, none), (7, none)], [], [(.slot 5, 1040, 69)]⟩)]
def nat_down_ps : List Nat := [30, 3]
def nat_down_rs : List ResultVar := [.tmp 4]
def nat_down_ts : List Nat := [30]
noncomputable def nat_down_l4 (n m4 : Nat) (a0 : D) (shift1 : Int) (out5 : List D) (above6 : Int) (i7 : Int) : Tree :=
  evLoop Try.prog md (ev Try.prog md n nat_down_orc (cAt (bodyOf Try.prog 92) [1, 1, 1, 0, 1, 0, 0])) (orcAt nat_down_orc 4) m4 ⟨[.d 30 a0, .i .i64 shift1, .undef, .undef, .undef, .row 1040, .i .u64 above6, .i .i64 i7, .undef, .undef, .undef, .undef, .undef, .undef, .undef, .undef, .undef, .undef, .undef, .undef, .undef, .undef, .undef, .undef, .undef, .undef, .undef, .undef, .undef, .undef, .undef, .undef, .undef, .undef, .undef, .undef, .undef, .undef, .undef, .undef, .undef, .undef], [(1040, .row 69 out5 true)], [1040], [], []⟩
   (blockK 0 (seqK (joinE Try.prog md (joinAt nat_down_orc (cAt (bodyOf Try.prog 92) [1, 1, 1, 1])) (ev Try.prog md n nat_down_orc (cAt (bodyOf Try.prog 92) [1, 1, 1, 1]))) (retK Try.prog md (md 92) nat_down_ps nat_down_rs nat_down_ts)))
theorem nat_down_l4_succ (n m4 : Nat) (a0 : D) (shift1 : Int) (out5 : List D) (above6 : Int) (i7 : Int) : nat_down_l4 n (m4 + 1) a0 shift1 out5 above6 i7 =
 .br (decide (0 ≤ i7)) (.br (decide (0 ≤ 32)) (.br (decide (0 ≤ i7)) (.br (decide (i7 < (a0.els.length : Int))) (.br (decide (0 ≤ IntKind.wrap .u64 shift1)) (.br (decide (0 ≤ i7)) (.br (decide (i7 < (out5.length : Int))) (.br (decide (0 ≤ i7)) (.br (decide (i7 < (a0.els.length : Int))) (nat_down_l4 n m4 a0 shift1 (out5.set (Int.toNat i7) (D.int (IntKind.wrap .u32 (Int.fdiv (bits_ .or .u64 (IntKind.wrap .u64 (above6 * 2 ^ (min (Int.toNat 32) (IntKind.bits .u64)))) (IntKind.wrap .u64 ((a0.els.getD (Int.toNat i7) D.nil).toInt))) (2 ^ (min (Int.toNat (IntKind.wrap .u64 shift1)) (IntKind.bits .u64))))))) (IntKind.wrap .u64 ((a0.els.getD (Int.toNat i7) D.nil).toInt)) (IntKind.wrap .i64 (i7 - 1))) .fail) .fail) .fail) .fail) .fail) .fail) .fail) .fail)
 (.call 58 [] [D.sl out5] fun yy1 =>
 .ret [yy1.getD 0 D.nil]) := by kernel_rfl
theorem nat_down_tree (n : Nat) (a0 : D) (shift1 : D) : evFun Try.prog md nat_down_orc n 92 [] [a0, shift1] =
 .br (decide (0 ≤ (a0.els.length : Int))) (.br (decide ((a0.els.length : Int) ≤ (a0.els.length : Int))) (.br (decide ((a0.els.length : Int) ≤ bigN)) (nat_down_l4 n n a0 shift1.toInt (List.replicate (Int.toNat (a0.els.length : Int)) (D.int 0)) 0 (IntKind.wrap .i64 ((a0.els.length : Int) - 1))) .fail) .fail) .fail := by kernel_rfl

/-! math/bits.Len32 -/
def bits_Len32_orc : List (Nat × Orc) := []
theorem bits_Len32_tree (n : Nat) (x0 : D) : evFun Try.prog md bits_Len32_orc n 93 [] [x0] =
 .br (decide (65536 ≤ x0.toInt)) (.br (decide (0 ≤ 16)) (.br (decide (256 ≤ (Int.fdiv x0.toInt (2 ^ (min (Int.toNat 16) (IntKind.bits .u32)))))) (.br (decide (0 ≤ 8)) (.br (decide (0 ≤ IntKind.wrap .u8 (Int.fdiv (Int.fdiv x0.toInt (2 ^ (min (Int.toNat 16) (IntKind.bits .u32)))) (2 ^ (min (Int.toNat 8) (IntKind.bits .u32)))))) (.br (decide (IntKind.wrap .u8 (Int.fdiv (Int.fdiv x0.toInt (2 ^ (min (Int.toNat 16) (IntKind.bits .u32)))) (2 ^ (min (Int.toNat 8) (IntKind.bits .u32)))) < ((⟨#[0, 1, 2, 2, 3, 3, 3, 3, 4, 4, 4, 4, 4, 4, 4, 4, 5, 5, 5, 5, 5, 5, 5, 5, 5, 5, 5, 5, 5, 5, 5, 5, 6, 6, 6, 6, 6, 6, 6, 6, 6, 6, 6, 6, 6, 6, 6, 6, 6, 6, 6, 6, 6, 6, 6, 6, 6, 6, 6, 6, 6, 6, 6, 6, 7, 7, 7, 7, 7, 7, 7, 7, 7, 7, 7, 7, 7, 7, 7, 7, 7, 7, 7, 7, 7, 7, 7, 7, 7, 7, 7, 7, 7, 7, 7, 7, 7, 7, 7, 7, 7, 7, 7, 7, 7, 7, 7, 7, 7, 7, 7, 7, 7, 7, 7, 7, 7, 7, 7, 7, 7, 7, 7, 7, 7, 7, 7, 7, 8, 8, 8, 8, 8, 8, 8, 8, 8, 8, 8, 8, 8, 8, 8, 8, 8, 8, 8, 8, 8, 8, 8, 8, 8, 8, 8, 8, 8, 8, 8, 8, 8, 8, 8, 8, 8, 8, 8, 8, 8, 8, 8, 8, 8, 8, 8, 8, 8, 8, 8, 8, 8, 8, 8, 8, 8, 8, 8, 8, 8, 8, 8, 8, 8, 8, 8, 8, 8, 8, 8, 8, 8, 8, 8, 8, 8, 8, 8, 8, 8, 8, 8, 8, 8, 8, 8, 8, 8, 8, 8, 8, 8, 8, 8, 8, 8, 8, 8, 8, 8, 8, 8, 8, 8, 8, 8, 8, 8, 8, 8, 8, 8, 8, 8, 8, 8, 8, 8, 8, 8, 8, 8, 8, 8, 8, 8, 8]⟩ : ByteArray).size : Int))) (.ret [D.int (IntKind.wrap .i64 ((IntKind.wrap .i64 (16 + 8)) + (IntKind.wrap .i64 ((((⟨#[0, 1, 2, 2, 3, 3, 3, 3, 4, 4, 4, 4, 4, 4, 4, 4, 5, 5, 5, 5, 5, 5, 5, 5, 5, 5, 5, 5, 5, 5, 5, 5, 6, 6, 6, 6, 6, 6, 6, 6, 6, 6, 6, 6, 6, 6, 6, 6, 6, 6, 6, 6, 6, 6, 6, 6, 6, 6, 6, 6, 6, 6, 6, 6, 7, 7, 7, 7, 7, 7, 7, 7, 7, 7, 7, 7, 7, 7, 7, 7, 7, 7, 7, 7, 7, 7, 7, 7, 7, 7, 7, 7, 7, 7, 7, 7, 7, 7, 7, 7, 7, 7, 7, 7, 7, 7, 7, 7, 7, 7, 7, 7, 7, 7, 7, 7, 7, 7, 7, 7, 7, 7, 7, 7, 7, 7, 7, 7, 8, 8, 8, 8, 8, 8, 8, 8, 8, 8, 8, 8, 8, 8, 8, 8, 8, 8, 8, 8, 8, 8, 8, 8, 8, 8, 8, 8, 8, 8, 8, 8, 8, 8, 8, 8, 8, 8, 8, 8, 8, 8, 8, 8, 8, 8, 8, 8, 8, 8, 8, 8, 8, 8, 8, 8, 8, 8, 8, 8, 8, 8, 8, 8, 8, 8, 8, 8, 8, 8, 8, 8, 8, 8, 8, 8, 8, 8, 8, 8, 8, 8, 8, 8, 8, 8, 8, 8, 8, 8, 8, 8, 8, 8, 8, 8, 8, 8, 8, 8, 8, 8, 8, 8, 8, 8, 8, 8, 8, 8, 8, 8, 8, 8, 8, 8, 8, 8, 8, 8, 8, 8, 8, 8, 8, 8, 8, 8]⟩ : ByteArray).data.toList.getD (Int.toNat (IntKind.wrap .u8 (Int.fdiv (Int.fdiv x0.toInt (2 ^ (min (Int.toNat 16) (IntKind.bits .u32)))) (2 ^ (min (Int.toNat 8) (IntKind.bits .u32)))))) 0).toNat : Nat) : Int))))]) .fail) .fail) .fail)
 (.br (decide (0 ≤ IntKind.wrap .u8 (Int.fdiv x0.toInt (2 ^ (min (Int.toNat 16) (IntKind.bits .u32)))))) (.br (decide (IntKind.wrap .u8 (Int.fdiv x0.toInt (2 ^ (min (Int.toNat 16) (IntKind.bits .u32)))) < ((⟨#[0, 1, 2, 2, 3, 3, 3, 3, 4, 4, 4, 4, 4, 4, 4, 4, 5, 5, 5, 5, 5, 5, 5, 5, 5, 5, 5, 5, 5, 5, 5, 5, 6, 6, 6, 6, 6, 6, 6, 6, 6, 6, 6, 6, 6, 6, 6, 6, 6, 6, 6, 6, 6, 6, 6, 6, 6, 6, 6, 6, 6, 6, 6, 6, 7, 7, 7, 7, 7, 7, 7, 7, 7, 7, 7, 7, 7, 7, 7, 7, 7, 7, 7, 7, 7, 7, 7, 7, 7, 7, 7, 7, 7, 7, 7, 7, 7, 7, 7, 7, 7, 7, 7, 7, 7, 7, 7, 7, 7, 7, 7, 7, 7, 7, 7, 7, 7, 7, 7, 7, 7, 7, 7, 7, 7, 7, 7, 7, 8, 8, 8, 8, 8, 8, 8, 8, 8, 8, 8, 8, 8, 8, 8, 8, 8, 8, 8, 8, 8, 8, 8, 8, 8, 8, 8, 8, 8, 8, 8, 8, 8, 8, 8, 8, 8, 8, 8, 8, 8, 8, 8, 8, 8, 8, 8, 8, 8, 8, 8, 8, 8, 8, 8, 8, 8, 8, 8, 8, 8, 8, 8, 8, 8, 8, 8, 8, 8, 8, 8, 8, 8, 8, 8, 8, 8, 8, 8, 8, 8, 8, 8, 8, 8, 8, 8, 8, 8, 8, 8, 8, 8, 8, 8, 8, 8, 8, 8, 8, 8, 8, 8, 8, 8, 8, 8, 8, 8, 8, 8, 8, 8, 8, 8, 8, 8, 8, 8, 8, 8, 8, 8, 8, 8, 8, 8, 8]⟩ : ByteArray).size : Int))) (.ret [D.int (IntKind.wrap .i64 (16 + (IntKind.wrap .i64 ((((⟨#[0, 1, 2, 2, 3, 3, 3, 3, 4, 4, 4, 4, 4, 4, 4, 4, 5, 5, 5, 5, 5, 5, 5, 5, 5, 5, 5, 5, 5, 5, 5, 5, 6, 6, 6, 6, 6, 6, 6, 6, 6, 6, 6, 6, 6, 6, 6, 6, 6, 6, 6, 6, 6, 6, 6, 6, 6, 6, 6, 6, 6, 6, 6, 6, 7, 7, 7, 7, 7, 7, 7, 7, 7, 7, 7, 7, 7, 7, 7, 7, 7, 7, 7, 7, 7, 7, 7, 7, 7, 7, 7, 7, 7, 7, 7, 7, 7, 7, 7, 7, 7, 7, 7, 7, 7, 7, 7, 7, 7, 7, 7, 7, 7, 7, 7, 7, 7, 7, 7, 7, 7, 7, 7, 7, 7, 7, 7, 7, 8, 8, 8, 8, 8, 8, 8, 8, 8, 8, 8, 8, 8, 8, 8, 8, 8, 8, 8, 8, 8, 8, 8, 8, 8, 8, 8, 8, 8, 8, 8, 8, 8, 8, 8, 8, 8, 8, 8, 8, 8, 8, 8, 8, 8, 8, 8, 8, 8, 8, 8, 8, 8, 8, 8, 8, 8, 8, 8, 8, 8, 8, 8, 8, 8, 8, 8, 8, 8, 8, 8, 8, 8, 8, 8, 8, 8, 8, 8, 8, 8, 8, 8, 8, 8, 8, 8, 8, 8, 8, 8, 8, 8, 8, 8, 8, 8, 8, 8, 8, 8, 8, 8, 8, 8, 8, 8, 8, 8, 8, 8, 8, 8, 8, 8, 8, 8, 8, 8, 8, 8, 8, 8, 8, 8, 8, 8, 8]⟩ : ByteArray).data.toList.getD (Int.toNat (IntKind.wrap .u8 (Int.fdiv x0.toInt (2 ^ (min (Int.toNat 16) (IntKind.bits .u32)))))) 0).toNat : Nat) : Int))))]) .fail) .fail)) .fail)
 (.br (decide (256 ≤ x0.toInt)) (.br (decide (0 ≤ 8)) (.br (decide (0 ≤ IntKind.wrap .u8 (Int.fdiv x0.toInt (2 ^ (min (Int.toNat 8) (IntKind.bits .u32)))))) (.br (decide (IntKind.wrap .u8 (Int.fdiv x0.toInt (2 ^ (min (Int.toNat 8) (IntKind.bits .u32)))) < ((⟨#[0, 1, 2, 2, 3, 3, 3, 3, 4, 4, 4, 4, 4, 4, 4, 4, 5, 5, 5, 5, 5, 5, 5, 5, 5, 5, 5, 5, 5, 5, 5, 5, 6, 6, 6, 6, 6, 6, 6, 6, 6, 6, 6, 6, 6, 6, 6, 6, 6, 6, 6, 6, 6, 6, 6, 6, 6, 6, 6, 6, 6, 6, 6, 6, 7, 7, 7, 7, 7, 7, 7, 7, 7, 7, 7, 7, 7, 7, 7, 7, 7, 7, 7, 7, 7, 7, 7, 7, 7, 7, 7, 7, 7, 7, 7, 7, 7, 7, 7, 7, 7, 7, 7, 7, 7, 7, 7, 7, 7, 7, 7, 7, 7, 7, 7, 7, 7, 7, 7, 7, 7, 7, 7, 7, 7, 7, 7, 7, 8, 8, 8, 8, 8, 8, 8, 8, 8, 8, 8, 8, 8, 8, 8, 8, 8, 8, 8, 8, 8, 8, 8, 8, 8, 8, 8, 8, 8, 8, 8, 8, 8, 8, 8, 8, 8, 8, 8, 8, 8, 8, 8, 8, 8, 8, 8, 8, 8, 8, 8, 8, 8, 8, 8, 8, 8, 8, 8, 8, 8, 8, 8, 8, 8, 8, 8, 8, 8, 8, 8, 8, 8, 8, 8, 8, 8, 8, 8, 8, 8, 8, 8, 8, 8, 8, 8, 8, 8, 8, 8, 8, 8, 8, 8, 8, 8, 8, 8, 8, 8, 8, 8, 8, 8, 8, 8, 8, 8, 8, 8, 8, 8, 8, 8, 8, 8, 8, 8, 8, 8, 8, 8, 8, 8, 8, 8, 8]⟩ : ByteArray).size : Int))) (.ret [D.int (IntKind.wrap .i64 ((IntKind.wrap .i64 (0 + 8)) + (IntKind.wrap .i64 ((((⟨#[0, 1, 2, 2, 3, 3, 3, 3, 4, 4, 4, 4, 4, 4, 4, 4, 5, 5, 5, 5, 5, 5, 5, 5, 5, 5, 5, 5, 5, 5, 5, 5, 6, 6, 6, 6, 6, 6, 6, 6, 6, 6, 6, 6, 6, 6, 6, 6, 6, 6, 6, 6, 6, 6, 6, 6, 6, 6, 6, 6, 6, 6, 6, 6, 7, 7, 7, 7, 7, 7, 7, 7, 7, 7, 7, 7, 7, 7, 7, 7, 7, 7, 7, 7, 7, 7, 7, 7, 7, 7, 7, 7, 7, 7, 7, 7, 7, 7, 7, 7, 7, 7, 7, 7, 7, 7, 7, 7, 7, 7, 7, 7, 7, 7, 7, 7, 7, 7, 7, 7, 7, 7, 7, 7, 7, 7, 7, 7, 8, 8, 8, 8, 8, 8, 8, 8, 8, 8, 8, 8, 8, 8, 8, 8, 8, 8, 8, 8, 8, 8, 8, 8, 8, 8, 8, 8, 8, 8, 8, 8, 8, 8, 8, 8, 8, 8, 8, 8, 8, 8, 8, 8, 8, 8, 8, 8, 8, 8, 8, 8, 8, 8, 8, 8, 8, 8, 8, 8, 8, 8, 8, 8, 8, 8, 8, 8, 8, 8, 8, 8, 8, 8, 8, 8, 8, 8, 8, 8, 8, 8, 8, 8, 8, 8, 8, 8, 8, 8, 8, 8, 8, 8, 8, 8, 8, 8, 8, 8, 8, 8, 8, 8, 8, 8, 8, 8, 8, 8, 8, 8, 8, 8, 8, 8, 8, 8, 8, 8, 8, 8, 8, 8, 8, 8, 8, 8]⟩ : ByteArray).data.toList.getD (Int.toNat (IntKind.wrap .u8 (Int.fdiv x0.toInt (2 ^ (min (Int.toNat 8) (IntKind.bits .u32)))))) 0).toNat : Nat) : Int))))]) .fail) .fail) .fail)
 (.br (decide (0 ≤ IntKind.wrap .u8 x0.toInt)) (.br (decide (IntKind.wrap .u8 x0.toInt < ((⟨#[0, 1, 2, 2, 3, 3, 3, 3, 4, 4, 4, 4, 4, 4, 4, 4, 5, 5, 5, 5, 5, 5, 5, 5, 5, 5, 5, 5, 5, 5, 5, 5, 6, 6, 6, 6, 6, 6, 6, 6, 6, 6, 6, 6, 6, 6, 6, 6, 6, 6, 6, 6, 6, 6, 6, 6, 6, 6, 6, 6, 6, 6, 6, 6, 7, 7, 7, 7, 7, 7, 7, 7, 7, 7, 7, 7, 7, 7, 7, 7, 7, 7, 7, 7, 7, 7, 7, 7, 7, 7, 7, 7, 7, 7, 7, 7, 7, 7, 7, 7, 7, 7, 7, 7, 7, 7, 7, 7, 7, 7, 7, 7, 7, 7, 7, 7, 7, 7, 7, 7, 7, 7, 7, 7, 7, 7, 7, 7, 8, 8, 8, 8, 8, 8, 8, 8, 8, 8, 8, 8, 8, 8, 8, 8, 8, 8, 8, 8, 8, 8, 8, 8, 8, 8, 8, 8, 8, 8, 8, 8, 8, 8, 8, 8, 8, 8, 8, 8, 8, 8, 8, 8, 8, 8, 8, 8, 8, 8, 8, 8, 8, 8, 8, 8, 8, 8, 8, 8, 8, 8, 8, 8, 8, 8, 8, 8, 8, 8, 8, 8, 8, 8, 8, 8, 8, 8, 8, 8, 8, 8, 8, 8, 8, 8, 8, 8, 8, 8, 8, 8, 8, 8, 8, 8, 8, 8, 8, 8, 8, 8, 8, 8, 8, 8, 8, 8, 8, 8, 8, 8, 8, 8, 8, 8, 8, 8, 8, 8, 8, 8, 8, 8, 8, 8, 8, 8]⟩ : ByteArray).size : Int))) (.ret [D.int (IntKind.wrap .i64 (0 + (IntKind.wrap .i64 ((((⟨#[0, 1, 2, 2, 3, 3, 3, 3, 4, 4, 4, 4, 4, 4, 4, 4, 5, 5, 5, 5, 5, 5, 5, 5, 5, 5, 5, 5, 5, 5, 5, 5, 6, 6, 6, 6, 6, 6, 6, 6, 6, 6, 6, 6, 6, 6, 6, 6, 6, 6, 6, 6, 6, 6, 6, 6, 6, 6, 6, 6, 6, 6, 6, 6, 7, 7, 7, 7, 7, 7, 7, 7, 7, 7, 7, 7, 7, 7, 7, 7, 7, 7, 7, 7, 7, 7, 7, 7, 7, 7, 7, 7, 7, 7, 7, 7, 7, 7, 7, 7, 7, 7, 7, 7, 7, 7, 7, 7, 7, 7, 7, 7, 7, 7, 7, 7, 7, 7, 7, 7, 7, 7, 7, 7, 7, 7, 7, 7, 8, 8, 8, 8, 8, 8, 8, 8, 8, 8, 8, 8, 8, 8, 8, 8, 8, 8, 8, 8, 8, 8, 8, 8, 8, 8, 8, 8, 8, 8, 8, 8, 8, 8, 8, 8, 8, 8, 8, 8, 8, 8, 8, 8, 8, 8, 8, 8, 8, 8, 8, 8, 8, 8, 8, 8, 8, 8, 8, 8, 8, 8, 8, 8, 8, 8, 8, 8, 8, 8, 8, 8, 8, 8, 8, 8, 8, 8, 8, 8, 8, 8, 8, 8, 8, 8, 8, 8, 8, 8, 8, 8, 8, 8, 8, 8, 8, 8, 8, 8, 8, 8, 8, 8, 8, 8, 8, 8, 8, 8, 8, 8, 8, 8, 8, 8, 8, 8, 8, 8, 8, 8, 8, 8, 8, 8, 8, 8]⟩ : ByteArray).data.toList.getD (Int.toNat (IntKind.wrap .u8 x0.toInt)) 0).toNat : Nat) : Int))))]) .fail) .fail)) := by kernel_rfl

end Go.Proofs.Ytjmddikeadbmjaa
namespace Go.Proofs.Ytjmddikeadbmjaa

abbrev Lab := BitVec 64
abbrev Limb := BitVec 32
structure Num where
  neg : Bool
  top : List Limb
  bot : List Limb
  deriving DecidableEq
structure CellF (α : Type) where
  l : Lab
  kind : Int
  n : Num
  c : Int
  inn : List α
inductive Arr where
  | mk (s : Lab) (shape : List Int) (cells : List (CellF Arr))
abbrev Cell := CellF Arr
def Arr.s : Arr → Lab | .mk s _ _ => s
def Arr.shape : Arr → List Int | .mk _ s _ => s
def Arr.cells : Arr → List Cell | .mk _ _ c => c
@[simp] theorem Arr.s_mk (s sh cs) : (Arr.mk s sh cs).s = s := rfl
@[simp] theorem Arr.shape_mk (s sh cs) : (Arr.mk s sh cs).shape = sh := rfl
@[simp] theorem Arr.cells_mk (s sh cs) : (Arr.mk s sh cs).cells = cs := rfl
theorem Arr.eta (a : Arr) : a = .mk a.s a.shape a.cells := by cases a; rfl
def Num.zero : Num := ⟨false, [], []⟩
def Cell.none : Cell := ⟨0, 0, .zero, 0, []⟩
def Arr.none : Arr := .mk 0 [] []

theorem Arr.ind {p : Arr → Prop} (h : ∀ s sh cs, (∀ c ∈ cs, ∀ x ∈ c.inn, p x) → p (.mk s sh cs)) (a : Arr) : p a :=
  Arr.rec (motive_1 := p) (motive_2 := fun cs => ∀ c ∈ cs, ∀ x ∈ c.inn, p x) (motive_3 := fun c => ∀ x ∈ c.inn, p x) (motive_4 := fun as_ => ∀ x ∈ as_, p x)
    (fun s sh cs ih => h s sh cs ih) (fun c hc => by cases hc)
    (fun c cs h1 h2 d hd => by rcases List.mem_cons.1 hd with rfl | hd; exact h1; exact h2 d hd)
    (fun _ _ _ _ _ ih => ih) (fun x hx => by cases hx)
    (fun a as_ h1 h2 x hx => by rcases List.mem_cons.1 hx with rfl | hx; exact h1; exact h2 x hx) a

def dB {k : Nat} (x : BitVec k) : D := .int (x.toNat : Int)
def dI (l : List Int) : D := .sl (l.map .int)
def dL (l : List Limb) : D := .sl (l.map dB)
def dN (n : Num) : D := .agg [.bool n.neg, dL n.top, dL n.bot]
mutual
def dA : Arr → D
  | .mk s sh cs => .agg [dB s, dI sh, .sl (dCs cs)]
def dCs : List (CellF Arr) → List D
  | [] => []
  | c :: cs => dC c :: dCs cs
def dC : CellF Arr → D
  | ⟨l, k, n, c, inn⟩ => .agg [dB l, .int k, dN n, .int c, .sl (dAs inn)]
def dAs : List Arr → List D
  | [] => []
  | a :: as_ => dA a :: dAs as_
end
theorem dCs_map : ∀ cs, dCs cs = cs.map dC
  | [] => by simp [dCs]
  | c :: cs => by simp [dCs, dCs_map cs]
theorem dAs_map : ∀ as_, dAs as_ = as_.map dA
  | [] => by simp [dAs]
  | a :: as_ => by simp [dAs, dAs_map as_]
theorem dA_eq (a : Arr) : dA a = .agg [dB a.s, dI a.shape, .sl (a.cells.map dC)] := by cases a; simp [dA, dCs_map]
theorem dC_eq (c : Cell) : dC c = .agg [dB c.l, .int c.kind, dN c.n, .int c.c, .sl (c.inn.map dA)] := by cases c; simp [dC, dAs_map]
theorem dA_mk (s : Lab) (sh : List Int) (cs : List Cell) : D.agg [dB s, dI sh, .sl (cs.map dC)] = dA (.mk s sh cs) := by rw [dA_eq]; rfl
theorem dC_mk (l : Lab) (k : Int) (n : Num) (c : Int) (inn : List Arr) : D.agg [dB l, .int k, dN n, .int c, .sl (inn.map dA)] = dC ⟨l, k, n, c, inn⟩ := by rw [dC_eq]

section simps
@[simp] theorem fld_agg0 (x : D) (l : List D) : (D.agg (x :: l)).fld 0 = x := rfl
@[simp] theorem fld_agg1 (x y : D) (l : List D) : (D.agg (x :: y :: l)).fld 1 = y := rfl
@[simp] theorem fld_agg2 (x y z : D) (l : List D) : (D.agg (x :: y :: z :: l)).fld 2 = z := rfl
@[simp] theorem fld_agg3 (x y z u : D) (l : List D) : (D.agg (x :: y :: z :: u :: l)).fld 3 = u := rfl
@[simp] theorem fld_agg4 (x y z u v : D) (l : List D) : (D.agg (x :: y :: z :: u :: v :: l)).fld 4 = v := rfl
@[simp] theorem dA_0 (a : Arr) : (dA a).fld 0 = dB a.s := by rw [dA_eq]; rfl
@[simp] theorem dA_1 (a : Arr) : (dA a).fld 1 = dI a.shape := by rw [dA_eq]; rfl
@[simp] theorem dA_2 (a : Arr) : (dA a).fld 2 = .sl (a.cells.map dC) := by rw [dA_eq]; rfl
@[simp] theorem dC_0 (c : Cell) : (dC c).fld 0 = dB c.l := by rw [dC_eq]; rfl
@[simp] theorem dC_1 (c : Cell) : (dC c).fld 1 = .int c.kind := by rw [dC_eq]; rfl
@[simp] theorem dC_2 (c : Cell) : (dC c).fld 2 = dN c.n := by rw [dC_eq]; rfl
@[simp] theorem dC_3 (c : Cell) : (dC c).fld 3 = .int c.c := by rw [dC_eq]; rfl
@[simp] theorem dC_4 (c : Cell) : (dC c).fld 4 = .sl (c.inn.map dA) := by rw [dC_eq]; rfl
@[simp] theorem dN_0 (n : Num) : (dN n).fld 0 = .bool n.neg := rfl
@[simp] theorem dN_1 (n : Num) : (dN n).fld 1 = dL n.top := rfl
@[simp] theorem dN_2 (n : Num) : (dN n).fld 2 = dL n.bot := rfl
@[simp] theorem els_sl (l : List D) : (D.sl l).els = l := rfl
@[simp] theorem els_dI (l : List Int) : (dI l).els = l.map .int := rfl
@[simp] theorem els_dL (l : List Limb) : (dL l).els = l.map dB := rfl
@[simp] theorem toInt_int (n : Int) : (D.int n).toInt = n := rfl
@[simp] theorem toInt_dB {k : Nat} (x : BitVec k) : (dB x).toInt = (x.toNat : Int) := rfl
@[simp] theorem toBool_bool (b : Bool) : (D.bool b).toBool = b := rfl
@[simp] theorem unref_ref (x : D) : (D.ref x).unref = x := rfl
@[simp] theorem fnId_fn (f c d) : (D.fn f c d).fnId = f := rfl
@[simp] theorem fnCts_fn (f c d) : (D.fn f c d).fnCts = c := rfl
@[simp] theorem fnDs_fn (f c d) : (D.fn f c d).fnDs = d := rfl
@[simp] theorem getD_c0 (x : D) (l : List D) : (x :: l).getD 0 D.nil = x := rfl
@[simp] theorem getD_c1 (x y : D) (l : List D) : (x :: y :: l).getD 1 D.nil = y := rfl
@[simp] theorem getD_c2 (x y z : D) (l : List D) : (x :: y :: z :: l).getD 2 D.nil = z := rfl
@[simp] theorem getD_c3 (x y z u : D) (l : List D) : (x :: y :: z :: u :: l).getD 3 D.nil = u := rfl
theorem dInt_dB {k : Nat} (x : BitVec k) : D.int (x.toNat : Int) = dB x := rfl
theorem dsl_dI (l : List Int) : D.sl (l.map .int) = dI l := rfl
theorem dsl_dL (l : List Limb) : D.sl (l.map dB) = dL l := rfl
theorem dN_mk (neg : Bool) (t b : List Limb) : D.agg [.bool neg, dL t, dL b] = dN ⟨neg, t, b⟩ := rfl
end simps

/-- A row, from a place on. -/
theorem drop_cons {α : Type} {l : List α} {i : Nat} {x : α} {xs : List α} (h : l.drop i = x :: xs) : i < l.length ∧ l[i]? = some x ∧ l.drop (i + 1) = xs := by
  have hi : i < l.length := by
    rcases Nat.lt_or_ge i l.length with h1 | h1
    · exact h1
    · rw [List.drop_eq_nil_of_le h1] at h; cases h
  rw [List.drop_eq_getElem_cons hi] at h
  injection h with h1 h2
  exact ⟨hi, by rw [List.getElem?_eq_getElem hi, h1], h2⟩
theorem drop_nil {α : Type} {l : List α} {i : Nat} (h : l.drop i = []) : l.length ≤ i := List.drop_eq_nil_iff.1 h
theorem getD_map {α : Type} {l : List α} {i : Nat} {x : α} {f : α → D} (h : l[i]? = some x) : (l.map f).getD i D.nil = f x := by
  rw [List.getD_eq_getElem?_getD, List.getElem?_map, h]; rfl
theorem wrap64 {x : Int} (h1 : -9223372036854775808 ≤ x) (h2 : x ≤ 9223372036854775807) : IntKind.wrap .i64 x = x := by rw [IntKind.wrap_i64]; omega
theorem wrapU64 {x : Int} (h1 : 0 ≤ x) (h2 : x < 18446744073709551616) : IntKind.wrap .u64 x = x := by rw [IntKind.wrap_u64]; omega
theorem wrapU32 {x : Int} (h1 : 0 ≤ x) (h2 : x < 4294967296) : IntKind.wrap .u32 x = x := by rw [IntKind.wrap_u32]; omega

end Go.Proofs.Ytjmddikeadbmjaa
namespace Go.Proofs.Ytjmddikeadbmjaa

/-- What is told of a function without captures. -/
abbrev Sp (f : Nat) (xs ys : List D) : Prop := Spec Try.prog md f [] xs ys
/-- What a tree comes to. -/
abbrev Tw (t : Tree) (ys : List D) : Prop := t.wp Try.prog md (fun zs => zs = ys)

theorem int_beq (x y : Int) : (x == y) = decide (x = y) := by by_cases h : x = y <;> simp [h]
theorem int_bne (x y : Int) : (x != y) = decide (¬ x = y) := by by_cases h : x = y <;> simp [h]
theorem not_dec (p : Prop) [Decidable p] : (!decide p) = decide (¬ p) := by by_cases h : p <;> simp [h]
theorem wrap_succ {k : Nat} (h : k < 9223372036854775807) : IntKind.wrap .i64 ((k : Int) + 1) = ((k + 1 : Nat) : Int) := by rw [wrap64 (by omega) (by omega)]; rfl
theorem wrap_zero_succ : IntKind.wrap .i64 (-1 + 1) = 0 := by rw [wrap64 (by omega) (by omega)]; rfl
theorem dec_true (p : Prop) [Decidable p] (h : p) : decide p = true := decide_eq_true h

/-- A loop along a list. -/
theorem loop_list {α σ : Type} {P : Program} {md : Nat → FMode} (xs : List α) (L : Nat → Nat → σ → Tree) (f : List α → σ → List D) (I : List α → σ → Prop)
    (hnil : ∀ m k s, k = xs.length → I [] s → (L (m + 1) k s).wp P md (fun zs => zs = f [] s))
    (hcons : ∀ m k s x rest, xs.drop k = x :: rest → I (x :: rest) s → (∀ s', I rest s' → (L m (k + 1) s').wp P md (fun zs => zs = f rest s')) → (L (m + 1) k s).wp P md (fun zs => zs = f (x :: rest) s)) :
    ∀ m k s, xs.length - k < m → k ≤ xs.length → I (xs.drop k) s → (L m k s).wp P md (fun zs => zs = f (xs.drop k) s) := by
  intro m
  induction m with
  | zero => intro k s h; omega
  | succ m ih =>
    intro k s h1 h2 hI
    cases hd : xs.drop k with
    | nil => rw [hd] at hI; exact hnil m k s (by have := drop_nil hd; omega) hI
    | cons x rest =>
      rw [hd] at hI
      obtain ⟨a1, a2, a3⟩ := drop_cons hd
      refine hcons m k s x rest hd hI (fun s' hI' => ?_)
      have := ih (k + 1) s' (by omega) (by omega) (by rw [a3]; exact hI')
      rwa [a3] at this
/-- A loop that counts up. -/
theorem loop_up {σ : Type} {P : Program} {md : Nat → FMode} (N : Nat) (L : Nat → Nat → σ → Tree) (f : Nat → σ → List D) (I : Nat → σ → Prop)
    (hend : ∀ m s, I N s → (L (m + 1) N s).wp P md (fun zs => zs = f N s))
    (hstep : ∀ m k s, k < N → I k s → (∀ s', I (k + 1) s' → (L m (k + 1) s').wp P md (fun zs => zs = f (k + 1) s')) → (L (m + 1) k s).wp P md (fun zs => zs = f k s)) :
    ∀ m k s, N - k < m → k ≤ N → I k s → (L m k s).wp P md (fun zs => zs = f k s) := by
  intro m
  induction m with
  | zero => intro k s h; omega
  | succ m ih =>
    intro k s h1 h2 hI
    by_cases hk : k = N
    · subst hk; exact hend m s hI
    · exact hstep m k s (by omega) hI (fun s' hI' => ih (k + 1) s' (by omega) (by omega) hI')
/-- A loop that counts down to 0, from k-1 on. -/
theorem loop_down {σ : Type} {P : Program} {md : Nat → FMode} (L : Nat → Nat → σ → Tree) (f : Nat → σ → List D) (I : Nat → σ → Prop)
    (hend : ∀ m s, I 0 s → (L (m + 1) 0 s).wp P md (fun zs => zs = f 0 s))
    (hstep : ∀ m k s, I (k + 1) s → (∀ s', I k s' → (L m k s').wp P md (fun zs => zs = f k s')) → (L (m + 1) (k + 1) s).wp P md (fun zs => zs = f (k + 1) s)) :
    ∀ m k s, k < m → I k s → (L m k s).wp P md (fun zs => zs = f k s) := by
  intro m
  induction m with
  | zero => intro k s h; omega
  | succ m ih =>
    intro k s h1 hI
    cases k with
    | zero => exact hend m s hI
    | succ k => exact hstep m k s hI (fun s' hI' => ih k s' (by omega) hI')
end Go.Proofs.Ytjmddikeadbmjaa
namespace Go.Proofs.Ytjmddikeadbmjaa

def B : Nat := 4294967296
theorem B_eq : B = 4294967296 := rfl
theorem B_pos : 0 < B := by decide
theorem Bp (i : Nat) : 0 < B ^ i := Nat.pow_pos B_pos
theorem limb_lt (x : Limb) : x.toNat < B := x.isLt
def nv : List Limb → Nat
  | [] => 0
  | x :: l => x.toNat + B * nv l
@[simp] theorem nv_nil : nv [] = 0 := rfl
theorem nv_append (l m : List Limb) : nv (l ++ m) = nv l + B ^ l.length * nv m := by
  induction l with
  | nil => simp
  | cons x l ih =>
    simp only [List.cons_append, nv, ih, List.length_cons, Nat.pow_succ, Nat.mul_add]
    rw [Nat.mul_comm (B ^ l.length) B, Nat.mul_assoc]; omega
theorem nv_snoc (l : List Limb) (x : Limb) : nv (l ++ [x]) = nv l + B ^ l.length * x.toNat := by rw [nv_append]; simp [nv]
theorem nv_lt (l : List Limb) : nv l < B ^ l.length := by
  induction l with
  | nil => simp
  | cons x l ih =>
    simp only [nv, List.length_cons, Nat.pow_succ]
    have hx := limb_lt x
    have : B * (nv l + 1) ≤ B * B ^ l.length := Nat.mul_le_mul_left _ ih
    rw [Nat.mul_comm (B ^ l.length) B]
    rw [Nat.mul_add] at this
    omega
theorem nv_drop (l : List Limb) (i : Nat) : nv (l.drop i) = nv l / B ^ i := by
  induction i generalizing l with
  | zero => simp
  | succ i ih =>
    cases l with
    | nil => simp
    | cons x l =>
      rw [List.drop_succ_cons, ih, Nat.pow_succ, Nat.mul_comm, ← Nat.div_div_eq_div_mul]
      simp only [nv]
      rw [Nat.add_mul_div_left _ _ B_pos, Nat.div_eq_of_lt (limb_lt x), Nat.zero_add]
/-- A limb. -/
theorem nv_limb (l : List Limb) (i : Nat) (hi : i < l.length) : (l[i]).toNat = nv l / B ^ i % B := by
  rw [← nv_drop, List.drop_eq_getElem_cons hi, nv, Nat.add_mul_mod_self_left, Nat.mod_eq_of_lt (limb_lt _)]
theorem nv_limb' (l : List Limb) (i : Nat) (hi : l.length ≤ i) : nv l / B ^ i % B = 0 := by
  rw [← nv_drop, List.drop_eq_nil_of_le hi]; rfl
theorem nv_zeros (k : Nat) : nv (List.replicate k 0) = 0 := by
  induction k with
  | zero => rfl
  | succ k ih => rw [List.replicate_succ, nv, ih]; rfl
/-- A digit more. -/
theorem nv_step {out : List Limb} {z i : Nat} {d : Limb} (hl : out.length = i) (h : nv out = z % B ^ i) (hd : d.toNat = z / B ^ i % B) : nv (out ++ [d]) = z % B ^ (i + 1) := by
  rw [nv_snoc, hl, h, hd, Nat.mod_pow_succ]

/-- The limbs of a number. -/
def lb (n : Nat) : List Limb := if h : n = 0 then [] else BitVec.ofNat 32 n :: lb (n / B)
termination_by n
decreasing_by exact Nat.div_lt_self (Nat.pos_of_ne_zero h) (by decide)
theorem lb_zero : lb 0 = [] := by rw [lb]; simp
theorem lb_pos {n : Nat} (h : n ≠ 0) : lb n = BitVec.ofNat 32 n :: lb (n / B) := by rw [lb, dif_neg h]
theorem nv_lb (n : Nat) : nv (lb n) = n := by
  induction n using Nat.strongRecOn with
  | _ n ih =>
    by_cases h : n = 0
    · subst h; rw [lb_zero]; rfl
    · rw [lb_pos h, nv, ih _ (Nat.div_lt_self (Nat.pos_of_ne_zero h) (by decide)), BitVec.toNat_ofNat]
      exact Nat.mod_add_div n B
theorem lb_inj {m n : Nat} (h : lb m = lb n) : m = n := by rw [← nv_lb m, h, nv_lb]
theorem lb_len {n k : Nat} : (lb n).length ≤ k ↔ n < B ^ k := by
  induction k generalizing n with
  | zero =>
    by_cases h : n = 0
    · subst h; simp [lb_zero]
    · rw [lb_pos h]; simp; omega
  | succ k ih =>
    by_cases h : n = 0
    · subst h; simp [lb_zero, Bp]
    · rw [lb_pos h, List.length_cons, Nat.succ_le_succ_iff, ih, Nat.div_lt_iff_lt_mul B_pos, Nat.pow_succ]
theorem lb_eq_nil {n : Nat} : lb n = [] ↔ n = 0 := by
  constructor
  · intro h; have := nv_lb n; rw [h] at this; simpa using this.symm
  · rintro rfl; exact lb_zero
theorem lb_len0 {n : Nat} : (lb n).length = 0 ↔ n = 0 := by rw [List.length_eq_zero_iff, lb_eq_nil]
/-- No 0 on top. -/
theorem lb_can {l : List Limb} (h : ∀ hne : l ≠ [], l.getLast hne ≠ 0) : lb (nv l) = l := by
  induction l with
  | nil => simp [lb_zero]
  | cons x l ih =>
    have ihl := ih (fun hne => by have := h (by simp); rwa [List.getLast_cons hne] at this)
    have hpos : nv (x :: l) ≠ 0 := by
      intro h0
      simp only [nv] at h0
      cases l with
      | nil =>
        have := h (by simp)
        simp only [List.getLast_singleton] at this
        exact this (BitVec.eq_of_toNat_eq (by simp; omega))
      | cons y m =>
        have hv : nv (y :: m) = 0 := by
          rcases Nat.eq_zero_or_pos (nv (y :: m)) with h | h
          · exact h
          · have := Nat.mul_le_mul_left B h; rw [B_eq] at this h0; omega
        rw [hv, lb_zero] at ihl
        cases ihl
    rw [lb_pos hpos]
    have e2 : nv (x :: l) / B = nv l := by simp only [nv]; rw [Nat.add_mul_div_left _ _ B_pos, Nat.div_eq_of_lt (limb_lt x), Nat.zero_add]
    rw [e2, ihl]
    congr 1
    apply BitVec.eq_of_toNat_eq
    simp only [nv, BitVec.toNat_ofNat]
    show (x.toNat + B * nv l) % B = x.toNat
    rw [Nat.add_mul_mod_self_left, Nat.mod_eq_of_lt (limb_lt x)]
theorem lb_last {n : Nat} (hne : lb n ≠ []) : (lb n).getLast hne ≠ 0 := by
  induction n using Nat.strongRecOn with
  | _ n ih =>
    have h : n ≠ 0 := fun h => hne (lb_eq_nil.2 h)
    have he := lb_pos h
    by_cases h2 : n / B = 0
    · rw [h2, lb_zero] at he
      simp only [he, List.getLast_singleton]
      intro h0
      have := congrArg BitVec.toNat h0
      simp only [BitVec.toNat_ofNat] at this
      have hlt : n < B := (Nat.div_eq_zero_iff.1 h2).resolve_left (by decide)
      rw [B_eq] at hlt
      simp at this
      omega
    · have hne2 : lb (n / B) ≠ [] := fun hh => h2 (lb_eq_nil.1 hh)
      have := ih (n / B) (Nat.div_lt_self (Nat.pos_of_ne_zero h) (by decide)) hne2
      simp only [he, List.getLast_cons hne2]
      exact this
/-- Noughts on top taken off. -/
theorem lb_take {l : List Limb} {k : Nat} (hk : k ≤ l.length) (hz : ∀ i, k ≤ i → (hi : i < l.length) → l[i] = 0) (ht : ∀ (hi : k - 1 < l.length), 0 < k → l[k - 1] ≠ 0) : lb (nv l) = l.take k := by
  have e : nv l = nv (l.take k) := by
    have := nv_append (l.take k) (l.drop k)
    rw [List.take_append_drop] at this
    have hd : l.drop k = List.replicate (l.length - k) 0 := by
      apply List.ext_getElem
      · simp
      · intro i h1 h2
        simp only [List.getElem_drop, List.getElem_replicate]
        exact hz _ (by omega) _
    rw [this, hd, nv_zeros]; simp
  rw [e]
  apply lb_can
  intro hne
  have hk0 : 0 < k := by
    rcases Nat.eq_zero_or_pos k with h | h
    · subst h; simp at hne
    · exact h
  rw [List.getLast_eq_getElem]
  simp only [List.getElem_take, List.length_take]
  have := ht (by omega) hk0
  have he : min k l.length - 1 = k - 1 := by omega
  simp only [he]
  exact this
theorem nv_len {n k : Nat} (h : n < B ^ k) : (lb n).length ≤ k := lb_len.2 h
theorem add_digit (x y i : Nat) : (x + y) / B ^ i % B = (x / B ^ i % B + y / B ^ i % B + (x % B ^ i + y % B ^ i) / B ^ i) % B := by
  have h1 : (x + y) / B ^ i = x / B ^ i + y / B ^ i + (x % B ^ i + y % B ^ i) / B ^ i := by
    have hx := Nat.div_add_mod x (B ^ i)
    have hy := Nat.div_add_mod y (B ^ i)
    conv => lhs; rw [← hx, ← hy]
    rw [show B ^ i * (x / B ^ i) + x % B ^ i + (B ^ i * (y / B ^ i) + y % B ^ i) = (x % B ^ i + y % B ^ i) + B ^ i * (x / B ^ i + y / B ^ i) by rw [Nat.mul_add]; omega, Nat.add_mul_div_left _ _ (Bp i)]
    omega
  rw [h1]
  simp [Nat.add_mod]
theorem add_carry (x y i : Nat) : (x % B ^ (i + 1) + y % B ^ (i + 1)) / B ^ (i + 1) = (x / B ^ i % B + y / B ^ i % B + (x % B ^ i + y % B ^ i) / B ^ i) / B := by
  rw [Nat.mod_pow_succ, Nat.mod_pow_succ, Nat.pow_succ, ← Nat.div_div_eq_div_mul]
  congr 1
  rw [show x % B ^ i + B ^ i * (x / B ^ i % B) + (y % B ^ i + B ^ i * (y / B ^ i % B)) = (x % B ^ i + y % B ^ i) + B ^ i * (x / B ^ i % B + y / B ^ i % B) by rw [Nat.mul_add]; omega, Nat.add_mul_div_left _ _ (Bp i)]
  omega
theorem lt_of_div {x y b : Nat} (h : x / b < y / b) : x < y := by
  rcases Nat.lt_or_ge x y with h1 | h1
  · exact h1
  · have := Nat.div_le_div_right (c := b) h1; omega
/-- A difference is a sum, from the other end. -/
theorem sub_digit {x y : Nat} (h : y ≤ x) (i : Nat) : ∃ zi c c', zi = (x - y) / B ^ i % B ∧ c = ((x - y) % B ^ i + y % B ^ i) / B ^ i ∧ c' = ((x - y) % B ^ (i + 1) + y % B ^ (i + 1)) / B ^ (i + 1) ∧ c' ≤ 1 ∧ x / B ^ i % B + B * c' = zi + y / B ^ i % B + c := by
  refine ⟨_, _, _, rfl, rfl, rfl, ?_, ?_⟩
  · have h1 := Nat.mod_lt (x - y) (Bp (i + 1))
    have h2 := Nat.mod_lt y (Bp (i + 1))
    have : ((x - y) % B ^ (i + 1) + y % B ^ (i + 1)) / B ^ (i + 1) < 2 := by rw [Nat.div_lt_iff_lt_mul (Bp _)]; omega
    omega
  · have h1 := add_digit (x - y) y i
    rw [Nat.sub_add_cancel h] at h1
    rw [add_carry, h1]
    exact Nat.mod_add_div _ _
theorem two_digit (x b i : Nat) : (2 * x + b) / B ^ i % B = (2 * (x / B ^ i % B) + (2 * (x % B ^ i) + b) / B ^ i) % B := by
  have h1 : (2 * x + b) / B ^ i = 2 * (x / B ^ i) + (2 * (x % B ^ i) + b) / B ^ i := by
    have hx := Nat.div_add_mod x (B ^ i)
    conv => lhs; rw [← hx]
    rw [show 2 * (B ^ i * (x / B ^ i) + x % B ^ i) + b = (2 * (x % B ^ i) + b) + B ^ i * (2 * (x / B ^ i)) by rw [Nat.mul_add, Nat.mul_left_comm]; omega, Nat.add_mul_div_left _ _ (Bp i)]
    omega
  rw [h1]
  simp [Nat.add_mod, Nat.mul_mod]
theorem two_carry (x b i : Nat) : (2 * (x % B ^ (i + 1)) + b) / B ^ (i + 1) = (2 * (x / B ^ i % B) + (2 * (x % B ^ i) + b) / B ^ i) / B := by
  rw [Nat.mod_pow_succ, Nat.pow_succ, ← Nat.div_div_eq_div_mul]
  congr 1
  rw [show 2 * (x % B ^ i + B ^ i * (x / B ^ i % B)) + b = (2 * (x % B ^ i) + b) + B ^ i * (2 * (x / B ^ i % B)) by rw [Nat.mul_add, Nat.mul_left_comm]; omega, Nat.add_mul_div_left _ _ (Bp i)]
  omega
theorem B_two (i : Nat) : B ^ i = 2 ^ (32 * i) := by rw [Nat.pow_mul]; rfl
theorem bit_limb (x i : Nat) : x / B ^ (i / 32) % B / 2 ^ (i % 32) % 2 = x / 2 ^ i % 2 := by
  have h1 := Nat.toNat_testBit (x / B ^ (i / 32) % B) (i % 32)
  have h2 := Nat.toNat_testBit x i
  rw [← h1, ← h2]
  congr 1
  rw [show B = 2 ^ 32 from rfl, Nat.testBit_mod_two_pow, ← Nat.pow_mul, Nat.testBit_div_two_pow]
  have : i % 32 < 32 := Nat.mod_lt _ (by decide)
  simp only [this, decide_true, Bool.true_and]
  congr 1
  omega
theorem mod_half {x y : Nat} (h : y ≠ 0) (h2 : x % y ≠ 0) : 2 * (y % (x % y)) < y := by
  have h1 := Nat.mod_lt x (Nat.pos_of_ne_zero h)
  rcases Nat.lt_or_ge y (2 * (x % y)) with h3 | h3
  · have : y % (x % y) = y - x % y := by
      rw [Nat.mod_eq_sub_mod (by omega), Nat.mod_eq_of_lt (by omega)]
    omega
  · have := Nat.mod_lt y (Nat.pos_of_ne_zero h2)
    omega
end Go.Proofs.Ytjmddikeadbmjaa
set_option maxRecDepth 100000
namespace Go.Proofs.Ytjmddikeadbmjaa

theorem dB_ofNat {t : Nat} (h : t < B) : D.int (t : Int) = dB (BitVec.ofNat 32 t) := by
  show _ = D.int ((BitVec.ofNat 32 t).toNat : Int)
  rw [show (BitVec.ofNat 32 t).toNat = t by rw [BitVec.toNat_ofNat]; exact Nat.mod_eq_of_lt h]
theorem ofNat_lt {t : Nat} (h : t < B) : (BitVec.ofNat 32 t).toNat = t := by rw [BitVec.toNat_ofNat]; exact Nat.mod_eq_of_lt h
theorem wrap_pred (k : Nat) (h : k < 9223372036854775807) : IntKind.wrap .i64 (((k + 1 : Nat) : Int) - 1) = (k : Int) := by rw [wrap64 (by omega) (by omega)]; omega
theorem dL_take (l : List Limb) (k : Nat) : D.sl ((l.map dB).take k) = dL (l.take k) := by rw [dL, List.map_take]
theorem dL_nil : D.sl [] = dL [] := rfl
theorem ref02_Norm_sp (l : List Limb) (hl : l.length ≤ 1000000) : Sp 55 [dL l] [dL (lb (nv l))] := by
  refine sound_ (l.length + 1) (ref02_Norm_tree _ _) ?_
  have := loop_down (P := Try.prog) (md := md) (fun m k (_ : Unit) => ref02_Norm_l2 (l.length + 1) m (dL l) (k : Int)) (fun _ _ => [dL (lb (nv l))]) (fun k _ => k ≤ l.length ∧ ∀ i, k ≤ i → (hi : i < l.length) → l[i] = 0)
    (fun m s ⟨h1, h2⟩ => by
      simp only [ref02_Norm_l2_succ, els_dL, List.length_map, List.length_take]
      refine wp_ndec (by omega) (wp_dec (by omega) (wp_dec (by omega) (wp_dec (by simp [bigN]) (wp_ret ?_))))
      rw [lb_take (k := 0) (by omega) h2 (fun _ h => by omega), dL_take]; rfl)
    (fun m k s ⟨h1, h2⟩ ih => by
      have hk : l[k]? = some l[k] := List.getElem?_eq_getElem _
      simp only [ref02_Norm_l2_succ, els_dL, List.length_map, List.length_take, wrap_pred k (by omega), Int.toNat_natCast, getD_map hk, toInt_dB, int_beq]
      refine wp_dec (by omega) (wp_dec (by omega) (wp_dec (by omega) (wp_decs (fun h => ?_) (fun h => ?_))))
      · refine ih () ⟨by omega, fun i hi hlt => ?_⟩
        by_cases he : i = k
        · subst he; exact BitVec.eq_of_toNat_eq (by simp; omega)
        · exact h2 i (by omega) hlt
      · refine wp_dec (by omega) (wp_dec (by omega) (wp_dec (by unfold bigN; omega) (wp_ret ?_)))
        rw [lb_take (k := k + 1) (by omega) h2 (fun _ _ hc => h (by have hc' : l[k] = 0 := hc; rw [hc']; rfl)), dL_take])
    (l.length + 1) l.length () (by omega) ⟨Nat.le_refl _, fun i h1 h2 => by omega⟩
  simpa using this
theorem ref02_limb_sp (l : List Limb) (i : Nat) (hi : i < 9223372036854775807) : Sp 57 [dL l, .int i] [.int ((nv l / B ^ i % B : Nat) : Int)] := by
  refine sound_ 0 (ref02_limb_tree _ _ _) ?_
  simp only [els_dL, List.length_map, toInt_int, Int.toNat_natCast]
  refine wp_decs (fun h => ?_) (fun h => ?_)
  · have hk : l[i]? = some (l[i]'(by omega)) := List.getElem?_eq_getElem _
    refine wp_dec (by omega) (wp_dec (by omega) (wp_ret ?_))
    have := limb_lt l[i]
    rw [getD_map hk, toInt_dB, wrapU64 (by omega) (by rw [B_eq] at this; omega), nv_limb]
  · refine wp_ret ?_
    rw [nv_limb' _ _ (by omega)]; rfl
theorem ref02_longer_sp (a b : List Limb) : Sp 56 [dL a, dL b] [.int ((max a.length b.length : Nat) : Int)] := by
  refine sound_ 0 (ref02_longer_tree _ _ _) ?_
  simp only [els_dL, List.length_map]
  refine wp_decs (fun h => wp_ret ?_) (fun h => wp_ret ?_)
  · rw [Nat.max_eq_left (by omega)]
  · rw [Nat.max_eq_right (by omega)]
/-- Which one is greater? -/
def cmpN (a b : Nat) : Int := if a < b then -1 else if a = b then 0 else 1
theorem nnil {l : List D} : l ++ [] = l := List.append_nil l
theorem ref02_Add_sp (a b : List Limb) (ha : a.length ≤ 100000) (hb : b.length ≤ 100000) : Sp 38 [dL a, dL b] [dL (lb (nv a + nv b))] := by
  refine sound_ (max a.length b.length + 3) (ref02_Add_tree _ _ _) ?_
  have hmx : max a.length b.length ≤ 100000 := by omega
  have hlt : nv a + nv b < B ^ (max a.length b.length + 1) := by
    have h1 : nv a < B ^ max a.length b.length := Nat.lt_of_lt_of_le (nv_lt a) (Nat.pow_le_pow_right B_pos (Nat.le_max_left _ _))
    have h2 : nv b < B ^ max a.length b.length := Nat.lt_of_lt_of_le (nv_lt b) (Nat.pow_le_pow_right B_pos (Nat.le_max_right _ _))
    rw [Nat.pow_succ, B_eq]; rw [B_eq] at h1 h2; omega
  have key := loop_up (P := Try.prog) (md := md) (max a.length b.length + 1) (fun m k (s : List Limb × Nat) => ref02_Add_l4 (max a.length b.length + 3) m (dL a) (dL b) (s.1.map dB) (s.2 : Int) (k : Int)) (fun _ _ => [dL (lb (nv a + nv b))])
    (fun k s => s.1.length = k ∧ nv s.1 = (nv a + nv b) % B ^ k ∧ s.2 = (nv a % B ^ k + nv b % B ^ k) / B ^ k)
    (fun m s ⟨h1, h2, h3⟩ => by
      simp only [ref02_Add_l4_succ]
      refine wp_call (ref02_longer_sp a b) ?_
      simp only [getD_c0, toInt_int]
      refine wp_ndec (by omega) (wp_call (ref02_Norm_sp s.1 (by omega)) (wp_ret ?_))
      rw [h2, Nat.mod_eq_of_lt hlt]; rfl)
    (fun m k s hk ⟨h1, h2, h3⟩ ih => by
      simp only [ref02_Add_l4_succ]
      refine wp_call (ref02_longer_sp a b) ?_
      simp only [getD_c0, toInt_int]
      refine wp_dec (by omega) (wp_call (ref02_limb_sp a k (by omega)) (wp_call (ref02_limb_sp b k (by omega)) ?_))
      simp only [getD_c0, toInt_int]
      have hd := add_digit (nv a) (nv b) k
      have hc := add_carry (nv a) (nv b) k
      have la := Nat.mod_lt (nv a / B ^ k) B_pos
      have lb' := Nat.mod_lt (nv b / B ^ k) B_pos
      have lc : s.2 ≤ 1 := by
        rw [h3]
        have r1 := Nat.mod_lt (nv a) (Bp k)
        have r2 := Nat.mod_lt (nv b) (Bp k)
        have : (nv a % B ^ k + nv b % B ^ k) / B ^ k < 2 := by rw [Nat.div_lt_iff_lt_mul (Bp k)]; omega
        omega
      rw [← h3] at hd hc
      generalize nv a / B ^ k % B = x at *
      generalize nv b / B ^ k % B = y at *
      have hB := B_eq
      rw [show (x + y + s.2) / B = (x + y + s.2) / 4294967296 from rfl] at hc
      have t1 : IntKind.wrap .u64 (IntKind.wrap .u64 ((x : Int) + (y : Int)) + (s.2 : Int)) = ((x + y + s.2 : Nat) : Int) := by
        rw [wrapU64 (x := (x : Int) + y) (by omega) (by omega), wrapU64 (by omega) (by omega)]; omega
      rw [t1, Int.tmod_eq_emod_of_nonneg (by omega), Int.tdiv_eq_ediv_of_nonneg (by omega), show (((x + y + s.2 : Nat) : Int) % 4294967296) = (((x + y + s.2) % B : Nat) : Int) by rw [B_eq]; omega,
        show (((x + y + s.2 : Nat) : Int) / 4294967296) = (((x + y + s.2) / 4294967296 : Nat) : Int) by omega]
      have hm := Nat.mod_lt (x + y + s.2) B_pos
      rw [wrapU32 (x := (((x + y + s.2) % B : Nat) : Int)) (by omega) (by generalize (x + y + s.2) % B = z at *; omega), wrapU64 (x := (((x + y + s.2) / 4294967296 : Nat) : Int)) (by omega) (by omega), wrap_succ (by omega), dB_ofNat hm]
      simp only [List.length_map, List.length_singleton]
      refine wp_tt (by decide) (wp_dec (by unfold bigN; omega) (wp_tt (by decide) ?_))
      have := ih (s.1 ++ [BitVec.ofNat 32 ((x + y + s.2) % B)], (x + y + s.2) / 4294967296) ⟨by simp [h1], nv_step h1 h2 (by rw [ofNat_lt hm, hd]), by rw [hc]⟩
      simpa using this)
    (max a.length b.length + 3) 0 ([], 0) (by omega) (by omega) ⟨rfl, by simp [Nat.mod_one], by simp [Nat.mod_one]⟩
  exact key
theorem sub_arith {x y zi c c' : Nat} (hx : x < B) (hy : y < B) (hz : zi < B) (hc : c ≤ 1) (hc' : c' ≤ 1) (e : x + B * c' = zi + y + c) :
    IntKind.wrap .u32 (Int.tmod (IntKind.wrap .u64 (IntKind.wrap .u64 (IntKind.wrap .u64 (4294967296 + (x : Int)) - (y : Int)) - (c : Int))) 4294967296) = (zi : Int) ∧
    IntKind.wrap .u64 (1 - IntKind.wrap .u64 (Int.tdiv (IntKind.wrap .u64 (IntKind.wrap .u64 (IntKind.wrap .u64 (4294967296 + (x : Int)) - (y : Int)) - (c : Int))) 4294967296)) = (c' : Int) := by
  rw [B_eq] at hx hy hz e
  have t1 : IntKind.wrap .u64 (IntKind.wrap .u64 (IntKind.wrap .u64 (4294967296 + (x : Int)) - (y : Int)) - (c : Int)) = (zi : Int) + 4294967296 * (1 - (c' : Int)) := by
    rw [wrapU64 (x := 4294967296 + (x : Int)) (by omega) (by omega), wrapU64 (x := 4294967296 + (x : Int) - y) (by omega) (by omega), wrapU64 (by omega) (by omega)]; omega
  rw [t1, Int.tmod_eq_emod_of_nonneg (by omega), Int.tdiv_eq_ediv_of_nonneg (by omega), show ((zi : Int) + 4294967296 * (1 - (c' : Int))) % 4294967296 = (zi : Int) by omega, show ((zi : Int) + 4294967296 * (1 - (c' : Int))) / 4294967296 = 1 - (c' : Int) by omega]
  rw [wrapU32 (x := (zi : Int)) (by omega) (by omega), wrapU64 (x := 1 - (c' : Int)) (by omega) (by omega), show (1 : Int) - (1 - (c' : Int)) = (c' : Int) by omega, wrapU64 (x := (c' : Int)) (by omega) (by omega)]
  exact ⟨rfl, rfl⟩
/-- Are two lists the same? -/
theorem eq_loop {α : Type} [DecidableEq α] {P : Program} {md : Nat → FMode} (f : α → D) (hf : ∀ x y, (f x).toInt = (f y).toInt → x = y) (a b : List α) (hlen : a.length = b.length) (hbig : a.length ≤ 9223372036854775807) (L : Nat → Int → Tree)
    (hL : ∀ m i, L (m + 1) i = .br (decide (i < ((a.map f).length : Int))) (.br (decide (0 ≤ i)) (.br (decide (i < ((a.map f).length : Int))) (.br (decide (0 ≤ i)) (.br (decide (i < ((b.map f).length : Int)))
      (.br ((((a.map f).getD (Int.toNat i) D.nil).toInt) != (((b.map f).getD (Int.toNat i) D.nil).toInt)) (.ret [D.bool false]) (L m (IntKind.wrap .i64 (i + 1)))) .fail) .fail) .fail) .fail) (.ret [D.bool true])) :
    (L (a.length + 1) 0).wp P md (fun zs => zs = [.bool (decide (a = b))]) := by
  have key := loop_up (P := P) (md := md) a.length (fun m k (_ : Unit) => L m (k : Int)) (fun _ _ => [.bool (decide (a = b))]) (fun k _ => a.take k = b.take k)
    (fun m s h => by
      simp only [hL, List.length_map]
      refine wp_ndec (by omega) (wp_ret ?_)
      rw [List.take_of_length_le (Nat.le_refl _), List.take_of_length_le (by omega)] at h
      rw [decide_eq_true h])
    (fun m k s hk h ih => by
      have ha : a[k]? = some a[k] := List.getElem?_eq_getElem _
      have hb : b[k]? = some (b[k]'(by omega)) := List.getElem?_eq_getElem _
      simp only [hL, List.length_map, Int.toNat_natCast, getD_map ha, getD_map hb, int_bne]
      refine wp_dec (by omega) (wp_dec (by omega) (wp_dec (by omega) (wp_dec (by omega) (wp_dec (by omega) (wp_decs (fun hne => wp_ret ?_) (fun heq => ?_))))))
      · rw [decide_eq_false]
        rintro rfl
        exact hne rfl
      · rw [wrap_succ (by omega)]
        refine ih () ?_
        have : a[k] = b[k] := hf _ _ (Classical.not_not.1 heq)
        rw [List.take_succ_eq_append_getElem hk, List.take_succ_eq_append_getElem (by omega), h, this])
    (a.length + 1) 0 () (by omega) (by omega) (by simp)
  exact key
theorem dB_inj {k : Nat} (x y : BitVec k) (h : (dB x).toInt = (dB y).toInt) : x = y := BitVec.eq_of_toNat_eq (Int.ofNat.inj h)
theorem dint_inj (x y : Int) (h : (D.int x).toInt = (D.int y).toInt) : x = y := h
theorem ref02_Same_sp (a b : List Limb) (ha : a.length ≤ 9223372036854775807) : Sp 24 [dL a, dL b] [.bool (decide (a = b))] := by
  refine sound_ (a.length + 1) (ref02_Same_tree _ _ _) ?_
  simp only [els_dL, List.length_map, int_bne]
  refine wp_decs (fun h => wp_ret ?_) (fun h => ?_)
  · rw [decide_eq_false]; rintro rfl; exact h rfl
  · exact eq_loop dB dB_inj a b (by omega) ha (fun m i => ref02_Same_l4 (a.length + 1) m (dL a) (dL b) i) (fun m i => ref02_Same_l4_succ _ _ _ _ _)
end Go.Proofs.Ytjmddikeadbmjaa
set_option maxRecDepth 100000
namespace Go.Proofs.Ytjmddikeadbmjaa
/-! scrim/label.Join -/
def label_Join_orc : List (Nat × Orc) := []
theorem label_Join_tree (n : Nat) (a0 : D) (b1 : D) : evFun Try.prog md label_Join_orc n 21 [] [a0, b1] =
 .ret [D.int (bits_ .or .u64 a0.toInt b1.toInt)] := by kernel_rfl

end Go.Proofs.Ytjmddikeadbmjaa
set_option maxRecDepth 100000
namespace Go.Proofs.Ytjmddikeadbmjaa

theorem or_bits (a b : Lab) : bits_ .or .u64 (a.toNat : Int) (b.toNat : Int) = ((a ||| b).toNat : Int) := by
  show IntKind.wrap .u64 ((BitVec.ofInt 64 (a.toNat : Int) ||| BitVec.ofInt 64 (b.toNat : Int)).toNat : Int) = _
  have h := (a ||| b).isLt
  rw [show BitVec.ofInt 64 (a.toNat : Int) = a by simp, show BitVec.ofInt 64 (b.toNat : Int) = b by simp]
  exact wrapU64 (Int.natCast_nonneg _) (Int.ofNat_lt.2 h)
theorem andNot_bits (a b : Lab) : bits_ .andNot .u64 (a.toNat : Int) (b.toNat : Int) = ((a &&& ~~~b).toNat : Int) := by
  show IntKind.wrap .u64 ((BitVec.ofInt 64 (a.toNat : Int) &&& ~~~BitVec.ofInt 64 (b.toNat : Int)).toNat : Int) = _
  have h := (a &&& ~~~b).isLt
  rw [show BitVec.ofInt 64 (a.toNat : Int) = a by simp, show BitVec.ofInt 64 (b.toNat : Int) = b by simp]
  exact wrapU64 (Int.natCast_nonneg _) (Int.ofNat_lt.2 h)
theorem label_Join_sp (a b : Lab) : Sp 21 [dB a, dB b] [dB (a ||| b)] := by
  refine sound_ 0 (label_Join_tree 0 _ _) (wp_ret ?_)
  simp only [toInt_dB, or_bits]; rfl
/-- May a label flow to another one? -/
def flows (a b : Lab) : Bool := (List.range 64).all fun t => !a.getLsbD t || b.getLsbD t
theorem flows_64 {a b : Lab} : flows a b = true ↔ ∀ t, t < 64 → a.getLsbD t = true → b.getLsbD t = true := by
  unfold flows
  rw [List.all_eq_true]
  constructor
  · intro h t ht ha
    have := h t (List.mem_range.2 ht)
    simpa [ha] using this
  · intro h t ht
    have := h t (List.mem_range.1 ht)
    cases ha : a.getLsbD t <;> simp_all
theorem flows_iff {a b : Lab} : flows a b = true ↔ ∀ t, a.getLsbD t = true → b.getLsbD t = true := by
  rw [flows_64]
  refine ⟨fun h t ht => ?_, fun h t _ => h t⟩
  rcases Nat.lt_or_ge t 64 with hl | hl
  · exact h t hl ht
  · rw [BitVec.getLsbD_of_ge _ _ hl] at ht; cases ht
theorem flows_andNot (a b : Lab) : ((a &&& ~~~b).toNat = 0) ↔ flows a b = true := by
  rw [flows_iff]
  constructor
  · intro h t ht
    have h0 : a &&& ~~~b = 0#64 := BitVec.eq_of_toNat_eq (by simpa using h)
    have : (a &&& ~~~b).getLsbD t = false := by rw [h0]; simp
    rw [BitVec.getLsbD_and, BitVec.getLsbD_not, ht] at this
    have hl := BitVec.lt_of_getLsbD ht
    simpa [hl] using this
  · intro h
    have : a &&& ~~~b = 0#64 := by
      apply BitVec.eq_of_getLsbD_eq
      intro i hi
      rw [BitVec.getLsbD_and, BitVec.getLsbD_not]
      have := h i
      cases ha : a.getLsbD i <;> simp_all
    rw [this]; rfl
end Go.Proofs.Ytjmddikeadbmjaa
set_option maxRecDepth 100000
namespace Go.Proofs.Ytjmddikeadbmjaa

structure Wh where
  neg : Bool
  mag : List Limb
def dW (w : Wh) : D := .agg [.bool w.neg, dL w.mag]
def zv (w : Wh) : Int := if w.neg then -(nv w.mag : Int) else (nv w.mag : Int)
def wz (z : Int) : Wh := ⟨decide (z < 0), lb z.natAbs⟩
@[simp] theorem dW_0 (w : Wh) : (dW w).fld 0 = .bool w.neg := rfl
@[simp] theorem dW_1 (w : Wh) : (dW w).fld 1 = dL w.mag := rfl
theorem dW_mk (b : Bool) (l : List Limb) : D.agg [.bool b, dL l] = dW ⟨b, l⟩ := rfl
theorem dW_zero : D.agg [.bool false, .sl []] = dW (wz 0) := by simp [dW, wz, lb_zero, dL]
theorem zv_abs (w : Wh) : (zv w).natAbs = nv w.mag := by unfold zv; split <;> omega
theorem wz_len (w : Wh) : (lb (zv w).natAbs).length ≤ w.mag.length := by rw [zv_abs]; exact lb_len.2 (nv_lt _)
theorem zv_wz (z : Int) : zv (wz z) = z := by
  unfold zv wz
  simp only [nv_lb, decide_eq_true_eq]
  split <;> omega
theorem zv_lb (b : Bool) (n : Nat) : zv ⟨b, lb n⟩ = if b then -(n : Int) else (n : Int) := by simp only [zv, nv_lb]
theorem wz_zero : wz 0 = ⟨false, []⟩ := by simp [wz, lb_zero]
theorem wz_of (b : Bool) {n : Nat} (h : n ≠ 0) : wz (if b then -(n : Int) else (n : Int)) = ⟨b, lb n⟩ := by
  cases b <;> simp [wz] <;> omega
theorem wz_zv (w : Wh) : wz (zv w) = if nv w.mag = 0 then ⟨false, []⟩ else ⟨w.neg, lb (nv w.mag)⟩ := by
  split
  · rename_i h
    unfold zv; rw [h]; simp [wz_zero]
  · rename_i h
    unfold zv
    exact wz_of _ h
theorem bool_beq (a b : Bool) : (a == b) = decide (a = b) := by cases a <;> cases b <;> rfl
def inR (z : Int) : Prop := -9223372036854775808 ≤ z ∧ z ≤ 9223372036854775807
instance (z : Int) : Decidable (inR z) := by unfold inR; infer_instance
/-- A number as an int. -/
def smallZ (z : Int) : List D := if inR z then [.int z, .bool true] else [.int 0, .bool false]
def sgnZ (z : Int) : Int := if z < 0 then -1 else if z = 0 then 0 else 1
def cmpZ (x y : Int) : Int := if x < y then -1 else if x = y then 0 else 1
theorem ref03_Norm_sp (w : Wh) (h : w.mag.length ≤ 1000000) : Sp 37 [dW w] [dW (wz (zv w))] := by
  refine sound_ 0 (ref03_Norm_tree _ _) (wp_call (ref02_Norm_sp w.mag h) ?_)
  simp only [getD_c0, els_dL, List.length_map, int_beq, dW_0, toBool_bool]
  refine wp_decs (fun h => wp_ret ?_) (fun h => wp_ret ?_)
  · have h0 : nv w.mag = 0 := lb_len0.1 (by omega)
    rw [wz_zv, if_pos h0]; rfl
  · have h0 : nv w.mag ≠ 0 := fun hh => h (by rw [hh, lb_zero]; rfl)
    rw [wz_zv, if_neg h0]; rfl
theorem two_limbs {n : Nat} (h : n < 18446744073709551616) : nv [BitVec.ofNat 32 (n % 4294967296), BitVec.ofNat 32 (n / 4294967296)] = n := by
  simp only [nv, nv_nil]
  rw [ofNat_lt (by rw [B_eq]; omega), ofNat_lt (by rw [B_eq]; omega), B_eq]; omega
theorem ref03_Of_sp (z : Int) (h : inR z) : Sp 26 [.int z] [dW (wz z)] := by
  unfold inR at h
  refine sound_ 0 (ref03_Of_tree _ _) ?_
  simp only [toInt_int]
  refine wp_decs (fun h0 => ?_) (fun h0 => ?_)
  · obtain ⟨n, rfl⟩ : ∃ n : Nat, z = n := ⟨z.toNat, by omega⟩
    have e : [D.int (IntKind.wrap .u32 (Int.tmod (n : Int) 4294967296)), D.int (IntKind.wrap .u32 (IntKind.wrap .i64 (Int.tdiv (n : Int) 4294967296)))] = [BitVec.ofNat 32 (n % 4294967296), BitVec.ofNat 32 (n / 4294967296)].map dB := by
      rw [Int.tmod_eq_emod_of_nonneg (by omega), Int.tdiv_eq_ediv_of_nonneg (by omega), show (n : Int) % 4294967296 = ((n % 4294967296 : Nat) : Int) by omega, show (n : Int) / 4294967296 = ((n / 4294967296 : Nat) : Int) by omega,
        wrap64 (by omega) (by omega), wrapU32 (by omega) (by omega), wrapU32 (by omega) (by omega), dB_ofNat (by rw [B_eq]; omega), dB_ofNat (by rw [B_eq]; omega)]; rfl
    rw [e]
    have hv := two_limbs (n := n) (by omega)
    refine wp_tt (by decide) (wp_tt (by decide) (wp_call (ref03_Norm_sp ⟨false, [BitVec.ofNat 32 (n % 4294967296), BitVec.ofNat 32 (n / 4294967296)]⟩ (by simp)) (wp_ret ?_)))
    simp only [getD_c0, zv, hv]; rfl
  · obtain ⟨n, rfl⟩ : ∃ n : Nat, z = -1 - (n : Int) := ⟨(-1 - z).toNat, by omega⟩
    have e : [D.int (IntKind.wrap .u32 (Int.tmod (IntKind.wrap .i64 (-1 - (-1 - (n : Int)))) 4294967296)), D.int (IntKind.wrap .u32 (IntKind.wrap .i64 (Int.tdiv (IntKind.wrap .i64 (-1 - (-1 - (n : Int)))) 4294967296)))] = [BitVec.ofNat 32 (n % 4294967296), BitVec.ofNat 32 (n / 4294967296)].map dB := by
      rw [show (-1 : Int) - (-1 - (n : Int)) = (n : Int) by omega, wrap64 (x := (n : Int)) (by omega) (by omega), Int.tmod_eq_emod_of_nonneg (by omega), Int.tdiv_eq_ediv_of_nonneg (by omega), show (n : Int) % 4294967296 = ((n % 4294967296 : Nat) : Int) by omega, show (n : Int) / 4294967296 = ((n / 4294967296 : Nat) : Int) by omega,
        wrap64 (by omega) (by omega), wrapU32 (by omega) (by omega), wrapU32 (by omega) (by omega), dB_ofNat (by rw [B_eq]; omega), dB_ofNat (by rw [B_eq]; omega)]; rfl
    rw [e]
    have hv := two_limbs (n := n) (by omega)
    have sp := ref02_Add_sp [BitVec.ofNat 32 (n % 4294967296), BitVec.ofNat 32 (n / 4294967296)] [1] (by simp) (by simp)
    rw [hv, show nv [1] = 1 from rfl] at sp
    refine wp_tt (by decide) (wp_tt (by decide) (wp_call sp ?_))
    simp only [getD_c0]
    have hl : (lb (n + 1)).length ≤ 3 := lb_len.2 (by show n + 1 < 79228162514264337593543950336; omega)
    refine wp_call (ref03_Norm_sp ⟨true, lb (n + 1)⟩ (by simp only; omega)) (wp_ret ?_)
    simp only [getD_c0, zv_lb, if_true]
    rw [show -((n + 1 : Nat) : Int) = -1 - (n : Int) by omega]
theorem mul_i64_small {x : Int} (h : inR (x * 4294967296)) : IntKind.wrap .i64 (x * 4294967296) = x * 4294967296 := wrap64 h.1 h.2
theorem nat_trim_sp (l : List Limb) (hl : l.length < 9223372036854775807) : Sp 58 [dL l] [dL (lb (nv l))] := by
  refine sound_ (l.length + 1) (nat_trim_tree _ _) ?_
  have := loop_down (P := Try.prog) (md := md) (fun m k (_ : Unit) => nat_trim_l2 (l.length + 1) m (dL l) (k : Int)) (fun _ _ => [dL (lb (nv l))]) (fun k _ => k ≤ l.length ∧ ∀ i, k ≤ i → (hi : i < l.length) → l[i] = 0)
    (fun m s ⟨h1, h2⟩ => by
      simp only [nat_trim_l2_succ, els_dL, List.length_map, List.length_take]
      refine wp_ndec (by omega) (wp_dec (by omega) (wp_dec (by omega) (wp_dec (by omega) (wp_ret ?_))))
      rw [lb_take (k := 0) (by omega) h2 (fun _ h => by omega), dL_take]; rfl)
    (fun m k s ⟨h1, h2⟩ ih => by
      have hk : l[k]? = some l[k] := List.getElem?_eq_getElem _
      simp only [nat_trim_l2_succ, els_dL, List.length_map, List.length_take, wrap_pred k (by omega), Int.toNat_natCast, getD_map hk, toInt_dB, int_beq]
      refine wp_dec (by omega) (wp_dec (by omega) (wp_dec (by omega) (wp_decs (fun h => ?_) (fun h => ?_))))
      · refine ih () ⟨by omega, fun i hi hlt => ?_⟩
        by_cases he : i = k
        · subst he; exact BitVec.eq_of_toNat_eq (by simp; omega)
        · exact h2 i (by omega) hlt
      · refine wp_dec (by omega) (wp_dec (by omega) (wp_dec (by omega) (wp_ret ?_)))
        rw [lb_take (k := k + 1) (by omega) h2 (fun _ _ hc => h (by have hc' : l[k] = 0 := hc; rw [hc']; rfl)), dL_take])
    (l.length + 1) l.length () (by omega) ⟨Nat.le_refl _, fun i h1 h2 => by omega⟩
  simpa using this
theorem nat_Norm_sp (l : List Limb) (hl : l.length ≤ 1000000) : Sp 41 [dL l] [dL (lb (nv l))] := by
  refine sound_ 0 (nat_Norm_tree _ _) (wp_call (nat_trim_sp l (by omega)) ?_)
  have h1 : (lb (nv l)).length ≤ l.length := lb_len.2 (nv_lt l)
  simp only [getD_c0, els_dL, List.length_map, List.length_replicate, Int.toNat_natCast]
  refine wp_dec (by omega) (wp_dec (by omega) (wp_dec (by unfold bigN; omega) (wp_ret ?_)))
  rw [List.take_of_length_le (by simp), List.drop_eq_nil_of_le (by simp), List.append_nil]; rfl
theorem whole_signed_sp (b : Bool) (n : Nat) : Sp 40 [.bool b, dL (lb n)] [dW (wz (if b then -(n : Int) else (n : Int)))] := by
  refine sound_ 0 (whole_signed_tree _ _ _) ?_
  simp only [els_dL, List.length_map, int_beq, toBool_bool]
  refine wp_decs (fun h => wp_ret ?_) (fun h => wp_ret ?_)
  · have : n = 0 := lb_len0.1 (by omega)
    subst this
    simp [dW_zero]
  · have : n ≠ 0 := fun hh => h (by rw [hh, lb_zero]; rfl)
    rw [wz_of _ this]; rfl
theorem whole_Norm_sp (w : Wh) (h : w.mag.length ≤ 1000000) : Sp 39 [dW w] [dW (wz (zv w))] := by
  refine sound_ 0 (whole_Norm_tree _ _) (wp_call (nat_Norm_sp w.mag h) ?_)
  simp only [getD_c0, dW_0, toBool_bool]
  exact wp_call (whole_signed_sp w.neg (nv w.mag)) (wp_ret rfl)
theorem u64_neg {z : Int} (h : z < 0) (h2 : -9223372036854775808 ≤ z) : IntKind.wrap .u64 (0 - IntKind.wrap .u64 z) = -z := by
  rw [IntKind.wrap_u64, IntKind.wrap_u64]; omega
theorem fdiv32 (x : Nat) : Int.fdiv (x : Int) (2 ^ (min (Int.toNat 32) (IntKind.bits .u64))) = ((x / 4294967296 : Nat) : Int) := by
  show Int.fdiv (x : Int) 4294967296 = _
  rw [Int.fdiv_eq_ediv_of_nonneg _ (by omega)]; omega
theorem whole_Of_sp (z : Int) (h : inR z) : Sp 29 [.int z] [dW (wz z)] := by
  unfold inR at h
  refine sound_ 0 (whole_Of_tree _ _) ?_
  simp only [toInt_int]
  have main : ∀ n : Nat, n < 18446744073709551616 → [D.int (IntKind.wrap .u32 (n : Int)), D.int (IntKind.wrap .u32 (Int.fdiv (n : Int) (2 ^ (min (Int.toNat 32) (IntKind.bits .u64)))))] = [BitVec.ofNat 32 (n % 4294967296), BitVec.ofNat 32 (n / 4294967296)].map dB := by
    intro n hn
    rw [fdiv32, wrapU32 (x := ((n / 4294967296 : Nat) : Int)) (by omega) (by omega), dB_ofNat (t := n / 4294967296) (by rw [B_eq]; omega), show IntKind.wrap .u32 (n : Int) = ((n % 4294967296 : Nat) : Int) by rw [IntKind.wrap_u32]; omega, dB_ofNat (t := n % 4294967296) (by rw [B_eq]; omega)]; rfl
  refine wp_decs (fun h0 => ?_) (fun h0 => ?_)
  · obtain ⟨n, hn⟩ : ∃ n : Nat, -z = n := ⟨(-z).toNat, by omega⟩
    rw [u64_neg h0 h.1, hn, main n (by omega)]
    simp only [h0, decide_true]
    have sp := nat_Norm_sp [BitVec.ofNat 32 (n % 4294967296), BitVec.ofNat 32 (n / 4294967296)] (by simp)
    rw [two_limbs (by omega)] at sp
    refine wp_dec (by omega) (wp_call sp ?_)
    simp only [getD_c0]
    refine wp_call (whole_signed_sp true n) (wp_ret ?_)
    simp only [getD_c0, if_true]
    rw [show -(n : Int) = z by omega]
  · obtain ⟨n, rfl⟩ : ∃ n : Nat, z = n := ⟨z.toNat, by omega⟩
    rw [wrapU64 (by omega) (by omega), main n (by omega)]
    simp only [h0, decide_false]
    have sp := nat_Norm_sp [BitVec.ofNat 32 (n % 4294967296), BitVec.ofNat 32 (n / 4294967296)] (by simp)
    rw [two_limbs (by omega)] at sp
    refine wp_dec (by omega) (wp_call sp ?_)
    simp only [getD_c0]
    exact wp_call (whole_signed_sp false n) (wp_ret rfl)
theorem or_limb {x d : Nat} (hx : x < 4294967296) (hd : d < 4294967296) : bits_ .or .u64 (x : Int) ((d * 4294967296 : Nat) : Int) = ((x + d * 4294967296 : Nat) : Int) := by
  have h := or_bits (BitVec.ofNat 64 x) (BitVec.ofNat 64 (d * 4294967296))
  rw [BitVec.toNat_or, BitVec.toNat_ofNat, BitVec.toNat_ofNat, Nat.mod_eq_of_lt (a := x) (by omega), Nat.mod_eq_of_lt (a := d * 4294967296) (by omega)] at h
  rw [h]
  congr 1
  have := Nat.two_pow_add_eq_or_of_lt (i := 32) (b := x) (by omega) d
  rw [show 2 ^ 32 * d = d * 4294967296 by omega] at this
  rw [Nat.or_comm, ← this]; omega
theorem whole_Small_sp (a : Wh) (ha : a.mag.length ≤ 1000000) : Sp 70 [dW a] (smallZ (zv a)) := by
  refine sound_ 10 (whole_Small_tree _ _) (wp_call (whole_Norm_sp a (by omega)) ?_)
  generalize zv a = z
  simp only [getD_c0, dW_0, dW_1, els_dL, List.length_map]
  refine wp_decs (fun h => wp_ret ?_) (fun h => ?_)
  · have : ¬ (lb z.natAbs).length ≤ 2 := by simp only [wz] at h; omega
    rw [lb_len] at this
    have : ¬ inR z := by
      intro hr
      apply this
      unfold inR at hr
      show z.natAbs < 18446744073709551616
      omega
    rw [smallZ, if_neg this]
  · have hl : (lb z.natAbs).length ≤ 2 := by simp only [wz] at h; omega
    have hlt : z.natAbs < 18446744073709551616 := lb_len.1 hl
    have fin : ∀ (m : Nat) (t : D) (k : Int), Tw (whole_Small_l6 10 (m + 1) (z.natAbs : Int) t k k (dW (wz z))) (smallZ z) := by
      intro m t k
      simp only [Tw, whole_Small_l6_succ, dW_0, toBool_bool, wz]
      refine wp_ndec (by omega) (wp_decs (fun hn => wp_decs (fun h2 => wp_ret ?_) (fun h2 => wp_ret ?_)) (fun hn => wp_decs (fun h2 => wp_ret ?_) (fun h2 => wp_ret ?_)))
      · rw [smallZ, if_neg]; unfold inR; omega
      · rw [smallZ, if_pos (by unfold inR; omega), IntKind.wrap_u64, IntKind.wrap_i64]
        congr 2
        omega
      · rw [smallZ, if_neg]; unfold inR; omega
      · rw [smallZ, if_pos (by unfold inR; omega), wrap64 (by omega) (by omega)]
        congr 2
        omega
    have one : ∀ (m : Nat) (l : List Limb) (t : Int) (k x : Nat) (d : Limb), k ≤ 1 → l[k]? = some d → (k : Int) < t → (k = 0 → x = 0) → x < 4294967296 → Tw (whole_Small_l6 10 m ((x + d.toNat * 4294967296 ^ k : Nat) : Int) (dL l) t ((k + 1 : Nat) : Int) (dW (wz z))) (smallZ z) → Tw (whole_Small_l6 10 (m + 1) (x : Int) (dL l) t (k : Int) (dW (wz z))) (smallZ z) := by
      intro m l t k x d hk hd ht hx hx2 hw
      have hkl : k < l.length := (List.getElem?_eq_some_iff.1 hd).1
      have hdl := limb_lt d
      rw [B_eq] at hdl
      simp only [Tw, whole_Small_l6_succ, els_dL, List.length_map, Int.toNat_natCast, getD_map hd, toInt_dB]
      rw [wrap64 (x := 32 * (k : Int)) (by omega) (by omega), wrapU64 (x := 32 * (k : Int)) (by omega) (by omega), wrapU64 (x := (d.toNat : Int)) (by omega) (by omega), wrap_succ (by omega)]
      refine wp_dec (by omega) (wp_dec (by omega) (wp_dec (by omega) (wp_dec (by omega) ?_)))
      have e : bits_ .or .u64 (x : Int) (IntKind.wrap .u64 ((d.toNat : Int) * 2 ^ (min (Int.toNat (32 * (k : Int))) (IntKind.bits .u64)))) = ((x + d.toNat * 4294967296 ^ k : Nat) : Int) := by
        rcases (by omega : k = 0 ∨ k = 1) with rfl | rfl
        · rw [hx rfl]
          show bits_ .or .u64 ((0 : Nat) : Int) (IntKind.wrap .u64 ((d.toNat : Int) * 1)) = _
          rw [Int.mul_one, wrapU64 (by omega) (by omega)]
          have := or_bits (0 : Lab) (BitVec.ofNat 64 d.toNat)
          rw [BitVec.toNat_or, BitVec.toNat_ofNat, Nat.mod_eq_of_lt (a := d.toNat) (by omega)] at this
          simpa using this
        · show bits_ .or .u64 (x : Int) (IntKind.wrap .u64 ((d.toNat : Int) * 4294967296)) = _
          rw [show (d.toNat : Int) * 4294967296 = ((d.toNat * 4294967296 : Nat) : Int) by omega, wrapU64 (by omega) (by omega), or_limb hx2 hdl]
          try simp
      rw [e]
      exact hw
    have hz0 : z.natAbs = nv (lb z.natAbs) := (nv_lb _).symm
    simp only [show (wz z).mag = lb z.natAbs from rfl]
    generalize hll : lb z.natAbs = ll at *
    match ll, hl with
    | [], _ =>
      have : z.natAbs = 0 := by simpa using hz0
      have hf := fin 9 (dL []) 0
      rw [this] at hf
      exact hf
    | [d], _ =>
      have : z.natAbs = d.toNat := by simpa [nv] using hz0
      refine one 9 [d] 1 0 0 d (by omega) rfl (by omega) (fun _ => rfl) (by omega) ?_
      have hf := fin 8 (dL [d]) 1
      rw [this] at hf
      simpa using hf
    | [d, e], _ =>
      have : z.natAbs = d.toNat + e.toNat * 4294967296 := by simp only [nv, nv_nil] at hz0; rw [B_eq] at hz0; omega
      have hdl := limb_lt d
      rw [B_eq] at hdl
      refine one 9 [d, e] 2 0 0 d (by omega) rfl (by omega) (fun _ => rfl) (by omega) ?_
      have := one 8 [d, e] 2 1 d.toNat e (by omega) rfl (by omega) (fun h => by omega) (by omega) (by
        have hf := fin 7 (dL [d, e]) 2
        rw [this] at hf
        simpa using hf)
      simpa using this
end Go.Proofs.Ytjmddikeadbmjaa
set_option maxRecDepth 100000
namespace Go.Proofs.Ytjmddikeadbmjaa

def numT (n : Num) : Int := zv ⟨n.neg, n.top⟩
def numB (n : Num) : Int := (nv n.bot : Int)
def ofZ (z : Int) : Num := ⟨decide (z < 0), lb z.natAbs, [1]⟩
def optI : Option Int → List D
  | some z => [.int z, .bool true]
  | none => [.int 0, .bool false]
def smO (z : Int) : Option Int := if inR z then some z else none
theorem smallZ_eq (z : Int) : smallZ z = optI (smO z) := by unfold smallZ smO; split <;> rfl
/-- A number as an int. -/
def smallN (n : Num) : Option Int := if n.bot = [1] then smO (numT n) else none
/-- In lowest terms; an error. -/
def mkR (p q : Int) : Num × Int :=
  if q = 0 then (.zero, 3)
  else if 32 < (lb (p.natAbs / Nat.gcd p.natAbs q.natAbs)).length ∨ 32 < (lb (q.natAbs / Nat.gcd p.natAbs q.natAbs)).length then (.zero, 7)
  else (⟨decide (0 < (lb (p.natAbs / Nat.gcd p.natAbs q.natAbs)).length) && !(decide (p < 0) == decide (q < 0)), lb (p.natAbs / Nat.gcd p.natAbs q.natAbs), lb (q.natAbs / Nat.gcd p.natAbs q.natAbs)⟩, 0)
def rightN (n : Num) : Bool := decide (n.top.length ≤ 32 ∧ n.bot.length ≤ 32 ∧ mkR (numT n) (numB n) = (n, 0))
theorem dN_zero : D.agg [.bool false, .sl [], .sl []] = dN .zero := rfl
theorem one_iff (l : List Limb) : (l = [1]) ↔ (l.length = 1 ∧ ∀ h : 0 < l.length, l[0].toNat = 1) := by
  constructor
  · rintro rfl; exact ⟨rfl, fun _ => rfl⟩
  · rintro ⟨h1, h2⟩
    match l, h1 with
    | [x], _ => have := h2 (by simp); simp at this; exact congrArg (· :: []) (BitVec.eq_of_toNat_eq (by simpa using this))
theorem one_tree {P : Program} {md : Nat → FMode} (l : List Limb) : (Tree.br (((l.map dB).length : Int) == 1) (.br (decide (0 ≤ (0 : Int))) (.br (decide (0 < ((l.map dB).length : Int))) (.ret [D.bool ((((l.map dB).getD (Int.toNat 0) D.nil).toInt) == 1)]) .fail) .fail) (.ret [D.bool false])).wp P md (fun zs => zs = [.bool (decide (l = [1]))]) := by
  simp only [List.length_map, int_beq]
  refine wp_decs (fun h => wp_dec (by omega) (wp_dec (by omega) (wp_ret ?_))) (fun h => wp_ret ?_)
  · have hg : l[0]? = some (l[0]'(by omega)) := List.getElem?_eq_getElem _
    rw [show Int.toNat 0 = 0 from rfl, getD_map hg, toInt_dB]
    congr 2
    rw [decide_eq_decide, one_iff]
    refine ⟨fun hh => ⟨by omega, fun _ => by omega⟩, fun hh => by have := hh.2 (by omega); omega⟩
  · rw [decide_eq_false]; rintro rfl; exact h rfl
theorem ratio_isOne_sp (l : List Limb) : Sp 65 [dL l] [.bool (decide (l = [1]))] := by
  refine sound_ 0 (ratio_isOne_tree _ _) ?_
  simp only [els_dL]
  exact one_tree l
theorem ref04_Whole_sp (w : Wh) (h : w.mag.length ≤ 1000000) : Sp 25 [dW w] [dN (ofZ (zv w))] := by
  refine sound_ 0 (ref04_Whole_tree _ _) (wp_call (ref03_Norm_sp w h) (wp_ret rfl))
theorem ref04_Of_sp (z : Int) (h : inR z) : Sp 15 [.int z] [dN (ofZ z)] := by
  refine sound_ 0 (ref04_Of_tree _ _) (wp_call (ref03_Of_sp z h) ?_)
  have hl : (wz z).mag.length ≤ 2 := lb_len.2 (by unfold inR at h; show z.natAbs < 18446744073709551616; omega)
  refine wp_call (ref04_Whole_sp (wz z) (by omega)) (wp_ret ?_)
  rw [zv_wz]; rfl
theorem ratio_top_sp (n : Num) : Sp 61 [dN n] [dW ⟨n.neg, n.top⟩] := sound_ 0 (ratio_top_tree _ _) (wp_ret rfl)
theorem ratio_Small_sp (n : Num) (h : n.top.length ≤ 1000000) : Sp 50 [dN n] (optI (smallN n)) := by
  refine sound_ 0 (ratio_Small_tree _ _) (wp_call (ratio_isOne_sp n.bot) ?_)
  simp only [getD_c0, toBool_bool, not_dec]
  unfold smallN
  refine wp_decs (fun h => wp_ret ?_) (fun h0 => ?_)
  · rw [if_neg h]; rfl
  · rw [if_pos (Classical.not_not.1 h0)]
    refine wp_call (ratio_top_sp n) (wp_call (whole_Small_sp ⟨n.neg, n.top⟩ h) ?_)
    rw [smallZ_eq, show zv ⟨n.neg, n.top⟩ = numT n from rfl]
    cases smO (numT n) <;> exact wp_ret rfl
/-- A whole number, if it is not too great. -/
def wholeN (z : Int) : Num := if 32 < (lb z.natAbs).length then .zero else ofZ z
theorem ratio_Whole_sp (w : Wh) (h : w.mag.length ≤ 1000000) : Sp 28 [dW w] [dN (wholeN (zv w))] := by
  refine sound_ 0 (ratio_Whole_tree _ _) (wp_call (whole_Norm_sp w h) ?_)
  simp only [getD_c0, dW_0, dW_1, els_dL, List.length_map, toBool_bool]
  unfold wholeN
  refine wp_decs (fun h => wp_ret ?_) (fun h => wp_ret ?_)
  · rw [if_pos (by simp only [wz] at h; omega)]; rfl
  · rw [if_neg (by simp only [wz] at h; omega)]; rfl
theorem ratio_Of_sp (z : Int) (h : inR z) : Sp 18 [.int z] [dN (ofZ z)] := by
  refine sound_ 0 (ratio_Of_tree _ _) (wp_call (whole_Of_sp z h) ?_)
  have hl : (wz z).mag.length ≤ 2 := lb_len.2 (by unfold inR at h; show z.natAbs < 18446744073709551616; omega)
  refine wp_call (ratio_Whole_sp (wz z) (by omega)) (wp_ret ?_)
  rw [zv_wz, wholeN, if_neg (by simp only [wz] at hl; omega)]; rfl
theorem num_eq (a b : Num) : (a = b) ↔ (a.neg = b.neg ∧ a.top = b.top ∧ a.bot = b.bot) := by
  cases a; cases b; simp
theorem ref04_Same_sp (a b : Num) (h1 : a.top.length ≤ 9223372036854775807) (h2 : a.bot.length ≤ 9223372036854775807) : Sp 14 [dN a, dN b] [.bool (decide (a = b))] := by
  refine sound_ 0 (ref04_Same_tree _ _ _) ?_
  simp only [dN_0, dN_1, dN_2, toBool_bool, bool_beq]
  refine wp_decs (fun e1 => wp_call (ref02_Same_sp a.top b.top h1) ?_) (fun e1 => wp_ret ?_)
  · simp only [getD_c0, toBool_bool]
    refine wp_decs (fun e2 => wp_call (ref02_Same_sp a.bot b.bot h2) (wp_ret ?_)) (fun e2 => wp_ret ?_)
    · simp only [getD_c0, toBool_bool]
      congr 2
      rw [decide_eq_decide, num_eq]; simp [e1, e2]
    · rw [decide_eq_false]; rintro rfl; exact e2 rfl
  · rw [decide_eq_false]; rintro rfl; exact e1 rfl
theorem slices_EqualI_sp (a b : List Int) (ha : a.length ≤ 9223372036854775807) : Sp 31 [dI a, dI b] [.bool (decide (a = b))] := by
  refine sound_ (a.length + 1) (slices_Equal_int_int_tree _ _ _) ?_
  simp only [els_dI, List.length_map, int_bne]
  refine wp_decs (fun h => wp_ret ?_) (fun h => ?_)
  · rw [decide_eq_false]; rintro rfl; exact h rfl
  · refine eq_loop D.int dint_inj a b (by omega) ha (fun m i => slices_Equal_int_int_l4 (a.length + 1) m (dI a) (dI b) (a.length : Int) i) (fun m i => ?_)
    rw [slices_Equal_int_int_l4_succ]
    simp only [els_dI, List.length_map]
end Go.Proofs.Ytjmddikeadbmjaa
set_option maxRecDepth 100000
namespace Go.Proofs.Ytjmddikeadbmjaa

theorem can_len {x k : Nat} (h : (lb x).length = k + 1) : B ^ k ≤ x := by
  rcases Nat.lt_or_ge x (B ^ k) with h1 | h1
  · have := lb_len.2 h1; omega
  · exact h1
theorem lb_of {r : List Limb} (h : ∀ k, r.length = k + 1 → B ^ k ≤ nv r) : lb (nv r) = r := by
  refine lb_can (fun hne hz => ?_)
  have hd := List.dropLast_concat_getLast hne
  have hl : 0 < r.length := List.length_pos_iff.2 hne
  have h1 := h (r.length - 1) (by omega)
  have e : nv r = nv r.dropLast := by
    have e2 := nv_snoc r.dropLast (r.getLast hne)
    rw [hd, hz, show (0 : Limb).toNat = 0 from rfl, Nat.mul_zero, Nat.add_zero] at e2
    exact e2
  have h2 := nv_lt r.dropLast
  rw [List.length_dropLast] at h2
  omega
theorem pre_get {α : Type} {pre l : List α} {k : Nat} (hp : pre.length = k) (hk : k < l.length) : (pre ++ l.drop k)[k]? = some l[k] := by
  rw [List.getElem?_append_right (by omega), hp, Nat.sub_self, List.getElem?_drop, Nat.add_zero, List.getElem?_eq_getElem hk]
theorem pre_set {α : Type} {pre l : List α} {k : Nat} (v : α) (hp : pre.length = k) (hk : k < l.length) : (pre ++ l.drop k).set k v = (pre ++ [v]) ++ l.drop (k + 1) := by
  rw [List.set_append_right _ _ (by omega), hp, Nat.sub_self, List.drop_eq_getElem_cons hk, List.set_cons_zero]; simp
theorem map_set {α : Type} {f : α → D} {l : List α} {k : Nat} {v : α} : (l.map f).set k (f v) = (l.set k v).map f := by rw [List.map_set]
theorem nv_set (l : List Limb) (i : Nat) (hi : i < l.length) (v : Limb) : nv (l.set i v) + B ^ i * (l[i]).toNat = nv l + B ^ i * v.toNat := by
  induction l generalizing i with
  | nil => simp at hi
  | cons y l ih =>
    cases i with
    | zero => simp [nv]; omega
    | succ i =>
      have hi' : i < l.length := by simpa using hi
      have := ih i hi'
      simp only [List.set_cons_succ, nv, List.getElem_cons_succ, Nat.pow_succ]
      have h2 := congrArg (fun n => B * n) this
      simp only [Nat.mul_add] at h2
      rw [show B ^ i * B * (l[i]).toNat = B * (B ^ i * (l[i]).toNat) by rw [Nat.mul_comm (B ^ i) B, Nat.mul_assoc], show B ^ i * B * v.toNat = B * (B ^ i * v.toNat) by rw [Nat.mul_comm (B ^ i) B, Nat.mul_assoc]]
      omega
theorem bits32 {X Y : Nat} (hX : X < 4294967296) (hY : Y < 4294967296) : bits_ .xor .u32 (X : Int) (Y : Int) = ((X ^^^ Y : Nat) : Int) ∧ bits_ .and .u32 (X : Int) (Y : Int) = ((X &&& Y : Nat) : Int) ∧ bits_ .or .u32 (X : Int) (Y : Int) = ((X ||| Y : Nat) : Int) := by
  have b : IntKind.bits .u32 = 32 := rfl
  have e1 : (X ^^^ Y) < 2 ^ 32 := Nat.xor_lt_two_pow (by omega) (by omega)
  have e2 : (X &&& Y) < 2 ^ 32 := Nat.and_lt_two_pow _ (by omega)
  have e3 : (X ||| Y) < 2 ^ 32 := Nat.or_lt_two_pow (by omega) (by omega)
  simp only [bits_, b, BitVec.ofInt_natCast, BitVec.toNat_xor, BitVec.toNat_and, BitVec.toNat_or, BitVec.toNat_ofNat, Nat.mod_eq_of_lt (show X < 2 ^ 32 by omega), Nat.mod_eq_of_lt (show Y < 2 ^ 32 by omega)]
  exact ⟨wrapU32 (by omega) (by omega), wrapU32 (by omega) (by omega), wrapU32 (by omega) (by omega)⟩
theorem top_bit (n : Nat) (h : n < 4294967296) : n.testBit 31 = decide (2147483648 ≤ n) := by
  rw [Nat.testBit_eq_decide_div_mod_eq]
  have : n / 2 ^ 31 % 2 = 1 ↔ 2147483648 ≤ n := by omega
  simp only [this]
theorem sub_nat (X Y D c : Nat) (hX : X < 4294967296) (hY : Y < 4294967296) (hc : c ≤ 1) (hD : (D : Int) = ((X : Int) - Y - c) % 4294967296) :
    ((((4294967295 ^^^ X) &&& Y) ||| ((4294967295 ^^^ (X ^^^ Y)) &&& D) : Nat) : Int) / 2147483648 = if X < Y + c then 1 else 0 := by
  have hDl : D < 4294967296 := by omega
  have hN : (((4294967295 ^^^ X) &&& Y) ||| ((4294967295 ^^^ (X ^^^ Y)) &&& D)) < 2 ^ 32 :=
    Nat.or_lt_two_pow (Nat.and_lt_two_pow _ (by omega)) (Nat.and_lt_two_pow _ (by omega))
  have ht := top_bit _ (show _ < 4294967296 from hN)
  rw [Nat.testBit_or, Nat.testBit_and, Nat.testBit_and, Nat.testBit_xor, Nat.testBit_xor, Nat.testBit_xor, top_bit X hX, top_bit Y hY, top_bit D hDl, show Nat.testBit 4294967295 31 = true by decide] at ht
  generalize (((4294967295 ^^^ X) &&& Y) ||| ((4294967295 ^^^ (X ^^^ Y)) &&& D)) = N at *
  by_cases h1 : 2147483648 ≤ X <;> by_cases h2 : 2147483648 ≤ Y <;> by_cases h3 : 2147483648 ≤ D <;> simp [h1, h2, h3] at ht <;> split <;> omega
theorem bits_Add32_sp (x y c : Nat) (hx : x < B) (hy : y < B) (hc : c ≤ 1) : Sp 82 [.int (x : Int), .int (y : Int), .int (c : Int)] [.int (((x + y + c) % B : Nat) : Int), .int (((x + y + c) / B : Nat) : Int)] := by
  rw [B_eq] at *
  refine sound_ 0 (bits_Add32_tree _ _ _ _) (wp_tt (by decide) (wp_ret ?_))
  simp only [toInt_int]
  have t1 : IntKind.wrap .u64 (IntKind.wrap .u64 (IntKind.wrap .u64 (x : Int) + IntKind.wrap .u64 (y : Int)) + IntKind.wrap .u64 (c : Int)) = ((x + y + c : Nat) : Int) := by
    rw [wrapU64 (x := (x : Int)) (by omega) (by omega), wrapU64 (x := (y : Int)) (by omega) (by omega), wrapU64 (x := (c : Int)) (by omega) (by omega), wrapU64 (x := (x : Int) + y) (by omega) (by omega), wrapU64 (by omega) (by omega)]; omega
  rw [t1, fdiv32, wrapU32 (x := (((x + y + c) / 4294967296 : Nat) : Int)) (by omega) (by omega)]
  have t2 : IntKind.wrap .u32 ((x + y + c : Nat) : Int) = (((x + y + c) % 4294967296 : Nat) : Int) := by rw [IntKind.wrap_u32]; omega
  rw [t2]
theorem bits_Sub32_sp (x y c : Nat) (hx : x < B) (hy : y < B) (hc : c ≤ 1) (z c' : Nat) (hz : z < B) (hc' : c' ≤ 1) (e : x + B * c' = z + y + c) : Sp 83 [.int (x : Int), .int (y : Int), .int (c : Int)] [.int (z : Int), .int (c' : Int)] := by
  rw [B_eq] at *
  refine sound_ 0 (bits_Sub32_tree _ _ _ _) (wp_tt (by decide) (wp_ret ?_))
  simp only [toInt_int]
  have t1 : IntKind.wrap .u32 (IntKind.wrap .u32 ((x : Int) - (y : Int)) - (c : Int)) = (z : Int) := by rw [IntKind.wrap_u32, IntKind.wrap_u32]; omega
  have hm : IntKind.max .u32 = ((4294967295 : Nat) : Int) := by decide
  have e1 : (4294967295 ^^^ x) < 2 ^ 32 := Nat.xor_lt_two_pow (by omega) (by omega)
  have e2 : (x ^^^ y) < 2 ^ 32 := Nat.xor_lt_two_pow (by omega) (by omega)
  have e3 : (4294967295 ^^^ (x ^^^ y)) < 2 ^ 32 := Nat.xor_lt_two_pow (by omega) e2
  have e4 : ((4294967295 ^^^ x) &&& y) < 2 ^ 32 := Nat.and_lt_two_pow _ (by omega)
  have e5 : ((4294967295 ^^^ (x ^^^ y)) &&& z) < 2 ^ 32 := Nat.and_lt_two_pow _ (by omega)
  have hs := sub_nat x y z c (by omega) (by omega) hc (by omega)
  rw [t1, hm, (bits32 (X := 4294967295) (Y := x) (by omega) (by omega)).1, (bits32 (X := x) (Y := y) (by omega) (by omega)).1, (bits32 (X := 4294967295) (Y := x ^^^ y) (by omega) (by omega)).1, (bits32 (X := 4294967295 ^^^ x) (Y := y) (by omega) (by omega)).2.1, (bits32 (X := 4294967295 ^^^ (x ^^^ y)) (Y := z) (by omega) (by omega)).2.1, (bits32 (by omega) (by omega)).2.2]
  have t3 : ∀ q : Nat, Int.fdiv (q : Int) (2 ^ (min (Int.toNat 31) (IntKind.bits .u32))) = (q : Int) / 2147483648 := fun q => by
    rw [show (2 : Int) ^ (min (Int.toNat 31) (IntKind.bits .u32)) = 2147483648 by decide, Int.fdiv_eq_ediv_of_nonneg _ (by omega)]
  rw [t3, hs]
  congr 2
  split <;> congr 1 <;> omega
theorem nat_Cmp_sp (a b : List Limb) (ha : a.length ≤ 1000000) (hb : b.length ≤ 1000000) : Sp 78 [dL a, dL b] [.int (cmpN (nv a) (nv b))] := by
  refine sound_ (a.length + 1) (nat_Cmp_tree _ _ _) (wp_call (nat_trim_sp a (by omega)) (wp_call (nat_trim_sp b (by omega)) ?_))
  have la : (lb (nv a)).length ≤ a.length := lb_len.2 (nv_lt a)
  have lb_ : (lb (nv b)).length ≤ b.length := lb_len.2 (nv_lt b)
  simp only [getD_c0, els_dL, List.length_map]
  refine wp_decs (fun h => wp_ret ?_) (fun h => wp_decs (fun h' => wp_ret ?_) (fun h' => ?_))
  · have h1 : nv a < nv b := by
      have e1 : nv a < B ^ (lb (nv a)).length := lb_len.1 (Nat.le_refl _)
      rcases Nat.lt_or_ge (nv b) (B ^ (lb (nv a)).length) with h2 | h2
      · have := lb_len.2 h2; omega
      · omega
    rw [cmpN, if_pos h1]
  · have h1 : nv b < nv a := by
      have e1 : nv b < B ^ (lb (nv b)).length := lb_len.1 (Nat.le_refl _)
      rcases Nat.lt_or_ge (nv a) (B ^ (lb (nv b)).length) with h2 | h2
      · have := lb_len.2 h2; omega
      · omega
    rw [cmpN, if_neg (by omega), if_neg (by omega)]
  · have hl : (lb (nv b)).length = (lb (nv a)).length := by omega
    have key := loop_down (P := Try.prog) (md := md) (fun m k (_ : Unit) => nat_Cmp_l7 (a.length + 1) m (dL (lb (nv a))) (dL (lb (nv b))) ((k : Int) - 1)) (fun _ _ => [.int (cmpN (nv a) (nv b))]) (fun k _ => k ≤ (lb (nv a)).length ∧ nv a / B ^ k = nv b / B ^ k)
      (fun m s ⟨_, h⟩ => by
        simp only [nat_Cmp_l7_succ]
        refine wp_ndec (by omega) (wp_ret ?_)
        simp at h
        simp [cmpN, h])
      (fun m k s ⟨h0, h⟩ ih => by
        have g1 := nv_limb (lb (nv a)) k (by omega)
        have g2 := nv_limb (lb (nv b)) k (by omega)
        rw [nv_lb] at g1 g2
        have ga : ((lb (nv a)).map dB).getD k D.nil = D.int ((nv a / B ^ k % B : Nat) : Int) := by rw [getD_map (List.getElem?_eq_getElem (show k < (lb (nv a)).length by omega)), ← g1]; rfl
        have gb : ((lb (nv b)).map dB).getD k D.nil = D.int ((nv b / B ^ k % B : Nat) : Int) := by rw [getD_map (List.getElem?_eq_getElem (show k < (lb (nv b)).length by omega)), ← g2]; rfl
        simp only [nat_Cmp_l7_succ, show ((k + 1 : Nat) : Int) - 1 = (k : Int) by omega, dA_0, dA_1, dA_2, dC_0, dC_1, dC_2, dC_3, dC_4, dN_0, dN_1, dN_2, els_sl, els_dI, els_dL, List.length_map, Int.toNat_natCast, toInt_int, toInt_dB, toBool_bool, getD_c0, getD_c1, int_beq, int_bne, not_dec, dInt_dB, Int.toNat_zero, ga, gb]
        have ea := Nat.div_add_mod (nv a / B ^ k) B
        have eb := Nat.div_add_mod (nv b / B ^ k) B
        rw [Nat.div_div_eq_div_mul, ← Nat.pow_succ] at ea eb
        rw [h] at ea
        generalize B * (nv b / B ^ (k + 1)) = q at ea eb
        refine wp_dec (by omega) (wp_dec (by omega) (wp_dec (by omega) (wp_dec (by omega) (wp_dec (by omega) (wp_decs (fun h' => wp_ret ?_) (fun h' => wp_dec (by omega) (wp_dec (by omega) (wp_dec (by omega) (wp_dec (by omega) (wp_decs (fun h2 => wp_ret ?_) (fun h2 => ?_)))))))))))
        · have hlt := lt_of_div (show nv a / B ^ k < nv b / B ^ k by omega)
          simp only [cmpN]; rw [if_pos hlt]
        · have hlt := lt_of_div (show nv b / B ^ k < nv a / B ^ k by omega)
          simp only [cmpN]; rw [if_neg (by omega), if_neg (by omega)]
        · rw [wrap64 (by omega) (by omega)]
          exact ih () ⟨by omega, by omega⟩)
      (a.length + 1) (lb (nv a)).length () (by omega) ⟨by omega, by
        rw [Nat.div_eq_of_lt (lb_len.1 (Nat.le_refl _)), Nat.div_eq_of_lt (lb_len.1 (by omega))]⟩
    rw [wrap64 (by omega) (by omega)]
    exact key
theorem nat_Add_loop (x y N : Nat) (hA : (lb x).length ≤ 100000) (hb : (lb y).length ≤ (lb x).length) (hN : (lb x).length < N) : Tw (nat_Add_l8 N N (dL (lb y)) ((lb x).map dB) 0 ((lb x).length : Int) 0) [dL (lb (x + y))] := by
  have hx : x < B ^ (lb x).length := lb_len.1 (Nat.le_refl _)
  have hy : y < B ^ (lb x).length := lb_len.1 hb
  have key := loop_up (P := Try.prog) (md := md) (lb x).length (fun m k (s : List Limb × Nat) => nat_Add_l8 N m (dL (lb y)) ((s.1 ++ (lb x).drop k).map dB) (s.2 : Int) ((lb x).length : Int) (k : Int)) (fun _ _ => [dL (lb (x + y))])
    (fun k s => s.1.length = k ∧ nv s.1 = (x + y) % B ^ k ∧ s.2 = (x % B ^ k + y % B ^ k) / B ^ k)
    (fun m s ⟨h1, h2, h3⟩ => by
      simp only [nat_Add_l8_succ, List.drop_length, List.append_nil, dA_0, dA_1, dA_2, dC_0, dC_1, dC_2, dC_3, dC_4, dN_0, dN_1, dN_2, els_sl, els_dI, els_dL, List.length_map, Int.toNat_natCast, toInt_int, toInt_dB, toBool_bool, getD_c0, getD_c1, int_beq, int_bne, not_dec, dInt_dB, Int.toNat_zero]
      rw [Nat.mod_eq_of_lt hx, Nat.mod_eq_of_lt hy] at h3
      have hs : x + y = nv s.1 + B ^ (lb x).length * s.2 := by rw [h2, h3]; exact (Nat.mod_add_div _ _).symm
      have hc : s.2 ≤ 1 := by
        have : s.2 < 2 := by rw [h3, Nat.div_lt_iff_lt_mul (Bp _)]; omega
        omega
      refine wp_ndec (by omega) (wp_decs (fun h0 => wp_dec (by simp only [List.length_cons, List.length_nil, bigN]; omega) (wp_ret ?_)) (fun h0 => wp_ret ?_))
      · have e1 : s.2 = 1 := by omega
        rw [hs, e1]
        have e2 : nv (s.1 ++ [1]) = nv s.1 + B ^ (lb x).length * 1 := by rw [nv_snoc, h1]; rfl
        rw [← e2, lb_of (r := s.1 ++ [1]) (fun k hk => by
          rw [e2]
          have : k = (lb x).length := by simp at hk; omega
          rw [this]; omega)]
        simp [dL, dB]
      · have e1 : s.2 = 0 := by omega
        rw [e1, Nat.mul_zero, Nat.add_zero] at hs
        rw [hs, lb_of (r := s.1) (fun k hk => by rw [← hs]; have := can_len (x := x) (k := k) (by omega); omega)]; rfl)
    (fun m k s hk ⟨h1, h2, h3⟩ ih => by
      have hd := add_digit x y k
      have hc := add_carry x y k
      have la := Nat.mod_lt (x / B ^ k) B_pos
      have lb' := Nat.mod_lt (y / B ^ k) B_pos
      have lc : s.2 ≤ 1 := by
        rw [h3]
        have r1 := Nat.mod_lt x (Bp k)
        have r2 := Nat.mod_lt y (Bp k)
        have : (x % B ^ k + y % B ^ k) / B ^ k < 2 := by rw [Nat.div_lt_iff_lt_mul (Bp k)]; omega
        omega
      have hlen : (s.1 ++ (lb x).drop k).length = (lb x).length := by simp [h1]; omega
      have gx := nv_limb (lb x) k hk
      rw [nv_lb] at gx
      have hget : ((s.1 ++ (lb x).drop k).map dB).getD k D.nil = D.int ((x / B ^ k % B : Nat) : Int) := by rw [getD_map (pre_get h1 hk), ← gx]; rfl
      have hm := Nat.mod_lt (x / B ^ k % B + y / B ^ k % B + s.2) B_pos
      have hset : ((s.1 ++ (lb x).drop k).map dB).set k (D.int (((x / B ^ k % B + y / B ^ k % B + s.2) % B : Nat) : Int)) = ((s.1 ++ [BitVec.ofNat 32 ((x / B ^ k % B + y / B ^ k % B + s.2) % B)]) ++ (lb x).drop (k + 1)).map dB := by
        rw [dB_ofNat hm, map_set, pre_set _ h1 hk]
      have go := ih (s.1 ++ [BitVec.ofNat 32 ((x / B ^ k % B + y / B ^ k % B + s.2) % B)], (x / B ^ k % B + y / B ^ k % B + s.2) / B) ⟨by simp [h1], nv_step h1 h2 (by rw [ofNat_lt hm, hd, h3]), by rw [hc, h3]⟩
      simp only [nat_Add_l8_succ, dA_0, dA_1, dA_2, dC_0, dC_1, dC_2, dC_3, dC_4, dN_0, dN_1, dN_2, els_sl, els_dI, els_dL, List.length_map, Int.toNat_natCast, toInt_int, toInt_dB, toBool_bool, getD_c0, getD_c1, int_beq, int_bne, not_dec, dInt_dB, Int.toNat_zero, hget, hlen, wrap_succ (show k < 9223372036854775807 by omega)]
      refine wp_dec (by omega) (wp_decs (fun hb' => ?_) (fun hb' => ?_))
      · have gy := nv_limb (lb y) k (by omega)
        rw [nv_lb] at gy
        rw [getD_map (List.getElem?_eq_getElem (show k < (lb y).length by omega)), toInt_dB, gy]
        refine wp_dec (by omega) (wp_dec (by omega) (wp_dec (by omega) (wp_dec (by omega) (wp_call (bits_Add32_sp _ _ s.2 la lb' lc) (wp_dec (by omega) (wp_dec (by omega) ?_))))))
        simp only [getD_c0, getD_c1, toInt_int, hset]
        exact go
      · have gy := nv_limb' (lb y) k (by omega)
        rw [nv_lb] at gy
        refine wp_decs (fun h0 => wp_ndec (by omega) (wp_ret ?_)) (fun h0 => ?_)
        · have e0 : s.2 = 0 := by omega
          rw [e0] at h3
          have hyk : y < B ^ k := lb_len.1 (by omega)
          rw [Nat.mod_eq_of_lt hyk] at h3
          have hsum : x % B ^ k + y < B ^ k := by
            rcases Nat.lt_or_ge (x % B ^ k + y) (B ^ k) with h | h
            · exact h
            · have := Nat.div_pos h (Bp k); omega
          have e1 : nv s.1 = x % B ^ k + y := by rw [h2, Nat.add_mod, Nat.mod_eq_of_lt hyk, Nat.mod_eq_of_lt hsum]
          have hs : nv (s.1 ++ (lb x).drop k) = x + y := by
            rw [nv_append, h1, nv_drop, nv_lb, e1]
            have := Nat.mod_add_div x (B ^ k)
            omega
          rw [← hs, lb_of (fun j hj => by rw [hs]; have := can_len (x := x) (k := j) (by omega); omega)]; rfl
        · rw [gy] at hset go lb'
          refine wp_dec (by omega) (wp_dec (by omega) (wp_call (bits_Add32_sp _ 0 s.2 la B_pos lc) (wp_dec (by omega) (wp_dec (by omega) ?_))))
          simp only [getD_c0, getD_c1, toInt_int, hset]
          exact go)
    N 0 ([], 0) (by omega) (by omega) ⟨rfl, by simp [Nat.mod_one], by simp [Nat.mod_one]⟩
  exact key
theorem copy_all (l : List D) : l.take (List.replicate l.length (D.int 0)).length ++ (List.replicate l.length (D.int 0)).drop l.length = l := by simp
theorem nat_Add_sp (a b : List Limb) (ha : a.length ≤ 100000) (hb : b.length ≤ 100000) : Sp 74 [dL a, dL b] [dL (lb (nv a + nv b))] := by
  refine sound_ 100001 (nat_Add_tree _ _ _) (wp_call (nat_trim_sp a (by omega)) (wp_call (nat_trim_sp b (by omega)) ?_))
  have la : (lb (nv a)).length ≤ a.length := lb_len.2 (nv_lt a)
  have lb_ : (lb (nv b)).length ≤ b.length := lb_len.2 (nv_lt b)
  have c1 := copy_all ((lb (nv a)).map dB)
  have c2 := copy_all ((lb (nv b)).map dB)
  simp only [List.length_map] at c1 c2
  simp only [getD_c0, els_dL, List.length_map, Int.toNat_natCast, c1, c2]
  refine wp_decs (fun h => ?_) (fun h => ?_)
  · rw [wrap64 (by omega) (by omega)]
    refine wp_dec (by omega) (wp_dec (by omega) (wp_dec (by simp only [bigN]; omega) ?_))
    rw [Nat.add_comm (nv a)]
    exact nat_Add_loop (nv b) (nv a) 100001 (by omega) (by omega) (by omega)
  · rw [wrap64 (by omega) (by omega)]
    refine wp_dec (by omega) (wp_dec (by omega) (wp_dec (by simp only [bigN]; omega) ?_))
    exact nat_Add_loop (nv a) (nv b) 100001 (by omega) (by omega) (by omega)
theorem nat_Sub_sp (a b : List Limb) (ha : a.length ≤ 100000) (hb : b.length ≤ 100000) : Sp 75 [dL a, dL b] [dL (lb (nv a - nv b)), .bool (decide (nv b ≤ nv a))] := by
  refine sound_ 100001 (nat_Sub_tree _ _ _) (wp_call (nat_Cmp_sp a b (by omega) (by omega)) ?_)
  simp only [getD_c0, toInt_int]
  refine wp_decs (fun h => wp_ret ?_) (fun h => wp_call (nat_Norm_sp a (by omega)) (wp_call (nat_trim_sp b (by omega)) ?_))
  · have hlt : nv a < nv b := by
      unfold cmpN at h
      rcases Nat.lt_or_ge (nv a) (nv b) with h1 | h1
      · exact h1
      · rw [if_neg (by omega)] at h; split at h <;> omega
    rw [Nat.sub_eq_zero_of_le (by omega), lb_zero, decide_eq_false (by omega)]; rfl
  have hge : nv b ≤ nv a := by
    unfold cmpN at h
    rcases Nat.lt_or_ge (nv a) (nv b) with h1 | h1
    · rw [if_pos h1] at h; omega
    · exact h1
  rw [decide_eq_true hge]
  have la : (lb (nv a)).length ≤ a.length := lb_len.2 (nv_lt a)
  have lb_ : (lb (nv b)).length ≤ (lb (nv a)).length := lb_len.2 (by have := lb_len.1 (Nat.le_refl (lb (nv a)).length); omega)
  simp only [getD_c0, els_dL, List.length_map]
  generalize nv a = x at *
  generalize nv b = y at *
  have hx : x < B ^ (lb x).length := lb_len.1 (Nat.le_refl _)
  have fin : ∀ l : List Limb, l.length ≤ 100000 → nv l = x - y → Tw (.call 58 [] [D.sl (l.map dB)] fun yy5 => .ret [yy5.getD 0 D.nil, D.bool true]) [dL (lb (x - y)), .bool true] := fun l hl he => wp_call (nat_trim_sp l (by omega)) (wp_ret (by rw [he]; rfl))
  have key := loop_up (P := Try.prog) (md := md) (lb x).length (fun m k (s : List Limb × Nat) => nat_Sub_l6 100001 m (dL (lb y)) ((s.1 ++ (lb x).drop k).map dB) (s.2 : Int) ((lb x).length : Int) (k : Int)) (fun _ _ => [dL (lb (x - y)), .bool true])
    (fun k s => s.1.length = k ∧ nv s.1 = (x - y) % B ^ k ∧ s.2 = ((x - y) % B ^ k + y % B ^ k) / B ^ k)
    (fun m s ⟨h1, h2, h3⟩ => by
      simp only [nat_Sub_l6_succ, List.drop_length, List.append_nil, dA_0, dA_1, dA_2, dC_0, dC_1, dC_2, dC_3, dC_4, dN_0, dN_1, dN_2, els_sl, els_dI, els_dL, List.length_map, Int.toNat_natCast, toInt_int, toInt_dB, toBool_bool, getD_c0, getD_c1, int_beq, int_bne, not_dec, dInt_dB, Int.toNat_zero]
      refine wp_ndec (by omega) (fin s.1 (by omega) ?_)
      rw [h2, Nat.mod_eq_of_lt (by omega)])
    (fun m k s hk ⟨h1, h2, h3⟩ ih => by
      obtain ⟨zi, c, c', e1, e2, e3, e4, e5⟩ := sub_digit hge k
      have la := Nat.mod_lt (x / B ^ k) B_pos
      have lb' := Nat.mod_lt (y / B ^ k) B_pos
      have lz := Nat.mod_lt ((x - y) / B ^ k) B_pos
      rw [← e1] at lz
      rw [← e2] at h3
      have lc : c ≤ 1 := by
        rw [e2]
        have r1 := Nat.mod_lt (x - y) (Bp k)
        have r2 := Nat.mod_lt y (Bp k)
        have : ((x - y) % B ^ k + y % B ^ k) / B ^ k < 2 := by rw [Nat.div_lt_iff_lt_mul (Bp k)]; omega
        omega
      have hlen : (s.1 ++ (lb x).drop k).length = (lb x).length := by simp [h1]; omega
      have gx := nv_limb (lb x) k hk
      rw [nv_lb] at gx
      have hget : ((s.1 ++ (lb x).drop k).map dB).getD k D.nil = D.int ((x / B ^ k % B : Nat) : Int) := by rw [getD_map (pre_get h1 hk), ← gx]; rfl
      have hset : ((s.1 ++ (lb x).drop k).map dB).set k (D.int (zi : Int)) = ((s.1 ++ [BitVec.ofNat 32 zi]) ++ (lb x).drop (k + 1)).map dB := by
        rw [dB_ofNat lz, map_set, pre_set _ h1 hk]
      have go := ih (s.1 ++ [BitVec.ofNat 32 zi], c') ⟨by simp [h1], nv_step h1 h2 (by rw [ofNat_lt lz, e1]), e3⟩
      simp only [nat_Sub_l6_succ, dA_0, dA_1, dA_2, dC_0, dC_1, dC_2, dC_3, dC_4, dN_0, dN_1, dN_2, els_sl, els_dI, els_dL, List.length_map, Int.toNat_natCast, toInt_int, toInt_dB, toBool_bool, getD_c0, getD_c1, int_beq, int_bne, not_dec, dInt_dB, Int.toNat_zero, hget, hlen, wrap_succ (show k < 9223372036854775807 by omega), h3]
      refine wp_dec (by omega) (wp_decs (fun hb' => ?_) (fun hb' => ?_))
      · have gy := nv_limb (lb y) k (by omega)
        rw [nv_lb] at gy
        rw [getD_map (List.getElem?_eq_getElem (show k < (lb y).length by omega)), toInt_dB, gy]
        refine wp_dec (by omega) (wp_dec (by omega) (wp_dec (by omega) (wp_dec (by omega) (wp_call (bits_Sub32_sp _ _ c la lb' lc zi c' lz e4 e5) (wp_dec (by omega) (wp_dec (by omega) ?_))))))
        simp only [getD_c0, getD_c1, toInt_int, hset]
        exact go
      · have gy := nv_limb' (lb y) k (by omega)
        rw [nv_lb] at gy
        refine wp_decs (fun h0 => ?_) (fun h0 => ?_)
        · have e0 : c = 0 := by omega
          rw [e0] at e2
          have hyk : y < B ^ k := lb_len.1 (by omega)
          rw [Nat.mod_eq_of_lt hyk] at e2
          have hsum : (x - y) % B ^ k + y < B ^ k := by
            rcases Nat.lt_or_ge ((x - y) % B ^ k + y) (B ^ k) with h | h
            · exact h
            · have := Nat.div_pos h (Bp k); omega
          have q1 := Nat.mod_add_div (x - y) (B ^ k)
          have q2 : x = ((x - y) % B ^ k + y) + B ^ k * ((x - y) / B ^ k) := by omega
          have q3 : x / B ^ k = (x - y) / B ^ k := by
            have : x / B ^ k = (((x - y) % B ^ k + y) + B ^ k * ((x - y) / B ^ k)) / B ^ k := by rw [← q2]
            rw [this, Nat.add_mul_div_left _ _ (Bp k), Nat.div_eq_of_lt hsum, Nat.zero_add]
          refine fin _ (by rw [hlen]; omega) ?_
          rw [nv_append, h1, nv_drop, nv_lb, h2, q3]; exact q1
        · rw [gy] at e5
          refine wp_dec (by omega) (wp_dec (by omega) (wp_call (bits_Sub32_sp _ 0 c la B_pos lc zi c' lz e4 e5) (wp_dec (by omega) (wp_dec (by omega) ?_))))
          simp only [getD_c0, getD_c1, toInt_int, hset]
          exact go)
    100001 0 ([], 0) (by omega) (by omega) ⟨rfl, by simp [Nat.mod_one], by simp [Nat.mod_one]⟩
  exact key
end Go.Proofs.Ytjmddikeadbmjaa
set_option maxRecDepth 100000
namespace Go.Proofs.Ytjmddikeadbmjaa

theorem mul_bound {x y o c : Nat} (hx : x < B) (hy : y < B) (ho : o < B) (hc : c < B) : x * y + o + c < 18446744073709551616 ∧ x * y < 18446744073709551616 ∧ x * y + o < 18446744073709551616 := by
  have h1 : x * y ≤ (B - 1) * (B - 1) := Nat.mul_le_mul (by omega) (by omega)
  rw [B_eq] at *
  omega
theorem nat_Mul_sp (a b : List Limb) (ha : a.length ≤ 100000) (hb : b.length ≤ 100000) : Sp 76 [dL a, dL b] [dL (lb (nv a * nv b))] := by
  refine sound_ 100001 (nat_Mul_tree _ _ _) (wp_call (nat_trim_sp a (by omega)) (wp_call (nat_trim_sp b (by omega)) ?_))
  have la : (lb (nv a)).length ≤ a.length := lb_len.2 (nv_lt a)
  have lb_ : (lb (nv b)).length ≤ b.length := lb_len.2 (nv_lt b)
  simp only [getD_c0, els_dL, List.length_map, int_beq]
  generalize nv a = x at *
  generalize nv b = y at *
  refine wp_decs (fun h => wp_ret ?_) (fun h => wp_decs (fun h' => wp_ret ?_) (fun h' => ?_))
  · have : x = 0 := lb_len0.1 (by omega)
    rw [this, Nat.zero_mul, lb_zero]; rfl
  · have : y = 0 := lb_len0.1 (by omega)
    rw [this, Nat.mul_zero, lb_zero]; rfl
  have hm : (lb y).length = (lb y).length := rfl
  generalize hmm : (lb y).length = mm at *
  rw [wrap64 (by omega) (by omega)]
  refine wp_dec (by omega) (wp_dec (by omega) (wp_dec (by simp only [bigN]; omega) ?_))
  have hyB : y < B ^ mm := lb_len.1 (by omega)
  have hxB : x < B ^ (lb x).length := lb_len.1 (Nat.le_refl _)
  rw [show ((lb x).length : Int) + (mm : Int) = (((lb x).length + mm : Nat) : Int) by omega, Int.toNat_natCast]
  have key := loop_up (P := Try.prog) (md := md) (lb x).length (fun m i (lo : List Limb) => nat_Mul_l6 100001 m (dL (lb y)) ((lo ++ List.replicate ((lb x).length - i) 0).map dB) (dL (lb x)) ((lb x).length : Int) (i : Int)) (fun _ _ => [dL (lb (x * y))])
    (fun i lo => lo.length = i + mm ∧ nv lo = (x % B ^ i) * y)
    (fun m lo ⟨h1, h2⟩ => by
      simp only [nat_Mul_l6_succ, Nat.sub_self, List.replicate_zero, List.append_nil, dA_0, dA_1, dA_2, dC_0, dC_1, dC_2, dC_3, dC_4, dN_0, dN_1, dN_2, els_sl, els_dI, els_dL, List.length_map, Int.toNat_natCast, toInt_int, toInt_dB, toBool_bool, getD_c0, getD_c1, int_beq, int_bne, not_dec, dInt_dB, Int.toNat_zero]
      refine wp_ndec (by omega) (wp_call (nat_trim_sp lo (by omega)) (wp_ret ?_))
      rw [h2, Nat.mod_eq_of_lt hxB]; rfl)
    (fun m i lo hi ⟨h1, h2⟩ ih => by
      have gx := nv_limb (lb x) i hi
      rw [nv_lb] at gx
      have xl : x / B ^ i % B < B := Nat.mod_lt _ B_pos
      have gX : ((lb x).map dB).getD i D.nil = D.int ((x / B ^ i % B : Nat) : Int) := by rw [getD_map (List.getElem?_eq_getElem hi), ← gx]; rfl
      simp only [nat_Mul_l6_succ, dA_0, dA_1, dA_2, dC_0, dC_1, dC_2, dC_3, dC_4, dN_0, dN_1, dN_2, els_sl, els_dI, els_dL, List.length_map, Int.toNat_natCast, toInt_int, toInt_dB, toBool_bool, getD_c0, getD_c1, int_beq, int_bne, not_dec, dInt_dB, Int.toNat_zero, gX, hmm]
      refine wp_dec (by omega) (wp_dec (by omega) (wp_dec (by omega) ?_))
      have hxs : x % B ^ (i + 1) = x % B ^ i + B ^ i * (x / B ^ i % B) := Nat.mod_pow_succ
      generalize x / B ^ i % B = xi at *
      have key := loop_up (P := Try.prog) (md := md) mm (fun m' j (s : List Limb × Nat) => nat_Mul_l10 100001 m m' (dL (lb y)) ((s.1 ++ List.replicate ((lb x).length - i) 0).map dB) (i : Int) (xi : Int) (s.2 : Int) (dL (lb x)) ((lb x).length : Int) (i : Int) (dL (lb y)) (mm : Int) (j : Int)) (fun _ _ => [dL (lb (x * y))])
        (fun j s => s.1.length = i + mm ∧ s.2 < B ∧ nv s.1 + B ^ (i + j) * s.2 = nv lo + B ^ i * (xi * (y % B ^ j)))
        (fun m' s ⟨g1, g2, g3⟩ => by
          have ew : IntKind.wrap .i64 ((i : Int) + (mm : Int)) = ((i + mm : Nat) : Int) := by rw [wrap64 (by omega) (by omega)]; omega
          have hB := B_eq
          have ec : IntKind.wrap .u32 (s.2 : Int) = (s.2 : Int) := wrapU32 (by omega) (by omega)
          have hlen : (s.1 ++ List.replicate ((lb x).length - i) (0 : Limb)).length = (lb x).length + mm := by simp [g1]; omega
          simp only [nat_Mul_l10_succ, dA_0, dA_1, dA_2, dC_0, dC_1, dC_2, dC_3, dC_4, dN_0, dN_1, dN_2, els_sl, els_dI, els_dL, List.length_map, Int.toNat_natCast, toInt_int, toInt_dB, toBool_bool, getD_c0, getD_c1, int_beq, int_bne, not_dec, dInt_dB, Int.toNat_zero, hmm, ew, ec, hlen, wrap_succ (show i < 9223372036854775807 by omega)]
          refine wp_ndec (by omega) (wp_dec (by omega) (wp_dec (by omega) ?_))
          have hset : ((s.1 ++ List.replicate ((lb x).length - i) 0).map dB).set (i + mm) (D.int (s.2 : Int)) = ((s.1 ++ [BitVec.ofNat 32 s.2]) ++ List.replicate ((lb x).length - (i + 1)) 0).map dB := by
            rw [dB_ofNat g2, map_set, List.set_append_right _ _ (by omega), g1, Nat.sub_self, show (lb x).length - i = ((lb x).length - (i + 1)) + 1 by omega, List.replicate_succ, List.set_cons_zero]; simp
          rw [hset]
          refine ih _ ⟨by simp [g1]; omega, ?_⟩
          rw [nv_snoc, g1, ofNat_lt g2, g3, h2, Nat.mod_eq_of_lt hyB, hxs, Nat.add_mul, Nat.mul_assoc])
        (fun m' j s hj ⟨g1, g2, g3⟩ ih' => by
          have gy := nv_limb (lb y) j (by omega)
          rw [nv_lb] at gy
          have yl : y / B ^ j % B < B := Nat.mod_lt _ B_pos
          have gY : ((lb y).map dB).getD j D.nil = D.int ((y / B ^ j % B : Nat) : Int) := by rw [getD_map (List.getElem?_eq_getElem (by omega)), ← gy]; rfl
          have hys : y % B ^ (j + 1) = y % B ^ j + B ^ j * (y / B ^ j % B) := Nat.mod_pow_succ
          have hij : i + j < s.1.length := by omega
          have ew : IntKind.wrap .i64 ((i : Int) + (j : Int)) = ((i + j : Nat) : Int) := by rw [wrap64 (by omega) (by omega)]; omega
          have hlen : (s.1 ++ List.replicate ((lb x).length - i) (0 : Limb)).length = (lb x).length + mm := by simp [g1]; omega
          have gO : ((s.1 ++ List.replicate ((lb x).length - i) 0).map dB).getD (i + j) D.nil = D.int ((s.1[i + j]).toNat : Int) := by rw [getD_map (x := s.1[i + j]) (by rw [List.getElem?_append_left hij, List.getElem?_eq_getElem hij])]; rfl
          simp only [nat_Mul_l10_succ, dA_0, dA_1, dA_2, dC_0, dC_1, dC_2, dC_3, dC_4, dN_0, dN_1, dN_2, els_sl, els_dI, els_dL, List.length_map, Int.toNat_natCast, toInt_int, toInt_dB, toBool_bool, getD_c0, getD_c1, int_beq, int_bne, not_dec, dInt_dB, Int.toNat_zero, ew, gO, gY, hlen, wrap_succ (show j < 9223372036854775807 by omega)]
          generalize y / B ^ j % B = yj at *
          have ol := limb_lt (s.1[i + j])
          have hns := nv_set s.1 (i + j) hij (BitVec.ofNat 32 ((xi * yj + (s.1[i + j]).toNat + s.2) % B))
          have hmd := Nat.mod_lt (xi * yj + (s.1[i + j]).toNat + s.2) B_pos
          rw [ofNat_lt hmd] at hns
          generalize hoo : (s.1[i + j]).toNat = o at *
          have hbd := mul_bound xl yl ol g2
          have hB := B_eq
          have t0 : IntKind.wrap .u64 (xi : Int) = (xi : Int) := wrapU64 (by omega) (by omega)
          have t0' : IntKind.wrap .u64 (yj : Int) = (yj : Int) := wrapU64 (by omega) (by omega)
          have t0'' : IntKind.wrap .u64 (o : Int) = (o : Int) := wrapU64 (by omega) (by omega)
          have t1 : IntKind.wrap .u64 ((xi : Int) * (yj : Int)) = ((xi * yj : Nat) : Int) := by rw [← Int.natCast_mul]; exact wrapU64 (by omega) (by omega)
          have t2 : IntKind.wrap .u64 (((xi * yj : Nat) : Int) + (o : Int)) = ((xi * yj + o : Nat) : Int) := by rw [wrapU64 (by omega) (by omega)]; omega
          have t3 : IntKind.wrap .u64 (((xi * yj + o : Nat) : Int) + (s.2 : Int)) = ((xi * yj + o + s.2 : Nat) : Int) := by rw [wrapU64 (by omega) (by omega)]; omega
          simp only [t0, t0', t0'', t1, t2, t3, fdiv32]
          have t4 : IntKind.wrap .u32 ((xi * yj + o + s.2 : Nat) : Int) = (((xi * yj + o + s.2) % B : Nat) : Int) := by rw [IntKind.wrap_u32, B_eq]; omega
          have hset : ((s.1 ++ List.replicate ((lb x).length - i) 0).map dB).set (i + j) (D.int (((xi * yj + o + s.2) % B : Nat) : Int)) = ((s.1.set (i + j) (BitVec.ofNat 32 ((xi * yj + o + s.2) % B))) ++ List.replicate ((lb x).length - i) 0).map dB := by
            rw [dB_ofNat hmd, map_set, List.set_append_left _ _ hij]
          rw [t4, hset]
          refine wp_dec (by omega) (wp_dec (by omega) (wp_dec (by omega) (wp_dec (by omega) (wp_dec (by omega) (wp_dec (by omega) (wp_dec (by omega) (wp_tt (by decide) ?_)))))))
          have hcl : (xi * yj + o + s.2) / 4294967296 < B := by rw [B_eq]; omega
          refine ih' (s.1.set (i + j) (BitVec.ofNat 32 ((xi * yj + o + s.2) % B)), (xi * yj + o + s.2) / 4294967296) ⟨by simp [g1], hcl, ?_⟩
          show nv (s.1.set (i + j) _) + B ^ (i + (j + 1)) * ((xi * yj + o + s.2) / B) = _
          have q1 : B ^ (i + (j + 1)) * ((xi * yj + o + s.2) / B) = B ^ (i + j) * (B * ((xi * yj + o + s.2) / B)) := by rw [← Nat.add_assoc, Nat.pow_succ, Nat.mul_assoc]
          have q2 : B ^ (i + j) * ((xi * yj + o + s.2) % B) + B ^ (i + j) * (B * ((xi * yj + o + s.2) / B)) = B ^ (i + j) * (xi * yj + o + s.2) := by rw [← Nat.mul_add, Nat.mod_add_div]
          have q3 : B ^ (i + j) * (xi * yj + o + s.2) = B ^ (i + j) * (xi * yj) + B ^ (i + j) * o + B ^ (i + j) * s.2 := by rw [Nat.mul_add, Nat.mul_add]
          have q4 : B ^ i * (xi * (y % B ^ (j + 1))) = B ^ i * (xi * (y % B ^ j)) + B ^ (i + j) * (xi * yj) := by
            rw [hys, Nat.mul_add, Nat.mul_add, Nat.pow_add, Nat.mul_left_comm xi, Nat.mul_assoc]
          rw [q1, q4]
          omega)
        100001 0 (lo, 0) (by omega) (by omega) ⟨h1, B_pos, by simp [Nat.mod_one]⟩
      exact key)
    100001 0 (List.replicate mm 0) (by omega) (by omega) ⟨by simp, by rw [nv_zeros]; simp [Nat.mod_one]⟩
  have e0 : (List.replicate mm (0 : Limb) ++ List.replicate ((lb x).length - 0) 0).map dB = List.replicate ((lb x).length + mm) (D.int 0) := by
    rw [List.replicate_append_replicate, List.map_replicate, show mm + ((lb x).length - 0) = (lb x).length + mm by omega]; rfl
  rw [e0] at key
  exact key
theorem lb_two (z : Nat) : (lb (2 * z)).length ≤ (lb z).length + 1 := by
  refine lb_len.2 ?_
  have h : z < B ^ (lb z).length := lb_len.1 (Nat.le_refl _)
  rw [Nat.pow_succ]
  generalize B ^ (lb z).length = q at *
  rw [B_eq]; omega
theorem or_limb' {r d : Nat} (hr : r < 4294967296) (hd : d < 4294967296) : bits_ .or .u64 ((r * 4294967296 : Nat) : Int) (d : Int) = ((r * 4294967296 + d : Nat) : Int) := by
  have h := or_limb hd hr
  have hc : bits_ .or .u64 ((r * 4294967296 : Nat) : Int) (d : Int) = bits_ .or .u64 (d : Int) ((r * 4294967296 : Nat) : Int) := by unfold bits_; simp only; rw [BitVec.or_comm]
  rw [hc, h, Nat.add_comm]
theorem nat_shorten_ex (l : List Limb) (y : Nat) (hy : 0 < y) (hyB : y < B) (hl : l.length ≤ 1000000) : ∃ q : List Limb, q.length = l.length ∧ nv q = nv l / y ∧ Sp 84 [.sl (l.map dB), .int (y : Int)] [.int ((nv l % y : Nat) : Int), .sl (q.map dB)] := by
  have hq : ∃ q : List Limb, q.length = l.length ∧ nv q = nv l / y := by
    have h1 : nv l / y < B ^ l.length := Nat.lt_of_le_of_lt (Nat.div_le_self _ _) (nv_lt l)
    have h2 := lb_len.2 h1
    refine ⟨lb (nv l / y) ++ List.replicate (l.length - (lb (nv l / y)).length) 0, by simp; omega, ?_⟩
    rw [nv_append, nv_zeros, nv_lb]; simp
  obtain ⟨q0, hq1, hq2⟩ := hq
  refine ⟨q0, hq1, hq2, sound_ (l.length + 1) (nat_shorten_tree _ _ _) ?_⟩
  simp only [els_sl, toInt_int, List.length_map]
  have uniq : ∀ q : List Limb, q.length = l.length → nv q = nv l / y → q = q0 := by
    intro q h1 h2
    apply List.ext_getElem (by omega)
    intro i g1 g2
    apply BitVec.eq_of_toNat_eq
    rw [nv_limb q i g1, nv_limb q0 i g2, h2, hq2]
  have key := loop_down (P := Try.prog) (md := md) (fun m k (s : List Limb × Nat) => nat_shorten_l3 (l.length + 1) m ((l.take k ++ s.1).map dB) (y : Int) (s.2 : Int) ((k : Int) - 1)) (fun _ _ => [.int ((nv l % y : Nat) : Int), .sl (q0.map dB)])
    (fun k s => k ≤ l.length ∧ s.1.length = l.length - k ∧ nv s.1 = nv l / B ^ k / y ∧ s.2 = nv l / B ^ k % y)
    (fun m s ⟨h0, h1, h2, h3⟩ => by
      simp only [nat_shorten_l3_succ, List.take_zero, List.nil_append]
      refine wp_ndec (by omega) (wp_ret ?_)
      simp at h2 h3
      rw [uniq s.1 (by omega) h2, h3]
      have := Nat.mod_lt (nv l) hy
      rw [B_eq] at hyB
      rw [wrapU32 (by omega) (by omega)])
    (fun m k s ⟨h0, h1, h2, h3⟩ ih => by
      have hk : k < l.length := by omega
      have hlen : ((l.take (k + 1) ++ s.1).map dB).length = l.length := by simp; omega
      have gd := nv_limb l k hk
      have hget : ((l.take (k + 1) ++ s.1).map dB).getD k D.nil = D.int ((l[k]).toNat : Int) := by rw [getD_map (x := l[k]) (by rw [List.getElem?_append_left (by simp; omega), List.getElem?_take, if_pos (by omega), List.getElem?_eq_getElem hk])]; rfl
      have hs2 : s.2 < y := by rw [h3]; exact Nat.mod_lt _ hy
      have dl := limb_lt l[k]
      have hQ : nv l / B ^ k = B * (nv l / B ^ (k + 1)) + (l[k]).toNat := by
        rw [gd, Nat.pow_succ, ← Nat.div_div_eq_div_mul]; exact (Nat.div_add_mod _ _).symm
      generalize hdd : (l[k]).toNat = d at *
      have e1 := Nat.div_add_mod (nv l / B ^ (k + 1)) y
      rw [← h2, ← h3] at e1
      have hQ2 : nv l / B ^ k = y * (B * nv s.1) + (s.2 * B + d) := by
        rw [hQ, ← e1, Nat.mul_add, Nat.mul_left_comm, Nat.mul_comm B s.2]; omega
      have hd1 : nv l / B ^ k / y = B * nv s.1 + (s.2 * B + d) / y := by rw [hQ2, Nat.mul_add_div hy]
      have hd2 : nv l / B ^ k % y = (s.2 * B + d) % y := by rw [hQ2, Nat.mul_add_mod]
      have hlt : (s.2 * B + d) / y < B := by
        rw [Nat.div_lt_iff_lt_mul hy]
        have : (s.2 + 1) * B ≤ y * B := Nat.mul_le_mul_right _ hs2
        rw [Nat.add_mul, Nat.one_mul] at this
        rw [Nat.mul_comm B y]; omega
      rw [B_eq] at hyB dl hlt
      have b64 : (2 : Int) ^ (min (Int.toNat 32) (IntKind.bits .u64)) = 4294967296 := by decide
      have t1 : IntKind.wrap .u64 ((s.2 : Int) * 4294967296) = ((s.2 * 4294967296 : Nat) : Int) := by rw [wrapU64 (by omega) (by omega)]; omega
      have t2 : IntKind.wrap .u64 (d : Int) = (d : Int) := wrapU64 (by omega) (by omega)
      have t3 : IntKind.wrap .u64 (y : Int) = (y : Int) := wrapU64 (by omega) (by omega)
      have t4 : IntKind.wrap .u64 (Int.tdiv ((s.2 * 4294967296 + d : Nat) : Int) (y : Int)) = (((s.2 * 4294967296 + d) / y : Nat) : Int) := by
        rw [show Int.tdiv ((s.2 * 4294967296 + d : Nat) : Int) (y : Int) = (((s.2 * 4294967296 + d) / y : Nat) : Int) from rfl]
        generalize (s.2 * 4294967296 + d) / y = qq at hlt ⊢
        exact wrapU64 (by omega) (by omega)
      have t5 : Int.tmod ((s.2 * 4294967296 + d : Nat) : Int) (y : Int) = (((s.2 * 4294967296 + d) % y : Nat) : Int) := rfl
      have t6 : IntKind.wrap .u32 (((s.2 * 4294967296 + d) / y : Nat) : Int) = (((s.2 * 4294967296 + d) / y : Nat) : Int) := by
        generalize (s.2 * 4294967296 + d) / y = qq at hlt ⊢
        exact wrapU32 (by omega) (by omega)
      simp only [nat_shorten_l3_succ, show ((k + 1 : Nat) : Int) - 1 = (k : Int) by omega, Int.toNat_natCast, hget, hlen, toInt_int, b64, t1, t2, t3, or_limb' (show s.2 < 4294967296 by omega) dl, t4, t5, t6]
      have hset : ((l.take (k + 1) ++ s.1).map dB).set k (D.int (((s.2 * 4294967296 + d) / y : Nat) : Int)) = (l.take k ++ (BitVec.ofNat 32 ((s.2 * 4294967296 + d) / y) :: s.1)).map dB := by
        rw [dB_ofNat hlt, map_set, List.take_succ_eq_append_getElem hk, List.append_assoc, List.set_append_right _ _ (by rw [List.length_take]; omega), List.length_take, Nat.min_eq_left (by omega), Nat.sub_self]; rfl
      rw [hset, wrap64 (by omega) (by omega)]
      have hne : (!((y : Int) == 0)) = true := by simp; omega
      refine wp_dec (by omega) (wp_tt (by decide) (wp_dec (by omega) (wp_dec (by omega) (wp_tt hne (wp_dec (by omega) (wp_dec (by omega) (wp_tt hne ?_)))))))
      refine ih (BitVec.ofNat 32 ((s.2 * 4294967296 + d) / y) :: s.1, (s.2 * 4294967296 + d) % y) ⟨by omega, by simp; omega, ?_, hd2.symm⟩
      rw [nv, ofNat_lt hlt]
      show (s.2 * B + d) / y + B * nv s.1 = _
      rw [hd1, Nat.add_comm])
    (l.length + 1) l.length ([], 0) (by omega) ⟨by omega, by simp, by rw [Nat.div_eq_of_lt (nv_lt l)]; simp, by rw [Nat.div_eq_of_lt (nv_lt l)]; simp⟩
  rw [List.take_length, List.append_nil] at key
  rw [wrap64 (by omega) (by omega)]
  exact key
/-- What the long division has to tell. -/
def LongOk (x y : Nat) : Prop := 1 < (lb y).length → y ≤ x → Sp 85 [dL (lb x), dL (lb y)] [dL (lb (x / y)), dL (lb (x % y))]
theorem nat_DivMod_sp (a b : List Limb) (ha : a.length ≤ 100000) (hb : b.length ≤ 100000) (hL : LongOk (nv a) (nv b)) : Sp 77 [dL a, dL b] [dL (lb (nv a / nv b)), dL (lb (if nv b = 0 then 0 else nv a % nv b)), .bool (decide (nv b ≠ 0))] := by
  refine sound_ 0 (nat_DivMod_tree _ _ _) (wp_call (nat_trim_sp a (by omega)) (wp_call (nat_trim_sp b (by omega)) ?_))
  have la : (lb (nv a)).length ≤ a.length := lb_len.2 (nv_lt a)
  have lb_ : (lb (nv b)).length ≤ b.length := lb_len.2 (nv_lt b)
  simp only [getD_c0, els_dL, List.length_map, int_beq]
  refine wp_decs (fun h => wp_ret ?_) (fun h => ?_)
  · have h0 : nv b = 0 := lb_len0.1 (by omega)
    rw [h0, Nat.div_zero, if_pos rfl, lb_zero]; rfl
  have h0 : nv b ≠ 0 := fun hh => h (by rw [hh, lb_zero]; rfl)
  rw [if_neg h0, decide_eq_true h0]
  have cm := nat_Cmp_sp (lb (nv a)) (lb (nv b)) (by omega) (by omega)
  rw [nv_lb, nv_lb] at cm
  refine wp_call cm ?_
  simp only [getD_c0, toInt_int]
  refine wp_decs (fun h1 => ?_) (fun h1 => ?_)
  · have hlt : nv a < nv b := by
      unfold cmpN at h1
      rcases Nat.lt_or_ge (nv a) (nv b) with h2 | h2
      · exact h2
      · rw [if_neg (by omega)] at h1; split at h1 <;> omega
    have nm := nat_Norm_sp (lb (nv a)) (by omega)
    rw [nv_lb] at nm
    refine wp_call nm (wp_ret ?_)
    rw [Nat.div_eq_of_lt hlt, Nat.mod_eq_of_lt hlt, lb_zero]; rfl
  have hge : nv b ≤ nv a := by
    unfold cmpN at h1
    rcases Nat.lt_or_ge (nv a) (nv b) with h2 | h2
    · rw [if_pos h2] at h1; omega
    · exact h2
  refine wp_decs (fun h2 => ?_) (fun h2 => ?_)
  · obtain ⟨d, hd⟩ : ∃ d, lb (nv b) = [d] := by
      match hh : lb (nv b) with
      | [d] => exact ⟨d, rfl⟩
      | [] => rw [hh] at h2; simp at h2
      | _ :: _ :: _ => rw [hh] at h2; simp at h2; omega
    have hbv : nv b = d.toNat := by rw [← nv_lb (nv b), hd]; simp [nv]
    have nm := nat_Norm_sp (lb (nv a)) (by omega)
    rw [nv_lb] at nm
    refine wp_call nm ?_
    simp only [hd, List.map_cons, List.map_nil, List.length_cons, List.length_nil, Int.toNat_zero, getD_c0, els_dL, toInt_dB]
    rw [← hbv]
    have hdB : nv b < B := by rw [hbv]; exact limb_lt d
    obtain ⟨q, q1, q2, q3⟩ := nat_shorten_ex (lb (nv a)) (nv b) (by omega) hdB (by omega)
    rw [nv_lb] at q2 q3
    refine wp_dec (by omega) (wp_dec (by omega) (wp_call q3 ?_))
    have hr : nv a % nv b < B := Nat.lt_of_lt_of_le (Nat.mod_lt _ (by omega)) (by omega)
    simp only [getD_c0, getD_c1, els_sl, toInt_int]
    refine wp_call (nat_trim_sp q (by omega)) ?_
    rw [dB_ofNat hr]
    refine wp_call (nat_Norm_sp [BitVec.ofNat 32 (nv a % nv b)] (by simp)) (wp_ret ?_)
    have e : nv [BitVec.ofNat 32 (nv a % nv b)] = nv a % nv b := by simp only [nv]; rw [ofNat_lt hr]; omega
    rw [e, q2]; rfl
  · exact wp_call (hL (by omega) hge) (wp_ret rfl)
theorem longOk_one (x y : Nat) (h : y < B) : LongOk x y := fun h1 => by
  have : (lb y).length ≤ 1 := lb_len.2 (by simpa using h)
  omega
end Go.Proofs.Ytjmddikeadbmjaa
set_option maxRecDepth 100000
namespace Go.Proofs.Ytjmddikeadbmjaa

theorem zv_mk (b : Bool) (l : List Limb) : zv ⟨b, l⟩ = if b then -(nv l : Int) else (nv l : Int) := rfl
theorem sgn_cases (z : Int) : (sgnZ z = -1 ∧ z < 0) ∨ (sgnZ z = 0 ∧ z = 0) ∨ (sgnZ z = 1 ∧ 0 < z) := by
  unfold sgnZ
  by_cases h1 : z < 0
  · exact .inl ⟨if_pos h1, h1⟩
  · by_cases h2 : z = 0
    · exact .inr (.inl ⟨by rw [if_neg h1, if_pos h2], h2⟩)
    · exact .inr (.inr ⟨by rw [if_neg h1, if_neg h2], by omega⟩)
theorem whole_Sign_sp (a : Wh) (h : a.mag.length ≤ 1000000) : Sp 71 [dW a] [.int (sgnZ (zv a))] := by
  refine sound_ 0 (whole_Sign_tree _ _) ?_
  have cm := nat_Cmp_sp a.mag [] h (by simp)
  simp only [dW_0, dW_1, toBool_bool]
  refine wp_call cm ?_
  simp only [getD_c0, toInt_int, int_beq, nv_nil]
  unfold sgnZ zv cmpN
  refine wp_decs (fun h0 => wp_ret ?_) (fun h0 => wp_br (fun h1 => wp_ret ?_) (fun h1 => wp_ret ?_))
  · have : nv a.mag = 0 := by
      rw [if_neg (by omega)] at h0
      split at h0
      · assumption
      · omega
    rw [this]; cases a.neg <;> simp
  · have : nv a.mag ≠ 0 := fun hh => h0 (by rw [hh]; simp)
    rw [if_pos (by rw [if_pos h1]; omega)]
  · have : nv a.mag ≠ 0 := fun hh => h0 (by rw [hh]; simp)
    rw [if_neg (by rw [if_neg (by simp [h1])]; omega), if_neg (by rw [if_neg (by simp [h1])]; omega)]
theorem whole_Cmp_sp (a b : Wh) (ha : a.mag.length ≤ 1000000) (hb : b.mag.length ≤ 1000000) : Sp 66 [dW a, dW b] [.int (cmpZ (zv a) (zv b))] := by
  refine sound_ 0 (whole_Cmp_tree _ _ _) (wp_call (whole_Sign_sp a ha) (wp_call (whole_Sign_sp b hb) ?_))
  simp only [getD_c0, toInt_int, dW_1]
  have za := zv_abs a
  have zb := zv_abs b
  refine wp_decs (fun h => wp_ret ?_) (fun h => wp_decs (fun h' => wp_ret ?_) (fun h' => wp_decs (fun h2 => wp_call (nat_Cmp_sp b.mag a.mag hb ha) (wp_ret ?_)) (fun h2 => wp_call (nat_Cmp_sp a.mag b.mag ha hb) (wp_ret ?_))))
  · have : zv a < zv b := by rcases sgn_cases (zv a) with h1 | h1 | h1 <;> rcases sgn_cases (zv b) with h2 | h2 | h2 <;> omega
    rw [cmpZ, if_pos this]
  · have : zv b < zv a := by rcases sgn_cases (zv a) with h1 | h1 | h1 <;> rcases sgn_cases (zv b) with h2 | h2 | h2 <;> omega
    rw [cmpZ, if_neg (by omega), if_neg (by omega)]
  · have h3 : zv a < 0 ∧ zv b < 0 := by rcases sgn_cases (zv a) with h1 | h1 | h1 <;> rcases sgn_cases (zv b) with h2 | h2 | h2 <;> omega
    simp only [getD_c0, toInt_int]
    have : cmpN (nv b.mag) (nv a.mag) = cmpZ (zv a) (zv b) := by
      unfold cmpN cmpZ
      by_cases g1 : nv b.mag < nv a.mag
      · rw [if_pos g1, if_pos (show zv a < zv b by omega)]
      · rw [if_neg g1, if_neg (show ¬ zv a < zv b by omega)]
        by_cases g2 : nv b.mag = nv a.mag
        · rw [if_pos g2, if_pos (show zv a = zv b by omega)]
        · rw [if_neg g2, if_neg (show ¬ zv a = zv b by omega)]
    rw [this]
  · have h3 : 0 ≤ zv a ∧ 0 ≤ zv b := by rcases sgn_cases (zv a) with h1 | h1 | h1 <;> rcases sgn_cases (zv b) with h2 | h2 | h2 <;> omega
    simp only [getD_c0, toInt_int]
    have : cmpN (nv a.mag) (nv b.mag) = cmpZ (zv a) (zv b) := by
      unfold cmpN cmpZ
      by_cases g1 : nv a.mag < nv b.mag
      · rw [if_pos g1, if_pos (show zv a < zv b by omega)]
      · rw [if_neg g1, if_neg (show ¬ zv a < zv b by omega)]
        by_cases g2 : nv a.mag = nv b.mag
        · rw [if_pos g2, if_pos (show zv a = zv b by omega)]
        · rw [if_neg g2, if_neg (show ¬ zv a = zv b by omega)]
    rw [this]
theorem whole_Add_sp (a b : Wh) (ha : a.mag.length ≤ 100000) (hb : b.mag.length ≤ 100000) : Sp 59 [dW a, dW b] [dW (wz (zv a + zv b))] := by
  refine sound_ 0 (whole_Add_tree _ _ _) ?_
  simp only [dW_0, dW_1, toBool_bool, bool_beq]
  refine wp_decs (fun h => wp_call (nat_Add_sp a.mag b.mag ha hb) (wp_call (whole_signed_sp a.neg _) (wp_ret ?_))) (fun h => wp_call (nat_Sub_sp a.mag b.mag ha hb) ?_)
  · have : (if a.neg = true then -((nv a.mag + nv b.mag : Nat) : Int) else ((nv a.mag + nv b.mag : Nat) : Int)) = zv a + zv b := by
      unfold zv; rw [← h]; cases a.neg <;> simp <;> omega
    rw [getD_c0, this]
  simp only [getD_c0, getD_c1, toBool_bool]
  refine wp_decs (fun h1 => wp_call (whole_signed_sp a.neg _) (wp_ret ?_)) (fun h1 => wp_call (nat_Sub_sp b.mag a.mag hb ha) (wp_call (whole_signed_sp b.neg _) (wp_ret ?_)))
  · have : (if a.neg = true then -((nv a.mag - nv b.mag : Nat) : Int) else ((nv a.mag - nv b.mag : Nat) : Int)) = zv a + zv b := by
      unfold zv; cases ea : a.neg <;> cases eb : b.neg <;> simp [ea, eb] at h ⊢ <;> omega
    rw [getD_c0, this]
  · have : (if b.neg = true then -((nv b.mag - nv a.mag : Nat) : Int) else ((nv b.mag - nv a.mag : Nat) : Int)) = zv a + zv b := by
      unfold zv; cases ea : a.neg <;> cases eb : b.neg <;> simp [ea, eb] at h ⊢ <;> omega
    rw [getD_c0, this]
theorem zv_flip (b : Wh) : zv ⟨!b.neg, b.mag⟩ = -zv b := by unfold zv; cases b.neg <;> simp
theorem whole_Sub_sp (a b : Wh) (ha : a.mag.length ≤ 100000) (hb : b.mag.length ≤ 100000) : Sp 86 [dW a, dW b] [dW (wz (zv a - zv b))] := by
  refine sound_ 0 (whole_Sub_tree _ _ _) ?_
  simp only [dW_0, dW_1, toBool_bool, dW_mk]
  refine wp_call (whole_Add_sp a ⟨!b.neg, b.mag⟩ ha hb) (wp_ret ?_)
  rw [zv_flip, ← Int.sub_eq_add_neg]; rfl
theorem zv_mul (a b : Wh) : (if (!(a.neg == b.neg)) = true then -((nv a.mag * nv b.mag : Nat) : Int) else ((nv a.mag * nv b.mag : Nat) : Int)) = zv a * zv b := by
  unfold zv; cases a.neg <;> cases b.neg <;> simp [Int.neg_mul, Int.mul_neg, Int.natCast_mul]
theorem whole_Mul_sp (a b : Wh) (ha : a.mag.length ≤ 100000) (hb : b.mag.length ≤ 100000) : Sp 60 [dW a, dW b] [dW (wz (zv a * zv b))] := by
  refine sound_ 0 (whole_Mul_tree _ _ _) ?_
  simp only [dW_0, dW_1, toBool_bool]
  refine wp_call (nat_Mul_sp a.mag b.mag ha hb) (wp_call (whole_signed_sp (!(a.neg == b.neg)) _) (wp_ret ?_))
  rw [zv_mul]; rfl
/-- A quotient, rounded down, and the rest. -/
def dmZ (x y : Int) : Int × Int :=
  if (x < 0) = (y < 0) then (((x.natAbs / y.natAbs : Nat) : Int), if x < 0 then -((x.natAbs % y.natAbs : Nat) : Int) else ((x.natAbs % y.natAbs : Nat) : Int))
  else if x.natAbs % y.natAbs = 0 then (-((x.natAbs / y.natAbs : Nat) : Int), 0)
  else (-((x.natAbs / y.natAbs : Nat) : Int) - 1, (if x < 0 then -((x.natAbs % y.natAbs : Nat) : Int) else ((x.natAbs % y.natAbs : Nat) : Int)) + y)
def dmD (x y : Int) : List D := if y = 0 then [dW (wz 0), dW (wz 0), .bool false] else [dW (wz (dmZ x y).1), dW (wz (dmZ x y).2), .bool true]
theorem zv_neg {w : Wh} (h : nv w.mag ≠ 0) : (zv w < 0) ↔ w.neg = true := by unfold zv; cases w.neg <;> simp <;> omega
theorem zv_zero {w : Wh} : zv w = 0 ↔ nv w.mag = 0 := by unfold zv; cases w.neg <;> simp
theorem dmZ_neg {a b : Wh} (hb : nv b.mag ≠ 0) (hr : nv a.mag % nv b.mag ≠ 0) (hs : a.neg ≠ b.neg) : dmZ (zv a) (zv b) = ((if (!(a.neg == b.neg)) = true then -((nv a.mag / nv b.mag : Nat) : Int) else ((nv a.mag / nv b.mag : Nat) : Int)) - 1, (if a.neg = true then -((nv a.mag % nv b.mag : Nat) : Int) else ((nv a.mag % nv b.mag : Nat) : Int)) + zv b) := by
  have ha : nv a.mag ≠ 0 := fun h => hr (by rw [h]; simp)
  have h1 := zv_neg ha
  have h2 := zv_neg hb
  unfold dmZ
  rw [zv_abs, zv_abs, if_neg (by rw [eq_iff_iff, h1, h2]; cases ea : a.neg <;> cases eb : b.neg <;> simp [ea, eb] at hs ⊢), if_neg hr]
  have e1 : (!(a.neg == b.neg)) = true := by cases ea : a.neg <;> cases eb : b.neg <;> simp [ea, eb] at hs ⊢
  rw [if_pos e1]
  by_cases h : a.neg = true
  · rw [if_pos (h1.2 h), if_pos h]
  · rw [if_neg (fun hh => h (h1.1 hh)), if_neg h]
theorem dmZ_same {a b : Wh} (hb : nv b.mag ≠ 0) (hr : a.neg = b.neg ∨ nv a.mag % nv b.mag = 0) : dmZ (zv a) (zv b) = (if (!(a.neg == b.neg)) = true then -((nv a.mag / nv b.mag : Nat) : Int) else ((nv a.mag / nv b.mag : Nat) : Int), if a.neg = true then -((nv a.mag % nv b.mag : Nat) : Int) else ((nv a.mag % nv b.mag : Nat) : Int)) := by
  have h2 := zv_neg hb
  unfold dmZ
  rw [zv_abs, zv_abs]
  by_cases ha : nv a.mag = 0
  · have h0 : zv a = 0 := zv_zero.2 ha
    rw [h0, ha]
    simp
  · have h1 := zv_neg ha
    by_cases hs : a.neg = b.neg
    · rw [if_pos (by rw [eq_iff_iff, h1, h2, hs])]
      have e1 : (!(a.neg == b.neg)) = false := by rw [hs]; simp
      rw [e1]
      by_cases h : a.neg = true
      · rw [if_pos (h1.2 h), if_pos h]; simp
      · rw [if_neg (fun hh => h (h1.1 hh)), if_neg h]; simp
    · have h3 := hr.resolve_left hs
      rw [if_neg (by rw [eq_iff_iff, h1, h2]; cases ea : a.neg <;> cases eb : b.neg <;> simp [ea, eb] at hs ⊢), if_pos h3, h3]
      have e1 : (!(a.neg == b.neg)) = true := by cases ea : a.neg <;> cases eb : b.neg <;> simp [ea, eb] at hs ⊢
      rw [if_pos e1]
      cases a.neg <;> simp
theorem wz_len_le {n : Nat} {z : Int} (h : z.natAbs < B ^ n) : (wz z).mag.length ≤ n := lb_len.2 h
theorem whole_DivMod_sp (a b : Wh) (ha : a.mag.length ≤ 10000) (hb : b.mag.length ≤ 10000) (hL : LongOk (nv a.mag) (nv b.mag)) : Sp 79 [dW a, dW b] (dmD (zv a) (zv b)) := by
  refine sound_ 0 (whole_DivMod_tree _ _ _) ?_
  simp only [dW_0, dW_1, toBool_bool]
  refine wp_call (nat_DivMod_sp a.mag b.mag (by omega) (by omega) hL) ?_
  simp only [getD_c0, getD_c1, getD_c2, toBool_bool, dW_zero, els_dL, List.length_map]
  unfold dmD
  refine wp_br (fun h => wp_ret ?_) (fun h => ?_)
  · have h0 : nv b.mag = 0 := by simpa using h
    rw [if_pos (zv_zero.2 h0)]
  have h0 : nv b.mag ≠ 0 := by simpa using h
  rw [if_neg (fun hh => h0 (zv_zero.1 hh)), if_neg h0]
  have hq : nv a.mag / nv b.mag < B ^ a.mag.length := Nat.lt_of_le_of_lt (Nat.div_le_self _ _) (nv_lt _)
  have hr : nv a.mag % nv b.mag < B ^ b.mag.length := Nat.lt_of_lt_of_le (Nat.mod_lt _ (by omega)) (Nat.le_of_lt (nv_lt _))
  refine wp_call (whole_signed_sp _ (nv a.mag / nv b.mag)) (wp_call (whole_signed_sp a.neg (nv a.mag % nv b.mag)) ?_)
  simp only [getD_c0]
  refine wp_br (fun h1 => wp_decs (fun h2 => ?_) (fun h2 => wp_ret ?_)) (fun h1 => wp_ret ?_)
  · have hr0 : nv a.mag % nv b.mag ≠ 0 := fun hh => by rw [hh, lb_zero] at h2; simp at h2
    have hs : a.neg ≠ b.neg := by simpa using h1
    refine wp_call (whole_Of_sp 1 (by unfold inR; decide)) ?_
    refine wp_call (whole_Sub_sp _ _ (Nat.le_trans (wz_len_le (n := a.mag.length) (by split <;> simp <;> exact hq)) (by omega)) (Nat.le_trans (wz_len_le (n := 1) (by simp [B_eq])) (by omega))) ?_
    refine wp_call (whole_Add_sp _ b (Nat.le_trans (wz_len_le (n := b.mag.length) (by split <;> simp <;> exact hr)) (by omega)) (by omega)) (wp_ret ?_)
    rw [dmZ_neg h0 hr0 hs, zv_wz, zv_wz, zv_wz]; rfl
  · have hr0 : nv a.mag % nv b.mag = 0 := lb_len0.1 (by omega)
    rw [dmZ_same h0 (.inr hr0)]
  · rw [dmZ_same h0 (.inl (by simpa using h1))]
def lenZ (z : Int) : Nat := (lb z.natAbs).length
/-- A power by squares; an error. -/
def powR : Nat → Nat → Int → Int → Int × Int
  | 0, _, out, _ => (out, 0)
  | k + 1, n, out, base => if n = 0 then (out, 0) else if 32 < lenZ base then (0, 7) else
    if 32 < lenZ (if n % 2 = 1 then out * base else out) then (0, 7) else
    if n / 2 = 0 then (if n % 2 = 1 then out * base else out, 0) else powR k (n / 2) (if n % 2 = 1 then out * base else out) (base * base)
def powD (r : Int × Int) : List D := [dW (wz r.1), .int r.2]
theorem lenZ_mul (x y : Int) : lenZ (x * y) ≤ lenZ x + lenZ y := by
  unfold lenZ
  refine lb_len.2 ?_
  rw [Int.natAbs_mul, Nat.pow_add]
  exact Nat.mul_lt_mul'' (lb_len.1 (Nat.le_refl _)) (lb_len.1 (Nat.le_refl _))
theorem and_one (n : Nat) (h : n ≤ 9223372036854775807) : bits_ .and .i64 (n : Int) 1 = ((n % 2 : Nat) : Int) := by
  have b : IntKind.bits .i64 = 64 := rfl
  have h1 : n % 2 < 2 := Nat.mod_lt _ (by decide)
  have e : (BitVec.ofInt 64 (n : Int) &&& BitVec.ofInt 64 1).toNat = n % 2 := by
    rw [BitVec.ofInt_natCast, show BitVec.ofInt 64 1 = BitVec.ofNat 64 1 from rfl, BitVec.toNat_and, BitVec.toNat_ofNat, BitVec.toNat_ofNat, Nat.mod_eq_of_lt (show n < 2 ^ 64 by omega)]
    exact Nat.and_one_is_mod n
  show IntKind.wrap .i64 ((BitVec.ofInt 64 (n : Int) &&& BitVec.ofInt 64 1).toNat : Int) = _
  rw [e]
  exact wrap64 (x := ((n % 2 : Nat) : Int)) (by omega) (by omega)
theorem fdiv_two (n : Nat) : Int.fdiv (n : Int) (2 ^ (min (Int.toNat 1) (IntKind.bits .i64))) = ((n / 2 : Nat) : Int) := by
  rw [show (2 : Int) ^ (min (Int.toNat 1) (IntKind.bits .i64)) = 2 by decide, Int.fdiv_eq_ediv_of_nonneg _ (by omega)]; omega
theorem whole_Pow_loop (N : Nat) : ∀ (k m n : Nat) (out base : Int), n < 2 ^ k → k < m → n ≤ 1000000 → lenZ out ≤ 100 → lenZ base ≤ 100 → Tw (whole_Pow_l4 N m (n : Int) false (dW (wz out)) (dW (wz base))) (powD (powR k n out base))
  | k, 0, n, out, base, hk, hm, _, _, _ => by omega
  | 0, m + 1, n, out, base, hk, hm, hn, ho, hb => by
    have : n = 0 := by simp at hk; omega
    subst this
    simp only [whole_Pow_l4_succ]
    exact wp_ndec (by omega) (wp_ret rfl)
  | k + 1, m + 1, n, out, base, hk, hm, hn, ho, hb => by
    have hk' : n / 2 < 2 ^ k := by rw [Nat.pow_succ] at hk; omega
    simp only [whole_Pow_l4_succ, dW_1, els_dL, List.length_map, and_one n (by omega), fdiv_two, int_beq, dW_zero]
    rw [powR]
    refine wp_decs (fun h0 => ?_) (fun h0 => wp_ret ?_)
    · rw [if_neg (by omega)]
      have lo : (wz out).mag.length = lenZ out := rfl
      have lb_ : (wz base).mag.length = lenZ base := rfl
      rw [lb_, lo]
      refine wp_decs (fun h1 => wp_ret ?_) (fun h1 => ?_)
      · rw [if_pos (by omega)]; rfl
      rw [if_neg (by omega)]
      have m1 := whole_Mul_sp (wz out) (wz base) (by omega) (by omega)
      have m2 := whole_Mul_sp (wz base) (wz base) (by omega) (by omega)
      rw [zv_wz, zv_wz] at m1
      rw [zv_wz] at m2
      have l2 := lenZ_mul base base
      refine wp_decs (fun h2 => wp_call m1 ?_) (fun h2 => ?_)
      · rw [if_pos (show n % 2 = 1 by omega)]
        simp only [getD_c0, dW_1, els_dL, List.length_map]
        have lo' : (wz (out * base)).mag.length = lenZ (out * base) := rfl
        rw [lo']
        refine wp_decs (fun h3 => wp_ret (by rw [if_pos (by omega)]; rfl)) (fun h3 => wp_tt (by decide) ?_)
        rw [if_neg (by omega)]
        refine wp_decs (fun h4 => wp_call m2 ?_) (fun h4 => ?_)
        · rw [if_neg (by omega)]
          exact whole_Pow_loop N k m (n / 2) _ _ hk' (by omega) (by omega) (by omega) (by omega)
        · rw [if_pos (by omega)]
          have e0 : n / 2 = 0 := by omega
          rw [e0]
          have := whole_Pow_loop N k m 0 (out * base) base (Nat.pow_pos (by decide)) (by omega) (by omega) (by omega) hb
          have e1 : powR k 0 (out * base) base = (out * base, 0) := by cases k <;> simp [powR]
          rw [e1] at this; exact this
      · rw [if_neg (show ¬ n % 2 = 1 by omega)]
        refine wp_decs (fun h3 => wp_ret (by rw [if_pos (by omega)]; rfl)) (fun h3 => wp_tt (by decide) ?_)
        rw [if_neg (by omega)]
        refine wp_decs (fun h4 => wp_call m2 ?_) (fun h4 => ?_)
        · rw [if_neg (by omega)]
          exact whole_Pow_loop N k m (n / 2) _ _ hk' (by omega) (by omega) (by omega) (by omega)
        · rw [if_pos (by omega)]
          have e0 : n / 2 = 0 := by omega
          rw [e0]
          have := whole_Pow_loop N k m 0 out base (Nat.pow_pos (by decide)) (by omega) (by omega) (by omega) hb
          have e1 : powR k 0 out base = (out, 0) := by cases k <;> simp [powR]
          rw [e1] at this; exact this
    · rw [if_pos (by omega)]; rfl
def powZ (x n : Int) : Int × Int := if n < 0 then (0, 3) else powR 20 n.toNat 1 x
theorem whole_Pow_sp (a : Wh) (n : Int) (ha : a.mag.length ≤ 100) (hn : n ≤ 1000000) : Sp 72 [dW a, .int n] (powD (powZ (zv a) n)) := by
  refine sound_ 21 (whole_Pow_tree _ _ _) ?_
  simp only [toInt_int, dW_zero]
  unfold powZ
  refine wp_decs (fun h => wp_ret (by rw [if_pos h]; rfl)) (fun h => wp_call (whole_Of_sp 1 (by unfold inR; decide)) (wp_call (whole_Norm_sp a (by omega)) ?_))
  rw [if_neg h]
  obtain ⟨k, rfl⟩ : ∃ k : Nat, n = (k : Int) := ⟨n.toNat, by omega⟩
  rw [Int.toNat_natCast]
  have l1 : lenZ 1 ≤ 1 := lb_len.2 (by decide)
  have l2 : lenZ (zv a) ≤ 100 := Nat.le_trans (wz_len a) ha
  exact whole_Pow_loop 21 20 21 k 1 (zv a) (by omega) (by omega) (by omega) (by omega) l2
end Go.Proofs.Ytjmddikeadbmjaa
set_option maxRecDepth 100000
namespace Go.Proofs.Ytjmddikeadbmjaa

theorem inr (z : Int) (h1 : -100000 ≤ z := by decide) (h2 : z ≤ 100000 := by decide) : inR z := by unfold inR; omega
theorem lenZ_le {z : Int} {k : Nat} (h : z.natAbs < B ^ k) : lenZ z ≤ k := lb_len.2 h
theorem lenZ_lt (z : Int) : z.natAbs < B ^ lenZ z := lb_len.1 (Nat.le_refl _)
theorem lenZ_add (x y : Int) : lenZ (x + y) ≤ max (lenZ x) (lenZ y) + 1 := by
  refine lenZ_le ?_
  have h1 : x.natAbs < B ^ max (lenZ x) (lenZ y) := Nat.lt_of_lt_of_le (lenZ_lt x) (Nat.pow_le_pow_right B_pos (Nat.le_max_left _ _))
  have h2 : y.natAbs < B ^ max (lenZ x) (lenZ y) := Nat.lt_of_lt_of_le (lenZ_lt y) (Nat.pow_le_pow_right B_pos (Nat.le_max_right _ _))
  have h3 := Int.natAbs_add_le x y
  rw [Nat.pow_succ]
  generalize B ^ max (lenZ x) (lenZ y) = q at *
  rw [B_eq]; omega
theorem lenZ_neg (x : Int) : lenZ (-x) = lenZ x := by unfold lenZ; rw [Int.natAbs_neg]
theorem lenZ_zv (w : Wh) : lenZ (zv w) ≤ w.mag.length := wz_len w
theorem wzl (z : Int) : (wz z).mag.length = lenZ z := rfl
theorem powR_len : ∀ (k n : Nat) (out base : Int), lenZ out ≤ 100 → lenZ (powR k n out base).1 ≤ 100
  | 0, _, out, base, h => h
  | k + 1, n, out, base, h => by
    have z0 : lenZ 0 ≤ 100 := by unfold lenZ; rw [show Int.natAbs 0 = 0 from rfl, lb_zero]; simp
    rw [powR]
    generalize (if n % 2 = 1 then out * base else out) = o
    split
    · exact h
    split
    · exact z0
    split
    · exact z0
    rename_i h3
    split
    · show lenZ o ≤ 100; omega
    · exact powR_len k _ o _ (by omega)
theorem dmZ_spec (x y : Int) (hy : y ≠ 0) : (dmZ x y).1 * y + (dmZ x y).2 = x ∧ (dmZ x y).1.natAbs ≤ x.natAbs + 1 ∧ (dmZ x y).2.natAbs < y.natAbs ∧ (0 < y → 0 ≤ (dmZ x y).2) ∧ (y < 0 → (dmZ x y).2 ≤ 0) := by
  have hdm := Nat.div_add_mod x.natAbs y.natAbs
  have hml := Nat.mod_lt x.natAbs (show 0 < y.natAbs by omega)
  have hdl := Nat.div_le_self x.natAbs y.natAbs
  unfold dmZ
  generalize x.natAbs / y.natAbs = q at *
  generalize x.natAbs % y.natAbs = r at *
  generalize hX : x.natAbs = X at *
  generalize hY : y.natAbs = Y at *
  have hdm' : (Y : Int) * (q : Int) + (r : Int) = (X : Int) := by rw [← hdm]; simp
  by_cases hx0 : x < 0 <;> by_cases hy0 : y < 0
  · obtain rfl : x = -(X : Int) := by omega
    obtain rfl : y = -(Y : Int) := by omega
    simp only [hx0, hy0, if_true]
    refine ⟨by rw [Int.mul_neg, Int.mul_comm]; omega, by omega, by omega, fun h => by first | omega | exact False.elim h, fun h => by first | omega | exact False.elim h⟩
  · obtain rfl : x = -(X : Int) := by omega
    obtain rfl : y = (Y : Int) := by omega
    simp only [hx0, hy0, if_true]
    rw [if_neg (by simp)]
    split
    · rename_i h0
      subst h0
      refine ⟨by rw [Int.neg_mul, Int.mul_comm]; omega, by omega, by omega, fun h => by first | omega | exact False.elim h, fun h => by first | omega | exact False.elim h⟩
    · refine ⟨by rw [Int.sub_mul, Int.neg_mul, Int.mul_comm (q : Int)]; omega, by omega, by omega, fun h => by first | omega | exact False.elim h, fun h => by first | omega | exact False.elim h⟩
  · obtain rfl : x = (X : Int) := by omega
    obtain rfl : y = -(Y : Int) := by omega
    simp only [hx0, hy0, if_false]
    rw [if_neg (by simp)]
    split
    · rename_i h0
      subst h0
      refine ⟨by rw [Int.neg_mul_neg, Int.mul_comm]; omega, by omega, by omega, fun h => by first | omega | exact False.elim h, fun h => by first | omega | exact False.elim h⟩
    · refine ⟨by rw [Int.sub_mul, Int.neg_mul_neg, Int.mul_comm (q : Int)]; omega, by omega, by omega, fun h => by first | omega | exact False.elim h, fun h => by first | omega | exact False.elim h⟩
  · obtain rfl : x = (X : Int) := by omega
    obtain rfl : y = (Y : Int) := by omega
    simp only [hx0, hy0, if_false, if_true]
    refine ⟨by rw [Int.mul_comm]; omega, by omega, by omega, fun h => by first | omega | exact False.elim h, fun h => by first | omega | exact False.elim h⟩
theorem lenZ_dm (x y : Int) (hy : y ≠ 0) : lenZ (dmZ x y).1 ≤ lenZ x + 1 ∧ lenZ (dmZ x y).2 ≤ lenZ y := by
  obtain ⟨_, h1, h2, _⟩ := dmZ_spec x y hy
  have a := lenZ_lt x
  have b := lenZ_lt y
  refine ⟨lenZ_le ?_, lenZ_le (Nat.lt_trans h2 b)⟩
  rw [Nat.pow_succ]
  have := Bp (lenZ x)
  have hB := B_eq
  generalize B ^ lenZ x = P at *
  rw [hB]; omega
end Go.Proofs.Ytjmddikeadbmjaa
