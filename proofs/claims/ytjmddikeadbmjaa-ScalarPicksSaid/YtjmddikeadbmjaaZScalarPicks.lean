/- Proved: for any array and any int, the law ScalarPicks returns true and changes nothing. No condition. -/
import Derived.Test.YtjmddikeadbmjaaRows
import Derived.WalkKit
import Derived.WalkSpells
import Derived.WalkLawsBesides
import Derived.Lib.Hide
import Derived.Laws.CopyOwn
import Derived.Deep.QuietTactic
import Derived.BigQuiet
import Derived.Orders
import Derived.Defers
import Derived.Recover
import Derived.Test.YtjmddikeadbmjaaProg
import Derived.KernelRfl
import Derived.ProofKit
import Derived.OpenShut
import Derived.Test.YtjmddikeadbmjaaZ566d397e
set_option linter.unusedSimpArgs false
set_option linter.unusedVariables false
set_option maxRecDepth 100000
namespace Go.Proofs.Ytjmddikeadbmjaa
/-! scrim/scalar.Pick -/
def scalar_Pick_orc : List (Nat × Orc) := []
theorem scalar_Pick_tree (n : Nat) (a0 : D) (i1 : D) : evFun Try.prog md scalar_Pick_orc n 7 [] [a0, i1] =
 .call 17 [] [a0, D.int i1.toInt] fun yy1 =>
 .call 12 [] [D.sl [yy1.getD 0 D.nil]] fun yy2 =>
 .br (decide (0 ≤ 0)) (.br (decide (0 < ((((yy2.getD 0 D.nil).fld 2).els).length : Int))) (.ret [(((yy2.getD 0 D.nil).fld 2).els).getD (Int.toNat 0) D.nil]) .fail) .fail := by kernel_rfl

/-! scrim/scalar.Two -/
def scalar_Two_orc : List (Nat × Orc) := [(11, ⟨[(0, none), (4, none), (5, none), (6, none), (11, none), (48, none), (49, none)], [(4, true), (5, true), (6, false), (11, false)], [(.fld 11 [2], 1110, 35)]⟩)]
def scalar_Two_ps : List Nat := [3, 26, 26]
def scalar_Two_rs : List ResultVar := [.cell 6 26, .tmp 7]
def scalar_Two_ts : List Nat := [26, 40]
noncomputable def scalar_Two_l11 (n m11 : Nat) (f0 : Int) (t48 : Int) (t49 : Int) (a4 : D) (b5 : D) (t6_0 : Int) (out11_0 : Int) (out11_1 : D) (out11_2 : List D) : Tree :=
  evLoop Try.prog md (ev Try.prog md n scalar_Two_orc (cAt (bodyOf Try.prog 11) [1, 1, 1, 1, 1, 1, 1, 0, 1, 0, 0])) (orcAt scalar_Two_orc 11) m11 ⟨[.i .i64 f0, .undef, .undef, .undef, .ptr 4 [], .ptr 5 [], .ptr 6 [], .undef, .undef, .undef, .undef, .ptr 11 [], .undef, .undef, .undef, .undef, .undef, .undef, .undef, .undef, .undef, .undef, .undef, .undef, .undef, .undef, .undef, .undef, .undef, .undef, .undef, .undef, .undef, .undef, .undef, .undef, .undef, .undef, .undef, .undef, .undef, .undef, .undef, .undef, .undef, .undef, .undef, .undef, .i .i64 t48, .i .i64 t49, .undef, .undef, .undef, .undef, .undef, .undef, .undef, .undef, .undef, .undef, .undef, .undef, .undef, .undef, .undef, .undef, .undef, .undef, .undef, .undef, .undef, .undef, .undef, .undef], [(4, .var 26 (.d 26 a4) true), (5, .var 26 (.d 26 b5) true), (6, .var 26 (.agg 26 [.i .u64 t6_0, .mt, .mt]) true), (11, .var 26 (.agg 26 [.i .u64 out11_0, .d 23 out11_1, .row 1110]) true), (1110, .row 35 out11_2 true)], [4, 5, 6, 11, 1110], [], []⟩
   (blockK 0 (seqK (joinE Try.prog md (joinAt scalar_Two_orc (cAt (bodyOf Try.prog 11) [1, 1, 1, 1, 1, 1, 1, 1])) (ev Try.prog md n scalar_Two_orc (cAt (bodyOf Try.prog 11) [1, 1, 1, 1, 1, 1, 1, 1]))) (retK Try.prog md (md 11) scalar_Two_ps scalar_Two_rs scalar_Two_ts)))
theorem scalar_Two_l11_succ (n m11 : Nat) (f0 : Int) (t48 : Int) (t49 : Int) (a4 : D) (b5 : D) (t6_0 : Int) (out11_0 : Int) (out11_1 : D) (out11_2 : List D) : scalar_Two_l11 n (m11 + 1) f0 t48 t49 a4 b5 t6_0 out11_0 out11_1 out11_2 =
 .br (decide (t49 < t48)) (.call 17 [] [a4, D.int t49] fun yy4 =>
 .call 17 [] [b5, D.int t49] fun yy5 =>
 .call 22 [] [D.int f0, yy4.getD 0 D.nil, yy5.getD 0 D.nil] fun yy6 =>
 .br (((yy6.getD 1 D.nil).toInt) != 0) (.ret [D.agg [D.int 0, D.sl [], D.sl []], D.int ((yy6.getD 1 D.nil).toInt)])
 (.br (decide (0 ≤ t49)) (.br (decide (t49 < (out11_2.length : Int))) (scalar_Two_l11 n m11 f0 t48 (IntKind.wrap .i64 (t49 + 1)) a4 b5 t6_0 out11_0 out11_1 (out11_2.set (Int.toNat t49) (yy6.getD 0 D.nil))) .fail) .fail))
 (.ret [D.agg [D.int out11_0, out11_1, D.sl out11_2], D.int 0]) := by kernel_rfl
theorem scalar_Two_tree (n : Nat) (f0 : D) (a1 : D) (b2 : D) : evFun Try.prog md scalar_Two_orc n 11 [] [f0, a1, b2] =
 .call 19 [] [D.int f0.toInt] fun yy1 =>
 .br (!((yy1.getD 0 D.nil).toBool)) (.ret [D.agg [D.int 0, D.sl [], D.sl []], D.int 8])
 (.call 20 [] [a1, b2] fun yy2 =>
 .br (((yy2.getD 1 D.nil).toInt) != 0) (.ret [D.agg [D.int 0, D.sl [], D.sl []], D.int ((yy2.getD 1 D.nil).toInt)])
 (.br ((((a1.fld 1).els).length : Int) == 0) (.call 21 [] [D.int ((a1.fld 0).toInt), D.int ((b2.fld 0).toInt)] fun yy3 =>
 .br (decide (0 ≤ (((b2.fld 2).els).length : Int))) (.br (decide ((((b2.fld 2).els).length : Int) ≤ (((b2.fld 2).els).length : Int))) (.br (decide ((((b2.fld 2).els).length : Int) ≤ bigN)) (scalar_Two_l11 n n f0.toInt (((b2.fld 2).els).length : Int) 0 a1 b2 0 ((yy3.getD 0 D.nil).toInt) (yy2.getD 0 D.nil) (List.replicate (Int.toNat (((b2.fld 2).els).length : Int)) (D.agg [D.int 0, D.int 0, D.agg [D.bool false, D.sl [], D.sl []], D.int 0, D.sl []]))) .fail) .fail) .fail)
 (.call 21 [] [D.int ((a1.fld 0).toInt), D.int ((b2.fld 0).toInt)] fun yy7 =>
 .br (decide (0 ≤ (((a1.fld 2).els).length : Int))) (.br (decide ((((a1.fld 2).els).length : Int) ≤ (((a1.fld 2).els).length : Int))) (.br (decide ((((a1.fld 2).els).length : Int) ≤ bigN)) (scalar_Two_l11 n n f0.toInt (((a1.fld 2).els).length : Int) 0 a1 b2 0 ((yy7.getD 0 D.nil).toInt) (yy2.getD 0 D.nil) (List.replicate (Int.toNat (((a1.fld 2).els).length : Int)) (D.agg [D.int 0, D.int 0, D.agg [D.bool false, D.sl [], D.sl []], D.int 0, D.sl []]))) .fail) .fail) .fail))) := by kernel_rfl

/-! scrim/scalar.pick -/
def scalar_pick_orc : List (Nat × Orc) := []
theorem scalar_pick_tree (n : Nat) (a0 : D) (i1 : D) : evFun Try.prog md scalar_pick_orc n 17 [] [a0, i1] =
 .br ((((a0.fld 1).els).length : Int) == 0) (.br (decide ((0 : Int) < 0)) (.ret [D.agg [D.int 0, D.int 0, D.agg [D.bool false, D.sl [], D.sl []], D.int 0, D.sl []]])
 (.br (decide ((((a0.fld 2).els).length : Int) ≤ (0 : Int))) (.ret [D.agg [D.int 0, D.int 0, D.agg [D.bool false, D.sl [], D.sl []], D.int 0, D.sl []]])
 (.br (decide (0 ≤ 0)) (.br (decide (0 < (((a0.fld 2).els).length : Int))) (.ret [((a0.fld 2).els).getD (Int.toNat 0) D.nil]) .fail) .fail)))
 (.br (decide (i1.toInt < 0)) (.ret [D.agg [D.int 0, D.int 0, D.agg [D.bool false, D.sl [], D.sl []], D.int 0, D.sl []]])
 (.br (decide ((((a0.fld 2).els).length : Int) ≤ i1.toInt)) (.ret [D.agg [D.int 0, D.int 0, D.agg [D.bool false, D.sl [], D.sl []], D.int 0, D.sl []]])
 (.br (decide (0 ≤ i1.toInt)) (.br (decide (i1.toInt < (((a0.fld 2).els).length : Int))) (.ret [((a0.fld 2).els).getD (Int.toNat i1.toInt) D.nil]) .fail) .fail))) := by kernel_rfl

/-! scrim/scalar.IsTwo -/
def scalar_IsTwo_orc : List (Nat × Orc) := []
theorem scalar_IsTwo_tree (n : Nat) (f0 : D) : evFun Try.prog md scalar_IsTwo_orc n 19 [] [f0] =
 .br (f0.toInt == 43) (.br (f0.toInt == 43) (.ret [D.bool true])
 (.ret [D.bool false]))
 (.br (f0.toInt == 45) (.br (f0.toInt == 45) (.ret [D.bool true])
 (.ret [D.bool false]))
 (.br (f0.toInt == 215) (.br (f0.toInt == 215) (.ret [D.bool true])
 (.ret [D.bool false]))
 (.br (f0.toInt == 247) (.br (f0.toInt == 247) (.ret [D.bool true])
 (.ret [D.bool false]))
 (.br (f0.toInt == 8968) (.br (f0.toInt == 8968) (.ret [D.bool true])
 (.ret [D.bool false]))
 (.br (f0.toInt == 8970) (.br (f0.toInt == 8970) (.ret [D.bool true])
 (.ret [D.bool false]))
 (.br (f0.toInt == 124) (.br (f0.toInt == 124) (.ret [D.bool true])
 (.ret [D.bool false]))
 (.br (f0.toInt == 42) (.br (f0.toInt == 42) (.ret [D.bool true])
 (.ret [D.bool false]))
 (.br (f0.toInt == 60) (.br (f0.toInt == 60) (.ret [D.bool true])
 (.ret [D.bool false]))
 (.br (f0.toInt == 8804) (.br (f0.toInt == 8804) (.ret [D.bool true])
 (.ret [D.bool false]))
 (.br (f0.toInt == 61) (.br (f0.toInt == 61) (.ret [D.bool true])
 (.ret [D.bool false]))
 (.br (f0.toInt == 8805) (.br (f0.toInt == 8805) (.ret [D.bool true])
 (.ret [D.bool false]))
 (.br (f0.toInt == 62) (.br (f0.toInt == 62) (.ret [D.bool true])
 (.ret [D.bool false]))
 (.br (f0.toInt == 8800) (.br (f0.toInt == 8800) (.ret [D.bool true])
 (.ret [D.bool false]))
 (.br (f0.toInt == 8743) (.br (f0.toInt == 8743) (.ret [D.bool true])
 (.ret [D.bool false]))
 (.br (f0.toInt == 8744) (.ret [D.bool true])
 (.ret [D.bool false])))))))))))))))) := by kernel_rfl

/-! scrim/scalar.Conform -/
def scalar_Conform_orc : List (Nat × Orc) := []
theorem scalar_Conform_tree (n : Nat) (a0 : D) (b1 : D) : evFun Try.prog md scalar_Conform_orc n 20 [] [a0, b1] =
 .br ((((a0.fld 1).els).length : Int) == 0) (.call 30 [] [b1.fld 1] fun yy1 =>
 .ret [D.sl ((yy1.getD 0 D.nil).els), D.int 0])
 (.br ((((b1.fld 1).els).length : Int) == 0) (.call 30 [] [a0.fld 1] fun yy2 =>
 .ret [D.sl ((yy2.getD 0 D.nil).els), D.int 0])
 (.br ((((a0.fld 1).els).length : Int) != (((b1.fld 1).els).length : Int)) (.ret [D.sl [], D.int 5])
 (.call 31 [] [a0.fld 1, b1.fld 1] fun yy3 =>
 .br (!((yy3.getD 0 D.nil).toBool)) (.ret [D.sl [], D.int 4])
 (.call 30 [] [a0.fld 1] fun yy4 =>
 .ret [D.sl ((yy4.getD 0 D.nil).els), D.int 0])))) := by kernel_rfl

/-! scrim/scalar.twoCells -/
def scalar_twoCells_orc : List (Nat × Orc) := []
theorem scalar_twoCells_tree (n : Nat) (f0 : D) (x1 : D) (y2 : D) : evFun Try.prog md scalar_twoCells_orc n 22 [] [f0, x1, y2] =
 .call 21 [] [D.int ((x1.fld 0).toInt), D.int ((y2.fld 0).toInt)] fun yy1 =>
 .br (((x1.fld 1).toInt) == 2) (.call 32 [] [x1] fun yy2 =>
 .call 32 [] [y2] fun yy3 =>
 .call 11 [] [D.int f0.toInt, yy2.getD 0 D.nil, yy3.getD 0 D.nil] fun yy4 =>
 .ret [D.agg [D.int ((yy1.getD 0 D.nil).toInt), D.int 2, D.agg [D.bool false, D.sl [], D.sl []], D.int 0, D.sl [yy4.getD 0 D.nil]], D.int ((yy4.getD 1 D.nil).toInt)])
 (.br (((y2.fld 1).toInt) == 2) (.call 32 [] [x1] fun yy5 =>
 .call 32 [] [y2] fun yy6 =>
 .call 11 [] [D.int f0.toInt, yy5.getD 0 D.nil, yy6.getD 0 D.nil] fun yy7 =>
 .ret [D.agg [D.int ((yy1.getD 0 D.nil).toInt), D.int 2, D.agg [D.bool false, D.sl [], D.sl []], D.int 0, D.sl [yy7.getD 0 D.nil]], D.int ((yy7.getD 1 D.nil).toInt)])
 (.br (((x1.fld 1).toInt) == 0) (.br (((y2.fld 1).toInt) == 0) (.call 33 [] [D.int f0.toInt, x1.fld 2, y2.fld 2] fun yy8 =>
 .ret [D.agg [D.int ((yy1.getD 0 D.nil).toInt), D.int 0, yy8.getD 0 D.nil, D.int 0, D.sl []], D.int ((yy8.getD 1 D.nil).toInt)])
 (.br (f0.toInt == 61) (.br (((x1.fld 1).toInt) == ((y2.fld 1).toInt)) (.call 34 [] [D.bool ((((x1.fld 3).toInt) == ((y2.fld 3).toInt)) == (f0.toInt == 61))] fun yy9 =>
 .ret [D.agg [D.int ((yy1.getD 0 D.nil).toInt), D.int 0, yy9.getD 0 D.nil, D.int 0, D.sl []], D.int 0])
 (.call 34 [] [D.bool (false == (f0.toInt == 61))] fun yy10 =>
 .ret [D.agg [D.int ((yy1.getD 0 D.nil).toInt), D.int 0, yy10.getD 0 D.nil, D.int 0, D.sl []], D.int 0]))
 (.br (f0.toInt == 8800) (.br (((x1.fld 1).toInt) == ((y2.fld 1).toInt)) (.call 34 [] [D.bool ((((x1.fld 3).toInt) == ((y2.fld 3).toInt)) == (f0.toInt == 61))] fun yy11 =>
 .ret [D.agg [D.int ((yy1.getD 0 D.nil).toInt), D.int 0, yy11.getD 0 D.nil, D.int 0, D.sl []], D.int 0])
 (.call 34 [] [D.bool (false == (f0.toInt == 61))] fun yy12 =>
 .ret [D.agg [D.int ((yy1.getD 0 D.nil).toInt), D.int 0, yy12.getD 0 D.nil, D.int 0, D.sl []], D.int 0]))
 (.ret [D.agg [D.int ((yy1.getD 0 D.nil).toInt), D.int 0, D.agg [D.bool false, D.sl [], D.sl []], D.int 0, D.sl []], D.int 3]))))
 (.br (f0.toInt == 61) (.br (((x1.fld 1).toInt) == ((y2.fld 1).toInt)) (.call 34 [] [D.bool ((((x1.fld 3).toInt) == ((y2.fld 3).toInt)) == (f0.toInt == 61))] fun yy13 =>
 .ret [D.agg [D.int ((yy1.getD 0 D.nil).toInt), D.int 0, yy13.getD 0 D.nil, D.int 0, D.sl []], D.int 0])
 (.call 34 [] [D.bool (false == (f0.toInt == 61))] fun yy14 =>
 .ret [D.agg [D.int ((yy1.getD 0 D.nil).toInt), D.int 0, yy14.getD 0 D.nil, D.int 0, D.sl []], D.int 0]))
 (.br (f0.toInt == 8800) (.br (((x1.fld 1).toInt) == ((y2.fld 1).toInt)) (.call 34 [] [D.bool ((((x1.fld 3).toInt) == ((y2.fld 3).toInt)) == (f0.toInt == 61))] fun yy15 =>
 .ret [D.agg [D.int ((yy1.getD 0 D.nil).toInt), D.int 0, yy15.getD 0 D.nil, D.int 0, D.sl []], D.int 0])
 (.call 34 [] [D.bool (false == (f0.toInt == 61))] fun yy16 =>
 .ret [D.agg [D.int ((yy1.getD 0 D.nil).toInt), D.int 0, yy16.getD 0 D.nil, D.int 0, D.sl []], D.int 0]))
 (.ret [D.agg [D.int ((yy1.getD 0 D.nil).toInt), D.int 0, D.agg [D.bool false, D.sl [], D.sl []], D.int 0, D.sl []], D.int 3]))))) := by kernel_rfl

/-! scrim/scalar.content -/
def scalar_content_orc : List (Nat × Orc) := []
theorem scalar_content_tree (n : Nat) (c0 : D) : evFun Try.prog md scalar_content_orc n 32 [] [c0] =
 .br (((c0.fld 1).toInt) == 2) (.call 42 [] [c0] fun yy1 =>
 .ret [yy1.getD 0 D.nil])
 (.call 13 [] [D.agg [D.int 0, D.int ((c0.fld 1).toInt), c0.fld 2, D.int ((c0.fld 3).toInt), c0.fld 4]] fun yy2 =>
 .ret [yy2.getD 0 D.nil]) := by kernel_rfl

/-! scrim/scalar.Numbers -/
def scalar_Numbers_orc : List (Nat × Orc) := []
theorem scalar_Numbers_tree (n : Nat) (f0 : D) (a1 : D) (b2 : D) : evFun Try.prog md scalar_Numbers_orc n 33 [] [f0, a1, b2] =
 .br (f0.toInt == 43) (.call 43 [] [a1, b2] fun yy1 =>
 .ret [yy1.getD 0 D.nil, D.int ((yy1.getD 1 D.nil).toInt)])
 (.br (f0.toInt == 45) (.call 44 [] [a1, b2] fun yy2 =>
 .ret [yy2.getD 0 D.nil, D.int ((yy2.getD 1 D.nil).toInt)])
 (.br (f0.toInt == 215) (.call 45 [] [a1, b2] fun yy3 =>
 .ret [yy3.getD 0 D.nil, D.int ((yy3.getD 1 D.nil).toInt)])
 (.br (f0.toInt == 247) (.call 46 [] [a1, b2] fun yy4 =>
 .ret [yy4.getD 0 D.nil, D.int ((yy4.getD 1 D.nil).toInt)])
 (.br (f0.toInt == 8968) (.br (f0.toInt == 8968) (.call 47 [] [a1, b2] fun yy5 =>
 .br ((decide (((yy5.getD 0 D.nil).toInt) < 0)) == (f0.toInt == 8968)) (.call 48 [] [b2] fun yy6 =>
 .ret [(yy6.getD 0 D.nil).fld 2, D.int 0])
 (.call 48 [] [a1] fun yy7 =>
 .ret [(yy7.getD 0 D.nil).fld 2, D.int 0]))
 (.br (f0.toInt == 124) (.call 49 [] [a1, b2] fun yy8 =>
 .ret [yy8.getD 0 D.nil, D.int ((yy8.getD 1 D.nil).toInt)])
 (.br (f0.toInt == 42) (.call 50 [] [b2] fun yy9 =>
 .br (!((yy9.getD 1 D.nil).toBool)) (.ret [D.agg [D.bool false, D.sl [], D.sl []], D.int 8])
 (.call 51 [] [a1, D.int ((yy9.getD 0 D.nil).toInt)] fun yy10 =>
 .ret [yy10.getD 0 D.nil, D.int ((yy10.getD 1 D.nil).toInt)]))
 (.br (f0.toInt == 8743) (.call 52 [] [a1, b2] fun yy11 =>
 .ret [yy11.getD 0 D.nil, D.int ((yy11.getD 1 D.nil).toInt)])
 (.br (f0.toInt == 8744) (.call 53 [] [a1, b2] fun yy12 =>
 .ret [yy12.getD 0 D.nil, D.int ((yy12.getD 1 D.nil).toInt)])
 (.call 54 [] [D.int f0.toInt, a1, b2] fun yy13 =>
 .ret [yy13.getD 0 D.nil, D.int ((yy13.getD 1 D.nil).toInt)]))))))
 (.br (f0.toInt == 8970) (.call 47 [] [a1, b2] fun yy14 =>
 .br ((decide (((yy14.getD 0 D.nil).toInt) < 0)) == (f0.toInt == 8968)) (.call 48 [] [b2] fun yy15 =>
 .ret [(yy15.getD 0 D.nil).fld 2, D.int 0])
 (.call 48 [] [a1] fun yy16 =>
 .ret [(yy16.getD 0 D.nil).fld 2, D.int 0]))
 (.br (f0.toInt == 124) (.call 49 [] [a1, b2] fun yy17 =>
 .ret [yy17.getD 0 D.nil, D.int ((yy17.getD 1 D.nil).toInt)])
 (.br (f0.toInt == 42) (.call 50 [] [b2] fun yy18 =>
 .br (!((yy18.getD 1 D.nil).toBool)) (.ret [D.agg [D.bool false, D.sl [], D.sl []], D.int 8])
 (.call 51 [] [a1, D.int ((yy18.getD 0 D.nil).toInt)] fun yy19 =>
 .ret [yy19.getD 0 D.nil, D.int ((yy19.getD 1 D.nil).toInt)]))
 (.br (f0.toInt == 8743) (.call 52 [] [a1, b2] fun yy20 =>
 .ret [yy20.getD 0 D.nil, D.int ((yy20.getD 1 D.nil).toInt)])
 (.br (f0.toInt == 8744) (.call 53 [] [a1, b2] fun yy21 =>
 .ret [yy21.getD 0 D.nil, D.int ((yy21.getD 1 D.nil).toInt)])
 (.call 54 [] [D.int f0.toInt, a1, b2] fun yy22 =>
 .ret [yy22.getD 0 D.nil, D.int ((yy22.getD 1 D.nil).toInt)])))))))))) := by kernel_rfl

/-! scrim/scalar.truth -/
def scalar_truth_orc : List (Nat × Orc) := []
theorem scalar_truth_tree (n : Nat) (holds0 : D) : evFun Try.prog md scalar_truth_orc n 34 [] [holds0] =
 .br holds0.toBool (.call 18 [] [D.int 1] fun yy1 =>
 .ret [yy1.getD 0 D.nil])
 (.call 18 [] [D.int 0] fun yy2 =>
 .ret [yy2.getD 0 D.nil]) := by kernel_rfl

/-! scrim/scalar.inside -/
def scalar_inside_orc : List (Nat × Orc) := []
theorem scalar_inside_tree (n : Nat) (c0 : D) : evFun Try.prog md scalar_inside_orc n 42 [] [c0] =
 .br ((((c0.fld 4).els).length : Int) == 0) (.ret [D.agg [D.int 0, D.sl [], D.sl []]])
 (.br (decide (0 ≤ 0)) (.br (decide (0 < (((c0.fld 4).els).length : Int))) (.ret [((c0.fld 4).els).getD (Int.toNat 0) D.nil]) .fail) .fail) := by kernel_rfl

/-! scrim/scalar.compared -/
def scalar_compared_orc : List (Nat × Orc) := []
theorem scalar_compared_tree (n : Nat) (f0 : D) (a1 : D) (b2 : D) : evFun Try.prog md scalar_compared_orc n 54 [] [f0, a1, b2] =
 .call 47 [] [a1, b2] fun yy1 =>
 .br (f0.toInt == 60) (.call 34 [] [D.bool (decide (((yy1.getD 0 D.nil).toInt) < 0))] fun yy2 =>
 .ret [yy2.getD 0 D.nil, D.int 0])
 (.br (f0.toInt == 8804) (.call 34 [] [D.bool (decide (((yy1.getD 0 D.nil).toInt) ≤ 0))] fun yy3 =>
 .ret [yy3.getD 0 D.nil, D.int 0])
 (.br (f0.toInt == 61) (.call 34 [] [D.bool (((yy1.getD 0 D.nil).toInt) == 0)] fun yy4 =>
 .ret [yy4.getD 0 D.nil, D.int 0])
 (.br (f0.toInt == 8805) (.call 34 [] [D.bool (decide (0 ≤ ((yy1.getD 0 D.nil).toInt)))] fun yy5 =>
 .ret [yy5.getD 0 D.nil, D.int 0])
 (.br (f0.toInt == 62) (.call 34 [] [D.bool (decide (0 < ((yy1.getD 0 D.nil).toInt)))] fun yy6 =>
 .ret [yy6.getD 0 D.nil, D.int 0])
 (.br (f0.toInt == 8800) (.call 34 [] [D.bool (((yy1.getD 0 D.nil).toInt) != 0)] fun yy7 =>
 .ret [yy7.getD 0 D.nil, D.int 0])
 (.ret [D.agg [D.bool false, D.sl [], D.sl []], D.int 8])))))) := by kernel_rfl

end Go.Proofs.Ytjmddikeadbmjaa
set_option maxRecDepth 100000
namespace Go.Proofs.Ytjmddikeadbmjaa
/-! scrim/scrimref10.Pick -/
def ref10_Pick_orc : List (Nat × Orc) := []
theorem ref10_Pick_tree (n : Nat) (a0 : D) (i1 : D) : evFun Try.prog md ref10_Pick_orc n 8 [] [a0, i1] =
 .br ((((a0.fld 1).els).length : Int) == 0) (.br (decide (0 < (((a0.fld 2).els).length : Int))) (.br (decide (0 ≤ 0)) (.br (decide (0 < (((a0.fld 2).els).length : Int))) (.ret [((a0.fld 2).els).getD (Int.toNat 0) D.nil]) .fail) .fail)
 (.br (decide (i1.toInt < 0)) (.ret [D.agg [D.int 0, D.int 0, D.agg [D.bool false, D.sl [], D.sl []], D.int 0, D.sl []]])
 (.br (decide ((((a0.fld 2).els).length : Int) ≤ i1.toInt)) (.ret [D.agg [D.int 0, D.int 0, D.agg [D.bool false, D.sl [], D.sl []], D.int 0, D.sl []]])
 (.br ((((a0.fld 1).els).length : Int) == 0) (.ret [D.agg [D.int 0, D.int 0, D.agg [D.bool false, D.sl [], D.sl []], D.int 0, D.sl []]])
 (.br (decide (0 ≤ i1.toInt)) (.br (decide (i1.toInt < (((a0.fld 2).els).length : Int))) (.ret [((a0.fld 2).els).getD (Int.toNat i1.toInt) D.nil]) .fail) .fail)))))
 (.br (decide (i1.toInt < 0)) (.ret [D.agg [D.int 0, D.int 0, D.agg [D.bool false, D.sl [], D.sl []], D.int 0, D.sl []]])
 (.br (decide ((((a0.fld 2).els).length : Int) ≤ i1.toInt)) (.ret [D.agg [D.int 0, D.int 0, D.agg [D.bool false, D.sl [], D.sl []], D.int 0, D.sl []]])
 (.br ((((a0.fld 1).els).length : Int) == 0) (.ret [D.agg [D.int 0, D.int 0, D.agg [D.bool false, D.sl [], D.sl []], D.int 0, D.sl []]])
 (.br (decide (0 ≤ i1.toInt)) (.br (decide (i1.toInt < (((a0.fld 2).els).length : Int))) (.ret [((a0.fld 2).els).getD (Int.toNat i1.toInt) D.nil]) .fail) .fail)))) := by kernel_rfl

end Go.Proofs.Ytjmddikeadbmjaa
set_option maxRecDepth 100000
namespace Go.Proofs.Ytjmddikeadbmjaa

def onesL : List Int := [43, 45, 215, 247, 8968, 8970, 124, 126, 33]
def twosL : List Int := [43, 45, 215, 247, 8968, 8970, 124, 42, 60, 8804, 61, 8805, 62, 8800, 8743, 8744]
theorem scalar_IsTwo_sp (f : Int) : Sp 19 [.int f] [.bool (decide (f ∈ twosL))] := by
  refine sound_ 0 (scalar_IsTwo_tree _ _) ?_
  simp only [toInt_int, int_beq]
  unfold twosL
  repeat (refine wp_decs (fun h => wp_dec h (wp_ret (by simp [h]))) (fun h => ?_))
  refine wp_decs (fun h => wp_ret (by simp [h])) (fun h => wp_ret (by simp [*]))
def truN (b : Bool) : Num := if b then ofZ 1 else ofZ 0
theorem scalar_truth_sp (b : Bool) : Sp 34 [.bool b] [dN (truN b)] := by
  refine sound_ 0 (scalar_truth_tree _ _) ?_
  cases b with
  | true => exact wp_tt rfl (wp_call (ratio_Of_sp 1 (by unfold inR; omega)) (wp_ret rfl))
  | false => exact wp_ff rfl (wp_call (ratio_Of_sp 0 (by unfold inR; omega)) (wp_ret rfl))
theorem truN_rn (b : Bool) : ∃ z, RNum (truN b) z 1 := by
  unfold truN
  cases b with
  | true => exact ⟨_, rnum_ofZ lenZ_small⟩
  | false => exact ⟨_, rnum_ofZ lenZ_small⟩
/-- The product of the whole numbers up to one. -/
def facN : Nat → Nat
  | 0 => 1
  | k + 1 => (k + 1) * facN k
def factR (n : Num) : Num × Int := if n.bot = [1] ∧ n.neg = false then (match smallN n with | some k => if k ≤ 200 then mkR (facN k.toNat : Nat) 1 else (.zero, 7) | none => (.zero, 7)) else (.zero, 3)
def oneN (f : Int) (n : Num) : Num × Int :=
  if f = 43 then (n, 0) else if f = 45 then (negN n, 0) else if f = 215 then (ofZ (sgnZ (numT n)), 0) else if f = 247 then divR (ofZ 1) n
  else if f = 8968 then (negN (flrN (negN n)), 0) else if f = 8970 then (flrN n, 0) else if f = 124 then (⟨false, n.top, n.bot⟩, 0)
  else if f = 126 then (if smallN n = some 0 then (ofZ 1, 0) else if smallN n = some 1 then (ofZ 0, 0) else (.zero, 3))
  else if f = 33 then factR n else (.zero, 8)
def cmpT (f c : Int) : Num × Int :=
  if f = 60 then (truN (decide (c < 0)), 0) else if f = 8804 then (truN (decide (c ≤ 0)), 0) else if f = 61 then (truN (decide (c = 0)), 0)
  else if f = 8805 then (truN (decide (0 ≤ c)), 0) else if f = 62 then (truN (decide (0 < c)), 0) else if f = 8800 then (truN (decide (¬ c = 0)), 0) else (.zero, 8)
def twoN (f : Int) (a b : Num) : Num × Int :=
  if f = 43 then addR a b else if f = 45 then subR a b else if f = 215 then mulR a b else if f = 247 then divR a b
  else if f = 8968 then (if cmpR a b < 0 then b else a, 0) else if f = 8970 then (if cmpR a b < 0 then a else b, 0)
  else if f = 124 then modR a b else if f = 42 then (match smallN b with | some k => powRt a k | none => (.zero, 8))
  else if f = 8743 then lcmR a b else if f = 8744 then gcdR a b else cmpT f (cmpR a b)
section
variable {a b : Num} {z y : Int} {d e : Nat}
theorem smallN_rn (h : RNum a z d) {k : Int} (hs : smallN a = some k) : k = z ∧ d = 1 ∧ inR z := by
  unfold smallN smO at hs
  split at hs
  · rename_i hb
    rw [h.top] at hs
    split at hs
    · rename_i hr
      injection hs with hs
      refine ⟨hs.symm, ?_, hr⟩
      have := h.bot
      rw [numB_one hb] at this
      omega
    · cases hs
  · cases hs
theorem smallN_of (h : RNum a z 1) (hr : inR z) : smallN a = some z := by
  have hb : a.bot = [1] := by rw [h.eq]; exact lbn_one
  unfold smallN smO
  rw [if_pos hb, h.top, if_pos hr]
theorem bot_one (h : RNum a z d) : a.bot = [1] ↔ d = 1 := by
  constructor
  · intro hb; have := h.bot; rw [numB_one hb] at this; omega
  · intro hd; rw [h.eq, hd]; exact lbn_one
theorem rn_val (h : RNum a z 1) : a = ofZ z := by rw [h.eq, frac_one]
theorem cmpZ_lt {x y : Int} : cmpZ x y < 0 ↔ x < y := by unfold cmpZ; by_cases h1 : x < y <;> by_cases h2 : x = y <;> simp [h1, h2]
theorem cmpZ_eq {x y : Int} : cmpZ x y = 0 ↔ x = y := by
  unfold cmpZ
  by_cases h1 : x < y
  · rw [if_pos h1]; exact ⟨fun h => by omega, fun h => by omega⟩
  · rw [if_neg h1]
    by_cases h2 : x = y
    · simp [h2]
    · simp [h2]
theorem cmpZ_gt {x y : Int} : 0 < cmpZ x y ↔ y < x := by
  unfold cmpZ
  by_cases h1 : x < y
  · rw [if_pos h1]; exact ⟨fun h => by omega, fun h => by omega⟩
  · rw [if_neg h1]
    by_cases h2 : x = y
    · simp [h2]
    · simp [h2]; omega
/-- Right numbers that stand together are the same. -/
theorem cmp_same (h : RNum a z d) (h' : RNum b y e) : cmpR a b = 0 ↔ a = b := by
  unfold cmpR
  rw [h.top, h.bot, h'.top, h'.bot, cmpZ_eq]
  constructor
  · intro he; exact rn_same h h' he
  · intro he
    have := h.top; have := h.bot; have := h'.top; have := h'.bot
    subst he
    have e1 : z = y := by rw [← h.top, ← h'.top]
    have e2 : (d : Int) = (e : Int) := by rw [← h.bot, ← h'.bot]
    rw [e1, e2]
theorem mkR_rn {p q : Int} (h : (mkR p q).2 = 0) : ∃ x c, RNum (mkR p q).1 x c := by
  by_cases hq : q = 0
  · unfold mkR at h; rw [if_pos hq] at h; cases h
  · obtain ⟨x, c, h1, _⟩ := (mkR_ok hq).1 h
    exact ⟨x, c, h1⟩
theorem abs_rn (h : RNum a z d) : RNum ⟨false, a.top, a.bot⟩ (z.natAbs : Int) d := by
  refine ⟨?_, h.d0, by simpa using h.cop, by have := h.lz; unfold lenZ at *; simpa using this, h.ld⟩
  rw [h.eq]
  unfold frac
  simp
theorem sgn_rn (h : RNum a z d) : RNum (ofZ (sgnZ z)) (sgnZ z) 1 := rnum_ofZ (by unfold sgnZ; split; exact lenZ_small; split <;> exact lenZ_small)
theorem bindR_ok {r : Num × Int} {f : Num → Num × Int} (h : (bindR r f).2 = 0) : r.2 = 0 ∧ bindR r f = f r.1 := by
  unfold bindR at h ⊢
  split at h
  · rename_i hh; rw [if_pos hh]; exact ⟨hh, rfl⟩
  · rename_i hh; exact absurd h hh
theorem modR_rn (_ : RNum a z d) (h' : RNum b y e) (h : (modR a b).2 = 0) : ∃ x c, RNum (modR a b).1 x c := by
  unfold modR at h ⊢
  split at h
  · rename_i hh; rw [if_pos hh]; exact ⟨_, _, h'⟩
  · rename_i hh
    rw [if_neg hh]
    obtain ⟨h1, h2⟩ := bindR_ok h
    rw [h2] at h ⊢
    obtain ⟨h3, h4⟩ := bindR_ok h
    rw [h4] at h ⊢
    exact mkR_rn h
theorem powRt_rn {n : Int} (h : (powRt a n).2 = 0) : ∃ x c, RNum (powRt a n).1 x c := by
  have pd : ∀ p q, (powD2 p q).2 = 0 → ∃ x c, RNum (powD2 p q).1 x c := fun p q hh => by
    unfold powD2 at hh ⊢
    split at hh
    · rename_i h1
      rw [if_pos h1]
      split at hh
      · rename_i h2; rw [if_pos h2]; exact mkR_rn hh
      · rename_i h2; exact absurd hh h2
    · rename_i h1; exact absurd hh h1
  unfold powRt at h ⊢
  split at h
  · rename_i h0
    rw [if_pos h0]
    split at h
    · cases h
    · rename_i h1; rw [if_neg h1]; exact pd _ _ h
  · rename_i h0; rw [if_neg h0]; exact pd _ _ h
theorem lcmR_rn (h1 : RNum a z d) (h2 : RNum b y e) (h : (lcmR a b).2 = 0) : ∃ x c, RNum (lcmR a b).1 x c := by
  unfold lcmR at h ⊢
  obtain ⟨h3, h4⟩ := bindR_ok h
  rw [h4] at h ⊢
  obtain ⟨x, hx⟩ := gcdR_ok h1 h2 h3
  split at h
  · rename_i hh; rw [if_pos hh]; exact ⟨_, _, hx⟩
  · rename_i hh
    rw [if_neg hh]
    obtain ⟨h5, h6⟩ := bindR_ok h
    rw [h6] at h ⊢
    exact mkR_rn h
theorem factR_rn (h : (factR a).2 = 0) : ∃ x c, RNum (factR a).1 x c := by
  unfold factR at h ⊢
  split at h
  · rename_i hh
    rw [if_pos hh]
    split at h
    · rename_i k hk
      split at h
      · rename_i hl; simp only [hk, if_pos hl]; exact mkR_rn h
      · cases h
    · cases h
  · cases h
/-- What is told is right. -/
theorem oneN_rn (f : Int) (h : RNum a z d) (h0 : (oneN f a).2 = 0) : ∃ x c, RNum (oneN f a).1 x c := by
  unfold oneN at h0 ⊢
  by_cases h1 : f = 43
  · simp only [if_pos h1]; exact ⟨_, _, h⟩
  simp only [if_neg h1] at h0 ⊢
  by_cases h1 : f = 45
  · simp only [if_pos h1]; exact ⟨_, _, negN_rn h⟩
  simp only [if_neg h1] at h0 ⊢
  by_cases h1 : f = 215
  · simp only [if_pos h1]; rw [h.top]; exact ⟨_, _, sgn_rn h⟩
  simp only [if_neg h1] at h0 ⊢
  by_cases h1 : f = 247
  · simp only [if_pos h1] at h0 ⊢; exact mkR_rn h0
  simp only [if_neg h1] at h0 ⊢
  by_cases h1 : f = 8968
  · simp only [if_pos h1]; exact ⟨_, _, negN_rn (flr_rn (negN_rn h))⟩
  simp only [if_neg h1] at h0 ⊢
  by_cases h1 : f = 8970
  · simp only [if_pos h1]; exact ⟨_, _, flr_rn h⟩
  simp only [if_neg h1] at h0 ⊢
  by_cases h1 : f = 124
  · simp only [if_pos h1]; exact ⟨_, _, abs_rn h⟩
  simp only [if_neg h1] at h0 ⊢
  by_cases h1 : f = 126
  · simp only [if_pos h1] at h0 ⊢
    split
    · exact ⟨_, _, rnum_ofZ lenZ_small⟩
    · rename_i h2
      rw [if_neg h2] at h0
      split
      · exact ⟨_, _, rnum_ofZ lenZ_small⟩
      · rename_i h3; rw [if_neg h3] at h0; cases h0
  simp only [if_neg h1] at h0 ⊢
  by_cases h1 : f = 33
  · simp only [if_pos h1] at h0 ⊢; exact factR_rn h0
  simp only [if_neg h1] at h0
  cases h0
theorem cmpT_rn {f c : Int} (h : (cmpT f c).2 = 0) : ∃ x e, RNum (cmpT f c).1 x e := by
  unfold cmpT at h ⊢
  repeat (split; · exact (truN_rn _).elim fun z hz => ⟨z, 1, hz⟩)
  simp_all
theorem twoN_rn (f : Int) (h : RNum a z d) (h' : RNum b y e) (h0 : (twoN f a b).2 = 0) : ∃ x c, RNum (twoN f a b).1 x c := by
  unfold twoN at h0 ⊢
  by_cases h1 : f = 43
  · simp only [if_pos h1] at h0 ⊢; exact mkR_rn h0
  simp only [if_neg h1] at h0 ⊢
  by_cases h1 : f = 45
  · simp only [if_pos h1] at h0 ⊢; exact mkR_rn h0
  simp only [if_neg h1] at h0 ⊢
  by_cases h1 : f = 215
  · simp only [if_pos h1] at h0 ⊢; exact mkR_rn h0
  simp only [if_neg h1] at h0 ⊢
  by_cases h1 : f = 247
  · simp only [if_pos h1] at h0 ⊢; exact mkR_rn h0
  simp only [if_neg h1] at h0 ⊢
  by_cases h1 : f = 8968
  · simp only [if_pos h1]; split <;> exact ⟨_, _, by assumption⟩
  simp only [if_neg h1] at h0 ⊢
  by_cases h1 : f = 8970
  · simp only [if_pos h1]; split <;> exact ⟨_, _, by assumption⟩
  simp only [if_neg h1] at h0 ⊢
  by_cases h1 : f = 124
  · simp only [if_pos h1] at h0 ⊢; exact modR_rn h h' h0
  simp only [if_neg h1] at h0 ⊢
  by_cases h1 : f = 42
  · simp only [if_pos h1] at h0 ⊢
    split
    · rename_i k hk; simp only [hk] at h0; exact powRt_rn h0
    · rename_i hk; simp only [hk] at h0; cases h0
  simp only [if_neg h1] at h0 ⊢
  by_cases h1 : f = 8743
  · simp only [if_pos h1] at h0 ⊢; exact lcmR_rn h h' h0
  simp only [if_neg h1] at h0 ⊢
  by_cases h1 : f = 8744
  · simp only [if_pos h1] at h0 ⊢
    obtain ⟨x, hx⟩ := gcdR_ok h h' h0
    exact ⟨_, _, hx⟩
  simp only [if_neg h1] at h0 ⊢
  exact cmpT_rn h0
theorem lenZ_fac (k : Nat) (h : k < B) : lenZ (facN k : Nat) ≤ k + 1 := by
  induction k with
  | zero => show (lb (Int.natAbs (facN 0 : Nat))).length ≤ 1; simp [facN, lbn_one]
  | succ k ih =>
    have h1 := ih (by omega)
    rw [facN, Int.natCast_mul]
    have h2 := lenZ_mul ((k + 1 : Nat) : Int) (facN k : Nat)
    have h3 : lenZ ((k + 1 : Nat) : Int) ≤ 1 := lenZ_le (by rw [Int.natAbs_natCast, Nat.pow_one]; exact h)
    omega
end
end Go.Proofs.Ytjmddikeadbmjaa
set_option maxRecDepth 100000
namespace Go.Proofs.Ytjmddikeadbmjaa

theorem mkR_one (p : Int) : mkR p 1 = if 32 < lenZ p then (.zero, 7) else (ofZ p, 0) := by
  obtain ⟨z, d, h0, _, h2, _, h4, h5⟩ := mkR_cases p 1 (by decide)
  have hd : d = 1 := by have : Int.natAbs 1 = 1 := rfl
                        omega
  subst hd
  have hz : z = p := by simpa using h2
  subst hz
  rw [h5, frac_one]
  by_cases h : 32 < lenZ z
  · rw [if_pos (.inl h), if_pos h]
  · rw [if_neg (by rw [lbn_one]; simp; omega), if_neg h]
section
variable {a b : Num} {z y : Int} {d e : Nat}
theorem sgnZ_neg {x : Int} : sgnZ x < 0 ↔ x < 0 := by unfold sgnZ; by_cases h1 : x < 0 <;> by_cases h2 : x = 0 <;> simp [h1, h2]
theorem fac_mul (k : Nat) (hk : 0 < k) : ((facN (k - 1) : Nat) : Int) * (k : Int) = ((facN k : Nat) : Int) := by
  obtain ⟨j, rfl⟩ : ∃ j, k = j + 1 := ⟨k - 1, by omega⟩
  rw [Nat.add_sub_cancel, facN, Int.natCast_mul, Int.mul_comm]
theorem inR_sgn (x : Int) : inR (sgnZ x) := by unfold sgnZ inR; split; omega; split <;> omega
theorem scalar_compared_sp (f : Int) (h : RNum a z d) (h' : RNum b y e) : Sp 54 [.int f, dN a, dN b] (retR (cmpT f (cmpR a b))) := by
  refine sound_ 0 (scalar_compared_tree _ _ _ _) (wp_call (ratio_Cmp_sp h.sm h'.sm) ?_)
  simp only [getD_c0, toInt_int, int_beq, int_bne, dN_zero]
  unfold cmpT
  refine wp_decs (fun h1 => wp_call (scalar_truth_sp _) (wp_ret ?_)) (fun h1 => ?_)
  · rw [if_pos h1]; rfl
  rw [if_neg h1]
  refine wp_decs (fun h1 => wp_call (scalar_truth_sp _) (wp_ret ?_)) (fun h1 => ?_)
  · rw [if_pos h1]; rfl
  rw [if_neg h1]
  refine wp_decs (fun h1 => wp_call (scalar_truth_sp _) (wp_ret ?_)) (fun h1 => ?_)
  · rw [if_pos h1]; rfl
  rw [if_neg h1]
  refine wp_decs (fun h1 => wp_call (scalar_truth_sp _) (wp_ret ?_)) (fun h1 => ?_)
  · rw [if_pos h1]; rfl
  rw [if_neg h1]
  refine wp_decs (fun h1 => wp_call (scalar_truth_sp _) (wp_ret ?_)) (fun h1 => ?_)
  · rw [if_pos h1]; rfl
  rw [if_neg h1]
  refine wp_decs (fun h1 => wp_call (scalar_truth_sp _) (wp_ret ?_)) (fun h1 => wp_ret ?_)
  · rw [if_pos h1]; rfl
  · rw [if_neg h1]; rfl
/-- Small exponents. -/
def PowOk (f : Int) (b : Num) : Prop := f = 42 → ∀ k, smallN b = some k → -300 ≤ k ∧ k ≤ 300
theorem scalar_Numbers_sp (f : Int) (h : RNum a z d) (h' : RNum b y e) (hp : PowOk f b) : Sp 33 [.int f, dN a, dN b] (retR (twoN f a b)) := by
  obtain ⟨l1, l2⟩ := h.len
  obtain ⟨l3, l4⟩ := h'.len
  refine sound_ 0 (scalar_Numbers_tree _ _ _ _) ?_
  simp only [toInt_int, int_beq, dN_zero]
  unfold twoN
  refine wp_decs (fun h1 => wp_call (ratio_Add_sp h.sm h'.sm) (wp_ret ?_)) (fun h1 => ?_)
  · rw [if_pos h1]; rfl
  rw [if_neg h1]
  refine wp_decs (fun h1 => wp_call (ratio_Sub_sp h.sm h') (wp_ret ?_)) (fun h1 => ?_)
  · rw [if_pos h1]; rfl
  rw [if_neg h1]
  refine wp_decs (fun h1 => wp_call (ratio_Mul_sp h.sm h'.sm) (wp_ret ?_)) (fun h1 => ?_)
  · rw [if_pos h1]; rfl
  rw [if_neg h1]
  refine wp_decs (fun h1 => wp_call (ratio_Div_sp h.sm h'.sm) (wp_ret ?_)) (fun h1 => ?_)
  · rw [if_pos h1]; rfl
  rw [if_neg h1]
  refine wp_decs (fun h1 => wp_dec h1 (wp_call (ratio_Cmp_sp h.sm h'.sm) ?_)) (fun h1 => ?_)
  · rw [if_pos h1, decide_eq_true h1]
    simp only [getD_c0, toInt_int]
    by_cases hc : cmpR a b < 0
    · rw [if_pos hc]
      exact wp_tt (beq_iff_eq.2 (decide_eq_true hc)) (wp_call (array_Num_sp b (by omega) (by omega)) (wp_ret (by simp [retR])))
    · rw [if_neg hc]
      exact wp_ff (beq_eq_false_iff_ne.2 (fun hh => hc (of_decide_eq_true hh))) (wp_call (array_Num_sp a (by omega) (by omega)) (wp_ret (by simp [retR])))
  rw [if_neg h1, decide_eq_false h1]
  refine wp_decs (fun h1 => wp_call (ratio_Cmp_sp h.sm h'.sm) ?_) (fun h1 => ?_)
  · rw [if_pos h1]
    simp only [getD_c0, toInt_int]
    by_cases hc : cmpR a b < 0
    · rw [if_pos hc]
      exact wp_ff (beq_eq_false_iff_ne.2 (fun hh => of_decide_eq_false hh hc)) (wp_call (array_Num_sp a (by omega) (by omega)) (wp_ret (by simp [retR])))
    · rw [if_neg hc]
      exact wp_tt (beq_iff_eq.2 (decide_eq_false hc)) (wp_call (array_Num_sp b (by omega) (by omega)) (wp_ret (by simp [retR])))
  rw [if_neg h1]
  refine wp_decs (fun h1 => wp_call (ratio_Mod_sp h h') (wp_ret ?_)) (fun h1 => ?_)
  · rw [if_pos h1]; rfl
  rw [if_neg h1]
  refine wp_decs (fun h1 => wp_call (ratio_Small_sp b (by omega)) ?_) (fun h1 => ?_)
  · rw [if_pos h1]
    cases hs : smallN b with
    | none => exact wp_tt rfl (wp_ret rfl)
    | some k =>
      have := hp h1 k hs
      exact wp_ff rfl (wp_call (ratio_Pow_sp h k (by omega)) (wp_ret rfl))
  rw [if_neg h1]
  refine wp_decs (fun h1 => wp_call (ratio_Lcm_sp h h') (wp_ret ?_)) (fun h1 => ?_)
  · rw [if_pos h1]; rfl
  rw [if_neg h1]
  refine wp_decs (fun h1 => wp_call (ratio_Gcd_sp h h') (wp_ret ?_)) (fun h1 => wp_call (scalar_compared_sp f h h') (wp_ret ?_))
  · rw [if_pos h1]; rfl
  · rw [if_neg h1]; rfl
end
end Go.Proofs.Ytjmddikeadbmjaa
set_option maxRecDepth 100000
namespace Go.Proofs.Ytjmddikeadbmjaa

theorem rightC_cases {d : Nat} {c : Cell} (h : rightC d c = true) : (c.kind = 0 ∧ c.c = 0 ∧ c.inn = [] ∧ rightN c.n = true) ∨ (c.kind = 1 ∧ c.n = .zero ∧ c.inn = []) ∨ (c.kind = 2 ∧ c.n = .zero ∧ c.c = 0 ∧ ∃ x e, d = e + 1 ∧ c.inn = [x] ∧ simpleA x = false ∧ rightA e x = true) := by
  have h2 := rightC_inn h
  have key : ∀ k r, cellR k r c = true → (c.kind = 0 ∧ c.c = 0 ∧ c.inn = [] ∧ rightN c.n = true) ∨ (c.kind = 1 ∧ c.n = .zero ∧ c.inn = []) ∨ (c.kind = 2 ∧ c.n = .zero ∧ c.c = 0 ∧ ∃ x, x ∈ c.inn) := by
    intro k r hh
    unfold cellR at hh
    split at hh
    · rename_i hk
      simp only [Bool.and_eq_true, decide_eq_true_eq] at hh
      exact .inl ⟨hk, hh.1.1, List.length_eq_zero_iff.1 hh.1.2, hh.2⟩
    split at hh
    · rename_i hk
      simp only [Bool.and_eq_true, decide_eq_true_eq] at hh
      exact .inr (.inl ⟨hk, hh.1.1, List.length_eq_zero_iff.1 hh.1.2⟩)
    · simp only [Bool.and_eq_true, decide_eq_true_eq] at hh
      obtain ⟨h3, h4, h5⟩ := hh
      refine .inr (.inr ⟨h3.1, h3.2.1, h3.2.2, ?_⟩)
      unfold boxOK at h5
      split at h5
      · rename_i y hy; exact ⟨y, by rw [hy]; simp⟩
      · cases h5
  have : (c.kind = 0 ∧ c.c = 0 ∧ c.inn = [] ∧ rightN c.n = true) ∨ (c.kind = 1 ∧ c.n = .zero ∧ c.inn = []) ∨ (c.kind = 2 ∧ c.n = .zero ∧ c.c = 0 ∧ ∃ x, x ∈ c.inn) := by
    cases d with
    | zero => exact key _ _ h
    | succ d => exact key _ _ h
  rcases this with h3 | h3 | ⟨h3, h4, h5, x, hx⟩
  · exact .inl h3
  · exact .inr (.inl h3)
  · obtain ⟨e, he, hs, hr, hi, _⟩ := h2 x hx
    exact .inr (.inr ⟨h3, h4, h5, x, e, he, hi, hs, hr⟩)
theorem rightC_num {d : Nat} {l : Lab} {n : Num} (h : rightN n = true) : rightC d ⟨l, 0, n, 0, []⟩ = true := by
  have key : ∀ k r, cellR k r ⟨l, 0, n, 0, []⟩ = true := fun k r => by unfold cellR; simp [h]
  cases d with
  | zero => exact key _ _
  | succ d => exact key _ _
theorem rightC_box {d : Nat} {l : Lab} {x : Arr} (h1 : simpleA x = false) (h2 : rightA d x = true) : rightC (d + 1) ⟨l, 2, .zero, 0, [x]⟩ = true := by
  show cellR true (rightA d) _ = true
  unfold cellR boxOK
  simp [h1, h2]
mutual
def unoA (f : Int) : Arr → Arr × Int
  | .mk s sh cs => if f ∈ onesL then (if (unoCs f cs).2 = 0 then (.mk s sh (unoCs f cs).1, 0) else (.none, (unoCs f cs).2)) else (.none, 8)
def unoCs (f : Int) : List (CellF Arr) → List (CellF Arr) × Int
  | [] => ([], 0)
  | c :: cs => if (unoC f c).2 = 0 then (if (unoCs f cs).2 = 0 then ((unoC f c).1 :: (unoCs f cs).1, 0) else ([], (unoCs f cs).2)) else ([], (unoC f c).2)
def unoC (f : Int) : CellF Arr → CellF Arr × Int
  | ⟨l, k, n, c, inn⟩ => if k = 0 then (⟨l, 0, (oneN f n).1, 0, []⟩, (oneN f n).2) else if k = 2 then (⟨l, 2, .zero, 0, [(unoAs f inn).1]⟩, (unoAs f inn).2) else (Cell.none, 3)
def unoAs (f : Int) : List Arr → Arr × Int
  | [] => (.none, 0)
  | a :: _ => unoA f a
end
theorem unoA_eq (f : Int) (a : Arr) : unoA f a = if f ∈ onesL then (if (unoCs f a.cells).2 = 0 then (.mk a.s a.shape (unoCs f a.cells).1, 0) else (.none, (unoCs f a.cells).2)) else (.none, 8) := by cases a; rw [unoA]; rfl
theorem unoC_eq (f : Int) (c : Cell) : unoC f c = if c.kind = 0 then (⟨c.l, 0, (oneN f c.n).1, 0, []⟩, (oneN f c.n).2) else if c.kind = 2 then (⟨c.l, 2, .zero, 0, [(unoAs f c.inn).1]⟩, (unoAs f c.inn).2) else (Cell.none, 3) := by cases c; rw [unoC]
/-- What is told of an array's cells. -/
def onR (s : Lab) (sh : List Int) (pre : List Cell) (r : List Cell × Int) : List D := if r.2 = 0 then [dA (.mk s sh (pre ++ r.1)), .int 0] else [dA .none, .int r.2]
theorem onR_cons {s : Lab} {sh : List Int} {pre : List Cell} {f : Int} {c : Cell} {cs : List Cell} (h : (unoC f c).2 = 0) : onR s sh pre (unoCs f (c :: cs)) = onR s sh (pre ++ [(unoC f c).1]) (unoCs f cs) := by
  rw [unoCs, if_pos h]
  unfold onR
  by_cases h2 : (unoCs f cs).2 = 0
  · rw [if_pos h2]; simp [h2]
  · rw [if_neg h2]; simp [h2]
theorem onR_err {s : Lab} {sh : List Int} {pre : List Cell} {f : Int} {c : Cell} {cs : List Cell} (h : ¬ (unoC f c).2 = 0) : onR s sh pre (unoCs f (c :: cs)) = [dA .none, .int (unoC f c).2] := by
  rw [unoCs, if_neg h]
  unfold onR
  rw [if_neg h]
theorem unoA_D (f : Int) (a : Arr) (hf : f ∈ onesL) : [dA (unoA f a).1, D.int (unoA f a).2] = onR a.s a.shape [] (unoCs f a.cells) := by
  rw [unoA_eq, if_pos hf]
  unfold onR
  split <;> rfl
theorem scalar_inside_sp (c : Cell) (x : Arr) (h : c.inn = [x]) : Sp 42 [dC c] [dA x] := by
  refine sound_ 0 (scalar_inside_tree _ _) ?_
  simp only [dA_0, dA_1, dA_2, dC_0, dC_1, dC_2, dC_3, dC_4, dN_0, dN_1, dN_2, els_sl, els_dI, els_dL, List.length_map, Int.toNat_natCast, toInt_int, toInt_dB, toBool_bool, getD_c0, getD_c1, int_beq, int_bne, not_dec, dInt_dB, Int.toNat_zero, h, List.map_cons, List.map_nil, List.length_cons, List.length_nil]
  exact wp_ndec (by omega) (wp_dec (by omega) (wp_dec (by omega) (wp_ret rfl)))
theorem unoCs_len {f : Int} : ∀ {cs : List Cell}, (unoCs f cs).2 = 0 → (unoCs f cs).1.length = cs.length
  | [], _ => by simp [unoCs]
  | c :: cs, h => by
    rw [unoCs] at h ⊢
    split at h
    · rename_i h1
      rw [if_pos h1]
      split at h
      · rename_i h2; rw [if_pos h2]; simp [unoCs_len h2]
      · rename_i h2; exact absurd h h2
    · rename_i h1; exact absurd h h1
theorem unoCs_mem {f : Int} : ∀ {cs : List Cell}, (unoCs f cs).2 = 0 → ∀ y ∈ (unoCs f cs).1, ∃ c ∈ cs, (unoC f c).2 = 0 ∧ y = (unoC f c).1
  | [], _, y, hy => by rw [unoCs] at hy; cases hy
  | c :: cs, h, y, hy => by
    rw [unoCs] at h hy
    split at h
    · rename_i h1
      rw [if_pos h1] at hy
      split at h
      · rename_i h2
        rw [if_pos h2] at hy
        rcases List.mem_cons.1 hy with rfl | hy
        · exact ⟨c, by simp, h1, rfl⟩
        · obtain ⟨c', g1, g2⟩ := unoCs_mem h2 y hy
          exact ⟨c', by simp [g1], g2⟩
      · rename_i h2; exact absurd h h2
    · rename_i h1; exact absurd h h1
theorem simple_iff (a : Arr) : simpleA a = true ↔ a.shape = [] ∧ ∃ c, a.cells = [c] ∧ ¬ c.kind = 2 := by
  unfold simpleA
  split
  · rename_i c h1 h2
    rw [decide_eq_true_eq]
    exact ⟨fun h => ⟨h1, c, h2, h⟩, fun ⟨_, c', h3, h4⟩ => by rw [h2] at h3; simp at h3; subst h3; exact h4⟩
  · rename_i hne
    exact ⟨fun h => (by cases h), fun ⟨h1, c, h2, _⟩ => absurd h2 (hne c h1)⟩
/-- What is told of a right array is right; a box stays one. -/
theorem unoA_right (f : Int) : ∀ (d : Nat) (a : Arr), rightA d a = true → (unoA f a).2 = 0 → rightA d (unoA f a).1 = true ∧ (simpleA a = false → simpleA (unoA f a).1 = false) := by
  suffices key : ∀ (d : Nat) (a : Arr), (∀ e x, d = e + 1 → rightA e x = true → (unoA f x).2 = 0 → rightA e (unoA f x).1 = true ∧ (simpleA x = false → simpleA (unoA f x).1 = false)) → rightA d a = true → (unoA f a).2 = 0 → rightA d (unoA f a).1 = true ∧ (simpleA a = false → simpleA (unoA f a).1 = false) by
    intro d
    induction d with
    | zero => intro a; exact key 0 a (fun e x he => by omega)
    | succ d ihd => intro a; exact key (d + 1) a (fun e x he => by have : e = d := by omega
                                                                   subst this; exact ihd x)
  intro d a ih hr h0
  obtain ⟨hc, hcs⟩ := rightA_cells hr
  rw [unoA_eq] at h0 ⊢
  split at h0
  · rename_i h1
    rw [if_pos h1]
    split at h0
    · rename_i h2
      rw [if_pos h2]
      refine ⟨rightA_of (by simp only [Arr.shape_mk, Arr.cells_mk, unoCs_len h2]; exact hc) (fun y hy => ?_), fun hns => ?_⟩
      · obtain ⟨c, g1, g2, rfl⟩ := unoCs_mem h2 y hy
        rw [unoC_eq] at g2 ⊢
        rcases rightC_cases (hcs c g1) with ⟨k1, k2, k3, k4⟩ | ⟨k1, k2, k3⟩ | ⟨k1, k2, k3, x, e, k4, k5, k6, k7⟩
        · rw [if_pos k1] at g2 ⊢
          obtain ⟨z, q, hrn⟩ := rn_of k4
          obtain ⟨z', q', hrn'⟩ := oneN_rn f hrn g2
          exact rightC_num hrn'.right
        · rw [if_neg (by omega), if_neg (by omega)] at g2; cases g2
        · rw [if_neg (by omega), if_pos k1, k5, unoAs] at g2 ⊢
          obtain ⟨r1, r2⟩ := ih e x k4 k7 g2
          subst k4
          exact rightC_box (r2 k6) r1
      · cases hq : simpleA (Arr.mk a.s a.shape (unoCs f a.cells).1) with
        | false => rfl
        | true =>
          exfalso
          obtain ⟨q1, c', q2, q3⟩ := (simple_iff _).1 hq
          simp only [Arr.shape_mk, Arr.cells_mk] at q1 q2
          obtain ⟨c, hcc⟩ := len_one (l := a.cells) (by rw [← unoCs_len h2, q2]; rfl)
          obtain ⟨c2, m1, m2, m3⟩ := unoCs_mem h2 c' (by rw [q2]; simp)
          rw [hcc] at m1
          have : c2 = c := by simpa using m1
          subst this
          have hk : c2.kind = 2 := by
            rcases Decidable.em (c2.kind = 2) with hh | hh
            · exact hh
            · have := (simple_iff a).2 ⟨q1, c2, hcc, hh⟩
              rw [hns] at this; cases this
          apply q3
          rw [m3, unoC_eq, if_neg (by omega), if_pos hk]
    · rename_i h2; exact absurd h0 h2
  · cases h0
end Go.Proofs.Ytjmddikeadbmjaa
set_option maxRecDepth 100000
namespace Go.Proofs.Ytjmddikeadbmjaa

def confA (a b : Arr) : List Int × Int := if a.shape = [] then (b.shape, 0) else if b.shape = [] then (a.shape, 0) else if a.shape.length ≠ b.shape.length then ([], 5) else if a.shape = b.shape then (a.shape, 0) else ([], 4)
theorem scalar_Conform_sp {d e : Nat} (a b : Arr) (ha : Sml d a) (hb : Sml e b) : Sp 20 [dA a, dA b] [dI (confA a b).1, .int (confA a b).2] := by
  obtain ⟨d, rfl⟩ := ha.succ
  obtain ⟨e, rfl⟩ := hb.succ
  have h1 := ha.1
  have h2 := hb.1
  refine sound_ 0 (scalar_Conform_tree _ _ _) ?_
  simp only [dA_0, dA_1, dA_2, dC_0, dC_1, dC_2, dC_3, dC_4, dN_0, dN_1, dN_2, els_sl, els_dI, els_dL, List.length_map, Int.toNat_natCast, toInt_int, toInt_dB, toBool_bool, getD_c0, getD_c1, int_beq, int_bne, not_dec, dInt_dB, Int.toNat_zero]
  unfold confA
  refine wp_decs (fun h => wp_call (clone_I_sp b.shape h2) (wp_ret ?_)) (fun h => wp_decs (fun h' => wp_call (clone_I_sp a.shape h1) (wp_ret ?_)) (fun h' => wp_decs (fun h3 => wp_ret ?_) (fun h3 => wp_call (slices_EqualI_sp a.shape b.shape (by omega)) ?_)))
  · rw [if_pos (List.length_eq_zero_iff.1 (by omega))]; rfl
  · rw [if_neg (fun hh => h (by rw [hh]; rfl)), if_pos (List.length_eq_zero_iff.1 (by omega))]; rfl
  · rw [if_neg (fun hh => h (by rw [hh]; rfl)), if_neg (fun hh => h' (by rw [hh]; rfl)), if_pos (by omega)]; rfl
  · rw [if_neg (fun hh => h (by rw [hh]; rfl)), if_neg (fun hh => h' (by rw [hh]; rfl)), if_neg (by omega)]
    simp only [getD_c0, toBool_bool, not_dec]
    refine wp_decs (fun h4 => wp_ret ?_) (fun h4 => wp_call (clone_I_sp a.shape h1) (wp_ret ?_))
    · rw [if_neg h4]; rfl
    · rw [if_pos (Classical.not_not.1 h4)]; rfl
/-- A cell of a number, or the only one. -/
def pickZ (a : Arr) (i : Int) : Cell := if (if a.shape = [] then 0 else i) < 0 ∨ (a.cells.length : Int) ≤ (if a.shape = [] then 0 else i) then Cell.none else a.cells.getD (if a.shape = [] then 0 else i).toNat Cell.none
theorem getDC {l : List Cell} {i : Nat} (h : i < l.length) : (l.map dC).getD i D.nil = dC (l.getD i Cell.none) := by
  rw [getD_map (List.getElem?_eq_getElem h), List.getD_eq_getElem?_getD, List.getElem?_eq_getElem h]; rfl
theorem scalar_pick_sp (a : Arr) (i : Int) : Sp 17 [dA a, .int i] [dC (pickZ a i)] := by
  refine sound_ 0 (scalar_pick_tree _ _ _) ?_
  simp only [dA_0, dA_1, dA_2, dC_0, dC_1, dC_2, dC_3, dC_4, dN_0, dN_1, dN_2, els_sl, els_dI, els_dL, List.length_map, Int.toNat_natCast, toInt_int, toInt_dB, toBool_bool, getD_c0, getD_c1, int_beq, int_bne, not_dec, dInt_dB, Int.toNat_zero, dC_none']
  unfold pickZ
  refine wp_decs (fun h => ?_) (fun h => ?_)
  · simp only [if_pos (List.length_eq_zero_iff.1 (show a.shape.length = 0 by omega))]
    refine wp_ndec (by omega) (wp_decs (fun h2 => wp_ret ?_) (fun h2 => wp_dec (by omega) (wp_dec (by omega) (wp_ret ?_))))
    · rw [if_pos (.inr h2)]
    · rw [if_neg (by omega), show Int.toNat 0 = 0 from rfl, getDC (by omega)]
  · simp only [if_neg (fun hh : a.shape = [] => h (by rw [hh]; rfl))]
    refine wp_decs (fun h1 => wp_ret ?_) (fun h1 => wp_decs (fun h2 => wp_ret ?_) (fun h2 => wp_dec (by omega) (wp_dec (by omega) (wp_ret ?_))))
    · rw [if_pos (.inl h1)]
    · rw [if_pos (.inr h2)]
    · rw [if_neg (by omega), getDC (by omega)]
theorem ref10_Pick_sp (a : Arr) (i : Int) : Sp 8 [dA a, .int i] [dC (pickZ a i)] := by
  refine sound_ 0 (ref10_Pick_tree _ _ _) ?_
  simp only [dA_0, dA_1, dA_2, dC_0, dC_1, dC_2, dC_3, dC_4, dN_0, dN_1, dN_2, els_sl, els_dI, els_dL, List.length_map, Int.toNat_natCast, toInt_int, toInt_dB, toBool_bool, getD_c0, getD_c1, int_beq, int_bne, not_dec, dInt_dB, Int.toNat_zero, dC_none']
  unfold pickZ
  refine wp_decs (fun h => ?_) (fun h => ?_)
  · simp only [if_pos (List.length_eq_zero_iff.1 (show a.shape.length = 0 by omega))]
    refine wp_decs (fun h2 => wp_dec (by omega) (wp_dec (by omega) (wp_ret ?_))) (fun h2 => ?_)
    · rw [if_neg (by omega), show Int.toNat 0 = 0 from rfl, getDC (by omega)]
    · rw [if_pos (.inr (by omega))]
      refine wp_decs (fun h1 => wp_ret rfl) (fun h1 => wp_decs (fun h3 => wp_ret rfl) (fun h3 => wp_dec h (wp_ret rfl)))
  · simp only [if_neg (fun hh : a.shape = [] => h (by rw [hh]; rfl))]
    refine wp_decs (fun h1 => wp_ret ?_) (fun h1 => wp_decs (fun h2 => wp_ret ?_) (fun h2 => wp_ndec h (wp_dec (by omega) (wp_dec (by omega) (wp_ret ?_)))))
    · rw [if_pos (.inl h1)]
    · rw [if_pos (.inr h2)]
    · rw [if_neg (by omega), getDC (by omega)]
/-- What is in a box, or a cell alone. -/
def contC (c : Cell) : Arr := if c.kind = 2 then c.inn.headD .none else .mk 0 [] [⟨0, c.kind, c.n, c.c, c.inn⟩]
def twoC (r : Arr → Arr → Arr × Int) (f : Int) (x y : Cell) : Cell × Int :=
  if x.kind = 2 ∨ y.kind = 2 then (⟨x.l ||| y.l, 2, .zero, 0, [(r (contC x) (contC y)).1]⟩, (r (contC x) (contC y)).2)
  else if x.kind = 0 ∧ y.kind = 0 then (⟨x.l ||| y.l, 0, (twoN f x.n y.n).1, 0, []⟩, (twoN f x.n y.n).2)
  else if f = 61 then (⟨x.l ||| y.l, 0, truN (decide (x.kind = y.kind ∧ x.c = y.c)), 0, []⟩, 0)
  else if f = 8800 then (⟨x.l ||| y.l, 0, truN (decide (¬ (x.kind = y.kind ∧ x.c = y.c))), 0, []⟩, 0)
  else (⟨x.l ||| y.l, 0, .zero, 0, []⟩, 3)
/-- Cells, one by one, up to an error. -/
def twoCs (g : Nat → Cell × Int) : Nat → Nat → List Cell × Int
  | 0, _ => ([], 0)
  | m + 1, k => if (g k).2 = 0 then (if (twoCs g m (k + 1)).2 = 0 then ((g k).1 :: (twoCs g m (k + 1)).1, 0) else ([], (twoCs g m (k + 1)).2)) else ([], (g k).2)
def cntA (a b : Arr) : Nat := if a.shape = [] then b.cells.length else a.cells.length
def twoG (r : Arr → Arr → Arr × Int) (f : Int) (a b : Arr) : Arr × Int :=
  if f ∈ twosL then (if (confA a b).2 = 0 then (if (twoCs (fun i => twoC r f (pickZ a i) (pickZ b i)) (cntA a b) 0).2 = 0 then (.mk (a.s ||| b.s) (confA a b).1 (twoCs (fun i => twoC r f (pickZ a i) (pickZ b i)) (cntA a b) 0).1, 0) else (.none, (twoCs (fun i => twoC r f (pickZ a i) (pickZ b i)) (cntA a b) 0).2)) else (.none, (confA a b).2)) else (.none, 8)
def twoA : Nat → Int → Arr → Arr → Arr × Int
  | 0, f => twoG (fun _ _ => (.none, 0)) f
  | d + 1, f => twoG (twoA d f) f
/-- All numbers of an array are small, as exponents. -/
inductive ExpOk : Arr → Prop where
  | mk {s : Lab} {sh : List Int} {cs : List Cell} (h : ∀ c ∈ cs, ∀ k, smallN c.n = some k → -300 ≤ k ∧ k ≤ 300) (h2 : ∀ c ∈ cs, ∀ x ∈ c.inn, ExpOk x) : ExpOk (.mk s sh cs)
theorem ExpOk.cell {a : Arr} (h : ExpOk a) : ∀ c ∈ a.cells, (∀ k, smallN c.n = some k → -300 ≤ k ∧ k ≤ 300) ∧ ∀ x ∈ c.inn, ExpOk x := by cases h with | mk h h2 => exact fun c hc => ⟨h c hc, h2 c hc⟩
def ExpOkC (c : Cell) : Prop := (∀ k, smallN c.n = some k → -300 ≤ k ∧ k ≤ 300) ∧ ∀ x ∈ c.inn, ExpOk x
theorem contC_right {d : Nat} {c : Cell} (h : rightC (d + 1) c = true) : rightA d (contC c) = true ∧ Sml (d + 1) (contC c) ∧ (c.kind = 2 → simpleA (contC c) = false) ∧ (¬ c.kind = 2 → (contC c).shape = []) := by
  have key : rightA d (contC c) = true ∧ (c.kind = 2 → simpleA (contC c) = false) ∧ (¬ c.kind = 2 → (contC c).shape = []) := by
    unfold contC
    rcases rightC_cases h with ⟨h1, h2, h3, h4⟩ | ⟨h1, h2, h3⟩ | ⟨h1, h2, h3, x, e, h4, h5, h6, h7⟩
    · rw [if_neg (by omega)]
      refine ⟨rightA_of (by simp; decide) (fun y hy => ?_), fun hh => by omega, fun _ => rfl⟩
      have : y = ⟨0, c.kind, c.n, c.c, c.inn⟩ := by simpa using hy
      subst this
      rw [h1, h2, h3]
      exact rightC_num h4
    · rw [if_neg (by omega)]
      refine ⟨rightA_of (by simp; decide) (fun y hy => ?_), fun hh => by omega, fun _ => rfl⟩
      have : y = ⟨0, c.kind, c.n, c.c, c.inn⟩ := by simpa using hy
      subst this
      have k1 : cellR true (rightA d) c = true := h
      have key2 : ∀ k r, cellR k r ⟨0, c.kind, c.n, c.c, c.inn⟩ = true := fun k r => by
        unfold cellR at k1 ⊢
        simp only [h1] at k1 ⊢
        simpa using k1
      cases d with
      | zero => exact key2 _ _
      | succ d => exact key2 _ _
    · rw [if_pos h1, h5]
      have : e = d := by omega
      subst this
      exact ⟨h7, fun _ => h6, fun hh => absurd h1 hh⟩
  exact ⟨key.1, rightA_sml key.1, key.2⟩
theorem contC_exp {c : Cell} (h : ExpOkC c) (hi : c.kind = 2 → ∃ x, c.inn = [x]) : ExpOk (contC c) := by
  unfold contC
  split
  · rename_i hk
    obtain ⟨x, hx⟩ := hi hk
    rw [hx]; exact h.2 x (by rw [hx]; simp)
  · have one : ∀ y ∈ [(⟨0, c.kind, c.n, c.c, c.inn⟩ : Cell)], ExpOkC y := fun y hy => by
      have : y = ⟨0, c.kind, c.n, c.c, c.inn⟩ := by simpa using hy
      subst this
      exact h
    exact .mk (fun y hy => (one y hy).1) (fun y hy => (one y hy).2)
theorem right_nil {d : Nat} {a : Arr} (h : rightA d a = true) (hs : a.shape = []) : ∃ c, a.cells = [c] := by
  have := (rightA_cells h).1
  rw [hs, show countS [] = (1, 0) by decide] at this
  have e := congrArg Prod.fst this
  simp only at e
  exact len_one (by omega)
/-- Cells that go together are there. -/
theorem pick_in {d : Nat} {a b : Arr} (ha : rightA d a = true) (hb : rightA d b = true) (hc : (confA a b).2 = 0) {i : Nat} (hi : i < cntA a b) : pickZ a i ∈ a.cells ∧ pickZ b i ∈ b.cells := by
  have mem : ∀ (l : List Cell) (j : Nat), j < l.length → l.getD j Cell.none ∈ l := fun l j hj => by
    rw [List.getD_eq_getElem?_getD, List.getElem?_eq_getElem hj]; exact List.getElem_mem hj
  have one : ∀ (x : Arr), rightA d x = true → x.shape = [] → ∀ j : Int, pickZ x j ∈ x.cells := fun x hx hs j => by
    obtain ⟨c, hcc⟩ := right_nil hx hs
    unfold pickZ
    rw [if_pos hs, if_neg (by rw [hcc]; simp)]
    exact mem _ _ (by rw [hcc]; simp)
  have many : ∀ (x : Arr), ¬ x.shape = [] → ∀ j : Nat, j < x.cells.length → pickZ x (j : Int) ∈ x.cells := fun x hs j hj => by
    unfold pickZ
    rw [if_neg hs, if_neg (by omega), Int.toNat_natCast]
    exact mem _ _ hj
  unfold cntA at hi
  by_cases h1 : a.shape = []
  · rw [if_pos h1] at hi
    refine ⟨one a ha h1 _, ?_⟩
    by_cases h2 : b.shape = []
    · exact one b hb h2 _
    · exact many b h2 i hi
  · rw [if_neg h1] at hi
    refine ⟨many a h1 i hi, ?_⟩
    by_cases h2 : b.shape = []
    · exact one b hb h2 _
    · refine many b h2 i ?_
      unfold confA at hc
      rw [if_neg h1, if_neg h2] at hc
      split at hc
      · cases hc
      · split at hc
        · rename_i h3
          have e1 := (rightA_cells ha).1
          have e2 := (rightA_cells hb).1
          rw [h3, e2] at e1
          have := congrArg Prod.fst e1
          simp only at this
          omega
        · cases hc
theorem conf_count {d : Nat} {a b : Arr} (ha : rightA d a = true) (hb : rightA d b = true) (hc : (confA a b).2 = 0) : countS (confA a b).1 = (((cntA a b : Nat) : Int), 0) := by
  unfold confA cntA at *
  by_cases h1 : a.shape = []
  · rw [if_pos h1, if_pos h1]; exact (rightA_cells hb).1
  · rw [if_neg h1] at hc ⊢
    rw [if_neg h1]
    by_cases h2 : b.shape = []
    · rw [if_pos h2]; exact (rightA_cells ha).1
    · rw [if_neg h2] at hc ⊢
      split at hc
      · cases hc
      · rename_i h3
        rw [if_neg h3]
        split at hc
        · rename_i h4; rw [if_pos h4]; exact (rightA_cells ha).1
        · cases hc
/-- What is told of cells. -/
def twR (s : Lab) (sh : List Int) (pre : List Cell) (r : List Cell × Int) : List D := if r.2 = 0 then [dA (.mk s sh (pre ++ r.1)), .int 0] else [dA .none, .int r.2]
theorem twR_cons {s : Lab} {sh : List Int} {pre : List Cell} {g : Nat → Cell × Int} {m k : Nat} (h : (g k).2 = 0) : twR s sh pre (twoCs g (m + 1) k) = twR s sh (pre ++ [(g k).1]) (twoCs g m (k + 1)) := by
  rw [twoCs, if_pos h]
  unfold twR
  by_cases h2 : (twoCs g m (k + 1)).2 = 0
  · rw [if_pos h2]; simp [h2]
  · rw [if_neg h2]; simp [h2]
theorem twR_err {s : Lab} {sh : List Int} {pre : List Cell} {g : Nat → Cell × Int} {m k : Nat} (h : ¬ (g k).2 = 0) : twR s sh pre (twoCs g (m + 1) k) = [dA .none, .int (g k).2] := by
  rw [twoCs, if_neg h]
  unfold twR
  rw [if_neg h]
theorem twoG_D (r : Arr → Arr → Arr × Int) (f : Int) (a b : Arr) (hf : f ∈ twosL) (hc : (confA a b).2 = 0) : [dA (twoG r f a b).1, D.int (twoG r f a b).2] = twR (a.s ||| b.s) (confA a b).1 [] (twoCs (fun i => twoC r f (pickZ a i) (pickZ b i)) (cntA a b) 0) := by
  unfold twoG
  rw [if_pos hf, if_pos hc]
  unfold twR
  split <;> rfl
end Go.Proofs.Ytjmddikeadbmjaa
set_option maxRecDepth 100000
namespace Go.Proofs.Ytjmddikeadbmjaa

theorem scalar_content_sp {d : Nat} (c : Cell) (h : rightC d c = true) : Sp 32 [dC c] [dA (contC c)] := by
  refine sound_ 0 (scalar_content_tree _ _) ?_
  simp only [dA_0, dA_1, dA_2, dC_0, dC_1, dC_2, dC_3, dC_4, dN_0, dN_1, dN_2, els_sl, els_dI, els_dL, List.length_map, Int.toNat_natCast, toInt_int, toInt_dB, toBool_bool, getD_c0, getD_c1, int_beq, int_bne, not_dec, dInt_dB, Int.toNat_zero]
  unfold contC
  have hs := rightC_sml h
  refine wp_decs (fun h1 => ?_) (fun h1 => ?_)
  · rcases rightC_cases h with ⟨g1, _⟩ | ⟨g1, _⟩ | ⟨g1, g2, g3, x, e, g4, g5, g6, g7⟩
    · omega
    · omega
    · rw [if_pos h1, g5]
      exact wp_call (scalar_inside_sp c x g5) (wp_ret rfl)
  · rw [if_neg h1]
    have e0 : D.agg [D.int 0, D.int c.kind, dN c.n, D.int c.c, D.sl (c.inn.map dA)] = dC ⟨0, c.kind, c.n, c.c, c.inn⟩ := by rw [dC_eq]; rfl
    rw [e0]
    exact wp_call (array_Scalar_sp (d := d) ⟨0, c.kind, c.n, c.c, c.inn⟩ hs) (wp_ret rfl)
theorem dC_lab (l : Lab) (n : Num) : D.agg [dB l, D.int 0, dN n, D.int 0, D.sl []] = dC ⟨l, 0, n, 0, []⟩ := by rw [dC_eq]; rfl
theorem dC_lab0 (l : Lab) : D.agg [dB l, D.int 0, D.agg [D.bool false, D.sl [], D.sl []], D.int 0, D.sl []] = dC ⟨l, 0, .zero, 0, []⟩ := by rw [dC_eq]; rfl
section
variable {d : Nat} {x y : Cell} {f : Int} {r : Arr → Arr → Arr × Int}
theorem not_box (hx : rightC 0 x = true) : ¬ x.kind = 2 := by
  rcases rightC_cases hx with ⟨g1, _⟩ | ⟨g1, _⟩ | ⟨_, _, _, _, e, g4, _⟩
  · omega
  · omega
  · omega
theorem kind_is (hx : rightC d x = true) : x.kind = 0 ∨ x.kind = 1 ∨ x.kind = 2 := by
  rcases rightC_cases hx with ⟨g1, _⟩ | ⟨g1, _⟩ | ⟨g1, _⟩
  · exact .inl g1
  · exact .inr (.inl g1)
  · exact .inr (.inr g1)
theorem num_is (hx : rightC d x = true) (h : x.kind = 0) : rightN x.n = true := by
  rcases rightC_cases hx with ⟨_, _, _, g4⟩ | ⟨g1, _⟩ | ⟨g1, _⟩
  · exact g4
  · omega
  · omega
theorem box_is (hx : rightC d x = true) (h : x.kind = 2) : ∃ X, x.inn = [X] := by
  rcases rightC_cases hx with ⟨g1, _⟩ | ⟨g1, _⟩ | ⟨_, _, _, X, _, _, g5, _⟩
  · omega
  · omega
  · exact ⟨X, g5⟩
theorem scalar_twoCells_sp (hx : rightC d x = true) (hy : rightC d y = true) (hp : f = 42 → ExpOkC y)
    (ih : ∀ e, d = e + 1 → ∀ X Y, rightA e X = true → rightA e Y = true → (f = 42 → ExpOk Y) → Sp 11 [.int f, dA X, dA Y] [dA (r X Y).1, .int (r X Y).2]) : Sp 22 [.int f, dC x, dC y] [dC (twoC r f x y).1, .int (twoC r f x y).2] := by
  refine sound_ 0 (scalar_twoCells_tree _ _ _ _) ?_
  simp only [dA_0, dA_1, dA_2, dC_0, dC_1, dC_2, dC_3, dC_4, dN_0, dN_1, dN_2, els_sl, els_dI, els_dL, List.length_map, Int.toNat_natCast, toInt_int, toInt_dB, toBool_bool, getD_c0, getD_c1, int_beq, int_bne, not_dec, dInt_dB, Int.toNat_zero]
  refine wp_call (label_Join_sp x.l y.l) ?_
  simp only [dA_0, dA_1, dA_2, dC_0, dC_1, dC_2, dC_3, dC_4, dN_0, dN_1, dN_2, els_sl, els_dI, els_dL, List.length_map, Int.toNat_natCast, toInt_int, toInt_dB, toBool_bool, getD_c0, getD_c1, int_beq, int_bne, not_dec, dInt_dB, Int.toNat_zero]
  have box : x.kind = 2 ∨ y.kind = 2 → Tw (.call 32 [] [dC x] fun yy2 => .call 32 [] [dC y] fun yy3 => .call 11 [] [D.int f, yy2.getD 0 D.nil, yy3.getD 0 D.nil] fun yy4 => .ret [D.agg [dB (x.l ||| y.l), D.int 2, D.agg [D.bool false, D.sl [], D.sl []], D.int 0, D.sl [yy4.getD 0 D.nil]], D.int ((yy4.getD 1 D.nil).toInt)]) [dC (twoC r f x y).1, .int (twoC r f x y).2] := fun hk => by
    cases d with
    | zero => rcases hk with hk | hk; exact absurd hk (not_box hx); exact absurd hk (not_box hy)
    | succ e =>
      obtain ⟨c1, _⟩ := contC_right hx
      obtain ⟨c2, _⟩ := contC_right hy
      refine wp_call (scalar_content_sp x hx) (wp_call (scalar_content_sp y hy) (wp_call (ih e rfl _ _ c1 c2 (fun hf => contC_exp (hp hf) (box_is hy))) (wp_ret ?_)))
      unfold twoC
      rw [if_pos hk, dC_eq]; rfl
  refine wp_decs (fun h1 => box (.inl h1)) (fun h1 => wp_decs (fun h2 => box (.inr h2)) (fun h2 => ?_))
  unfold twoC
  rw [if_neg (fun hh => hh.elim h1 h2)]
  have chars : ¬ (x.kind = 0 ∧ y.kind = 0) → Tw (.br (decide (f = 61)) (.br (decide (x.kind = y.kind)) (.call 34 [] [D.bool (decide (x.c = y.c) == decide (f = 61))] fun yy13 => .ret [D.agg [dB (x.l ||| y.l), D.int 0, yy13.getD 0 D.nil, D.int 0, D.sl []], D.int 0]) (.call 34 [] [D.bool (false == decide (f = 61))] fun yy14 => .ret [D.agg [dB (x.l ||| y.l), D.int 0, yy14.getD 0 D.nil, D.int 0, D.sl []], D.int 0])) (.br (decide (f = 8800)) (.br (decide (x.kind = y.kind)) (.call 34 [] [D.bool (decide (x.c = y.c) == decide (f = 61))] fun yy15 => .ret [D.agg [dB (x.l ||| y.l), D.int 0, yy15.getD 0 D.nil, D.int 0, D.sl []], D.int 0]) (.call 34 [] [D.bool (false == decide (f = 61))] fun yy16 => .ret [D.agg [dB (x.l ||| y.l), D.int 0, yy16.getD 0 D.nil, D.int 0, D.sl []], D.int 0])) (.ret [D.agg [dB (x.l ||| y.l), D.int 0, D.agg [D.bool false, D.sl [], D.sl []], D.int 0, D.sl []], D.int 3])))
      [dC (if x.kind = 0 ∧ y.kind = 0 then ((⟨x.l ||| y.l, 0, (twoN f x.n y.n).1, 0, []⟩, (twoN f x.n y.n).2) : Cell × Int) else if f = 61 then (⟨x.l ||| y.l, 0, truN (decide (x.kind = y.kind ∧ x.c = y.c)), 0, []⟩, 0) else if f = 8800 then (⟨x.l ||| y.l, 0, truN (decide (¬ (x.kind = y.kind ∧ x.c = y.c))), 0, []⟩, 0) else (⟨x.l ||| y.l, 0, .zero, 0, []⟩, 3)).1, .int (if x.kind = 0 ∧ y.kind = 0 then ((⟨x.l ||| y.l, 0, (twoN f x.n y.n).1, 0, []⟩, (twoN f x.n y.n).2) : Cell × Int) else if f = 61 then (⟨x.l ||| y.l, 0, truN (decide (x.kind = y.kind ∧ x.c = y.c)), 0, []⟩, 0) else if f = 8800 then (⟨x.l ||| y.l, 0, truN (decide (¬ (x.kind = y.kind ∧ x.c = y.c))), 0, []⟩, 0) else (⟨x.l ||| y.l, 0, .zero, 0, []⟩, 3)).2] := fun hk => by
    rw [if_neg hk]
    refine wp_decs (fun h3 => wp_decs (fun h4 => wp_call (scalar_truth_sp _) (wp_ret ?_)) (fun h4 => wp_call (scalar_truth_sp _) (wp_ret ?_))) (fun h3 => wp_decs (fun h3' => wp_decs (fun h4 => wp_call (scalar_truth_sp _) (wp_ret ?_)) (fun h4 => wp_call (scalar_truth_sp _) (wp_ret ?_))) (fun h3' => wp_ret ?_))
    · rw [if_pos h3, getD_c0, dC_lab]; simp [h3, h4]
    · rw [if_pos h3, getD_c0, dC_lab]; simp [h3, h4]
    · rw [if_neg h3, if_pos h3', getD_c0, dC_lab]; simp [h3, h4]
    · rw [if_neg h3, if_pos h3', getD_c0, dC_lab]; simp [h3, h4]
    · rw [if_neg h3, if_neg h3', dC_lab0]
  refine wp_decs (fun h3 => wp_decs (fun h4 => ?_) (fun h4 => chars (fun hh => h4 hh.2))) (fun h3 => chars (fun hh => h3 hh.1))
  rw [if_pos ⟨h3, h4⟩]
  obtain ⟨z, q, rx⟩ := rn_of (num_is hx h3)
  obtain ⟨z', q', ry⟩ := rn_of (num_is hy h4)
  refine wp_call (scalar_Numbers_sp f rx ry (fun hf => (hp hf).1)) (wp_ret ?_)
  simp only [retR, getD_c0, getD_c1, toInt_int, dC_lab]
end
theorem scalar_TwoG_sp (f : Int) (d : Nat) (a b : Arr) (r : Arr → Arr → Arr × Int) (ih : ∀ e, d = e + 1 → ∀ X Y, rightA e X = true → rightA e Y = true → (f = 42 → ExpOk Y) → Sp 11 [.int f, dA X, dA Y] [dA (r X Y).1, .int (r X Y).2])
    (ha : rightA d a = true) (hb : rightA d b = true) (hp : f = 42 → ExpOk b) : Sp 11 [.int f, dA a, dA b] [dA (twoG r f a b).1, .int (twoG r f a b).2] := by
  have hs := rightA_sml ha
  have hs' := rightA_sml hb
  have hl := hs.2.1
  have hl' := hs'.2.1
  have hcnt : cntA a b ≤ 1048576 := by unfold cntA; split <;> omega
  refine sound_ (cntA a b + 1) (scalar_Two_tree _ _ _ _) (wp_call (scalar_IsTwo_sp f) ?_)
  simp only [dA_0, dA_1, dA_2, dC_0, dC_1, dC_2, dC_3, dC_4, dN_0, dN_1, dN_2, els_sl, els_dI, els_dL, List.length_map, Int.toNat_natCast, toInt_int, toInt_dB, toBool_bool, getD_c0, getD_c1, int_beq, int_bne, not_dec, dInt_dB, Int.toNat_zero, dA_none, dC_none']
  refine wp_decs (fun h => wp_ret ?_) (fun h => wp_call (scalar_Conform_sp a b hs hs') ?_)
  · unfold twoG; rw [if_neg h]
  have hf := Classical.not_not.1 h
  simp only [dA_0, dA_1, dA_2, dC_0, dC_1, dC_2, dC_3, dC_4, dN_0, dN_1, dN_2, els_sl, els_dI, els_dL, List.length_map, Int.toNat_natCast, toInt_int, toInt_dB, toBool_bool, getD_c0, getD_c1, int_beq, int_bne, not_dec, dInt_dB, Int.toNat_zero, dA_none]
  refine wp_decs (fun h1 => wp_ret ?_) (fun h1 => ?_)
  · unfold twoG; rw [if_pos hf, if_neg h1]
  have hc := Classical.not_not.1 h1
  rw [twoG_D r f a b hf hc]
  have key := loop_up (P := Try.prog) (md := md) (cntA a b) (fun m k (pre : List Cell) => scalar_Two_l11 (cntA a b + 1) m f ((cntA a b : Nat) : Int) (k : Int) (dA a) (dA b) 0 ((a.s ||| b.s).toNat : Int) (dI (confA a b).1) (pre.map dC ++ List.replicate (cntA a b - k) (dC Cell.none)))
    (fun k pre => twR (a.s ||| b.s) (confA a b).1 pre (twoCs (fun i => twoC r f (pickZ a i) (pickZ b i)) (cntA a b - k) k)) (fun k pre => pre.length = k)
    (fun m pre hI => by
      simp only [scalar_Two_l11_succ, dA_0, dA_1, dA_2, dC_0, dC_1, dC_2, dC_3, dC_4, dN_0, dN_1, dN_2, els_sl, els_dI, els_dL, List.length_map, Int.toNat_natCast, toInt_int, toInt_dB, toBool_bool, getD_c0, getD_c1, int_beq, int_bne, not_dec, dInt_dB, Int.toNat_zero]
      refine wp_ndec (by omega) (wp_ret ?_)
      rw [Nat.sub_self, List.replicate_zero, List.append_nil, twoCs]
      unfold twR
      rw [if_pos rfl, dA_eq]
      simp [dI, dB])
    (fun m k pre hk hI ih' => by
      have hlen : (pre.map dC ++ List.replicate (cntA a b - k) (dC Cell.none)).length = cntA a b := by simp; omega
      obtain ⟨p1, p2⟩ := pick_in ha hb hc hk
      have r1 := (rightA_cells ha).2 _ p1
      have r2 := (rightA_cells hb).2 _ p2
      simp only [scalar_Two_l11_succ, dA_0, dA_1, dA_2, dC_0, dC_1, dC_2, dC_3, dC_4, dN_0, dN_1, dN_2, els_sl, els_dI, els_dL, List.length_map, Int.toNat_natCast, toInt_int, toInt_dB, toBool_bool, getD_c0, getD_c1, int_beq, int_bne, not_dec, dInt_dB, Int.toNat_zero, hlen, wrap_succ (show k < 9223372036854775807 by omega)]
      refine wp_dec (by omega) (wp_call (scalar_pick_sp a (k : Int)) (wp_call (scalar_pick_sp b (k : Int)) (wp_call (scalar_twoCells_sp (r := r) r1 r2 (fun hf => (hp hf).cell _ p2) ih) ?_)))
      simp only [getD_c0, getD_c1, toInt_int, int_bne, dA_none]
      rw [show cntA a b - k = (cntA a b - (k + 1)) + 1 by omega]
      refine wp_decs (fun he => wp_ret ?_) (fun he => wp_dec (by omega) (wp_dec (by omega) ?_))
      · rw [twR_err he]
      · have he' := Classical.not_not.1 he
        rw [twR_cons he', ← hI, set_next, hI]
        exact ih' (pre ++ [(twoC r f (pickZ a k) (pickZ b k)).1]) (by simp [hI]))
    (cntA a b + 1) 0 [] (by omega) (by omega) rfl
  have e0 : ([] : List Cell).map dC ++ List.replicate (cntA a b - 0) (dC Cell.none) = List.replicate (cntA a b) (dC Cell.none) := by simp
  rw [e0] at key
  refine wp_decs (fun h2 => wp_call (label_Join_sp a.s b.s) (wp_dec (by omega) (wp_dec (by omega) (wp_dec (by simp only [bigN]; omega) ?_)))) (fun h2 => wp_call (label_Join_sp a.s b.s) (wp_dec (by omega) (wp_dec (by omega) (wp_dec (by simp only [bigN]; omega) ?_))))
  · have : cntA a b = b.cells.length := by unfold cntA; rw [if_pos (List.length_eq_zero_iff.1 (by omega))]
    simp only [dA_0, dA_1, dA_2, dC_0, dC_1, dC_2, dC_3, dC_4, dN_0, dN_1, dN_2, els_sl, els_dI, els_dL, List.length_map, Int.toNat_natCast, toInt_int, toInt_dB, toBool_bool, getD_c0, getD_c1, int_beq, int_bne, not_dec, dInt_dB, Int.toNat_zero]
    rw [this] at key
    simpa [this] using key
  · have : cntA a b = a.cells.length := by unfold cntA; rw [if_neg (fun hh => h2 (by rw [hh]; rfl))]
    simp only [dA_0, dA_1, dA_2, dC_0, dC_1, dC_2, dC_3, dC_4, dN_0, dN_1, dN_2, els_sl, els_dI, els_dL, List.length_map, Int.toNat_natCast, toInt_int, toInt_dB, toBool_bool, getD_c0, getD_c1, int_beq, int_bne, not_dec, dInt_dB, Int.toNat_zero]
    rw [this] at key
    simpa [this] using key
theorem scalar_Two_sp (f : Int) : ∀ (d : Nat) (a b : Arr), rightA d a = true → rightA d b = true → (f = 42 → ExpOk b) → Sp 11 [.int f, dA a, dA b] [dA (twoA d f a b).1, .int (twoA d f a b).2]
  | 0, a, b, ha, hb, hp => scalar_TwoG_sp f 0 a b _ (fun e he => by omega) ha hb hp
  | d + 1, a, b, ha, hb, hp => scalar_TwoG_sp f (d + 1) a b _ (fun e he => by
      have : e = d := by omega
      subst this
      exact scalar_Two_sp f e) ha hb hp
end Go.Proofs.Ytjmddikeadbmjaa
set_option maxRecDepth 100000
namespace Go.Proofs.Ytjmddikeadbmjaa
end Go.Proofs.Ytjmddikeadbmjaa
set_option maxRecDepth 100000
namespace Go.Proofs.Ytjmddikeadbmjaa

/-- A loop that asks whether two lists are the same, as they are seen. -/
theorem same_loopF {α β : Type} {P : Program} {md : Nat → FMode} (φ : α → β) (a b : List α) (e : α → α → Bool) (he : ∀ x ∈ a, ∀ y, e x y = true ↔ φ x = φ y) (hlen : a.length = b.length) (r : Bool) (hr : r = true ↔ a.map φ = b.map φ) (L : Nat → Nat → Tree)
    (hend : ∀ m, ∀ Q : List D → Prop, Q [.bool true] → (L (m + 1) a.length).wp P md Q)
    (hstep : ∀ m k x y, ∀ Q : List D → Prop, a[k]? = some x → b[k]? = some y → (e x y = false → Q [.bool false]) → (e x y = true → (L m (k + 1)).wp P md Q) → (L (m + 1) k).wp P md Q) (N : Nat) (hN : a.length < N) : (L N 0).wp P md (fun zs => zs = [.bool r]) := by
  have key := loop_up (P := P) (md := md) a.length (fun m k (_ : Unit) => L m k) (fun _ _ => [.bool r]) (fun k _ => (a.take k).map φ = (b.take k).map φ)
    (fun m s h => by
      refine hend m _ ?_
      rw [List.take_of_length_le (Nat.le_refl _), List.take_of_length_le (by omega)] at h
      rw [hr.2 h])
    (fun m k s hk h ih => by
      have ha : a[k]? = some a[k] := List.getElem?_eq_getElem _
      have hb : b[k]? = some (b[k]'(by omega)) := List.getElem?_eq_getElem _
      refine hstep m k _ _ _ ha hb (fun hf => ?_) (fun ht => ih () ?_)
      · have : r = false := by
          cases hrr : r with
          | false => rfl
          | true =>
            have h2 := hr.1 hrr
            have h3 : (a.map φ)[k]? = (b.map φ)[k]? := by rw [h2]
            rw [List.getElem?_map, List.getElem?_map, ha, hb] at h3
            have h4 : φ a[k] = φ b[k] := by simpa using h3
            rw [(he a[k] (List.getElem_mem _) _).2 h4] at hf; cases hf
        rw [this]
      · have : φ a[k] = φ b[k] := (he a[k] (List.getElem_mem _) _).1 ht
        rw [List.take_succ_eq_append_getElem hk, List.take_succ_eq_append_getElem (by omega), List.map_append, List.map_append, h]
        simp [this])
    N 0 () (by omega) (by omega) (by simp)
  exact key
/-- As an array is seen: with labels, or without. -/
def gl (lb : Bool) (l : Lab) : Lab := if lb then l else 0
noncomputable def eqL (lb : Bool) (a b : Arr) : Bool := eqA (relA (gl lb) a) (relA (gl lb) b)
noncomputable def eqLC (lb : Bool) (a b : Cell) : Bool := eqC (relC (gl lb) a) (relC (gl lb) b)
theorem eqL_true (a b : Arr) : eqL true a b = eqA a b := by unfold eqL; rw [relA_id (gl true) (fun _ => rfl) a, relA_id (gl true) (fun _ => rfl) b]
noncomputable def pd (p : Prop) : Bool := @decide p (Classical.propDecidable _)
theorem pd_iff {p : Prop} : pd p = true ↔ p := @decide_eq_true_iff _ (Classical.propDecidable _)
theorem pd_not {p : Prop} (h : ¬ p) : pd p = false := @decide_eq_false _ (Classical.propDecidable _) h
theorem ite_max {o x : Nat} {z : Int} (h : z = (x : Int)) : (if (o : Int) < z then z else (o : Int)) = ((max o x : Nat) : Int) := by subst h; split <;> omega
theorem eqL_false (a b : Arr) : eqL false a b = matA a b := rfl
theorem eqL_iff {lb : Bool} {a b : Arr} : eqL lb a b = true ↔ relA (gl lb) a = relA (gl lb) b := eqA_iff
theorem eqLC_iff {lb : Bool} {a b : Cell} : eqLC lb a b = true ↔ relC (gl lb) a = relC (gl lb) b := eqC_iff
theorem eqLC_iff' {lb : Bool} {a b : Cell} : eqLC lb a b = true ↔ (gl lb a.l = gl lb b.l ∧ a.kind = b.kind ∧ a.c = b.c ∧ a.n = b.n ∧ a.inn.map (relA (gl lb)) = b.inn.map (relA (gl lb))) := by rw [eqLC_iff, relC_eq, relC_eq, cell_eq]
theorem eqL_iff' {lb : Bool} {a b : Arr} : eqL lb a b = true ↔ (gl lb a.s = gl lb b.s ∧ a.shape = b.shape ∧ a.cells.map (relC (gl lb)) = b.cells.map (relC (gl lb))) := by rw [eqL_iff, relA_eq, relA_eq, arr_eq]; simp
theorem bool_false {b : Bool} (h : ¬ b = true) : b = false := by cases b with | false => rfl | true => exact absurd rfl h
mutual
def depA : Arr → Nat
  | .mk s sh cs => if simpleA (.mk s sh cs) then 0 else depCs cs + 1
def depCs : List (CellF Arr) → Nat
  | [] => 0
  | c :: cs => max (depC c) (depCs cs)
def depC : CellF Arr → Nat
  | ⟨_, _, _, _, inn⟩ => depAs inn
def depAs : List Arr → Nat
  | [] => 0
  | a :: as_ => max (depA a) (depAs as_)
end
theorem depA_eq (a : Arr) : depA a = if simpleA a then 0 else depCs a.cells + 1 := by cases a; rw [depA]; rfl
theorem depC_eq (c : Cell) : depC c = depAs c.inn := by cases c; rw [depC]
theorem depCs_le {k : Nat} : ∀ {cs : List Cell}, (∀ c ∈ cs, depC c ≤ k) → depCs cs ≤ k
  | [], _ => by rw [depCs]; omega
  | c :: cs, h => by
    have h1 := h c (by simp)
    have h2 := depCs_le (fun x hx => h x (List.mem_cons_of_mem _ hx))
    rw [depCs]; omega
theorem depAs_le {k : Nat} : ∀ {as_ : List Arr}, (∀ a ∈ as_, depA a ≤ k) → depAs as_ ≤ k
  | [], _ => by rw [depAs]; omega
  | a :: as_, h => by
    have h1 := h a (by simp)
    have h2 := depAs_le (fun x hx => h x (List.mem_cons_of_mem _ hx))
    rw [depAs]; omega
theorem depC_mem : ∀ {cs : List Cell} {c : Cell}, c ∈ cs → depC c ≤ depCs cs
  | d :: cs, c, h => by
    rw [depCs]
    rcases List.mem_cons.1 h with rfl | h
    · omega
    · have := depC_mem h; omega
theorem depA_mem : ∀ {as_ : List Arr} {a : Arr}, a ∈ as_ → depA a ≤ depAs as_
  | d :: as_, a, h => by
    rw [depAs]
    rcases List.mem_cons.1 h with rfl | h
    · omega
    · have := depA_mem h; omega
theorem depA_sml : ∀ {d : Nat} {a : Arr}, Sml d a → depA a ≤ d
  | 0, _, h => h.elim
  | d + 1, a, h => by
    rw [depA_eq]
    have : depCs a.cells ≤ d := depCs_le (fun c hc => by rw [depC_eq]; exact depAs_le (fun x hx => depA_sml ((h.cell c hc).2.2.2 x hx)))
    split <;> omega
end Go.Proofs.Ytjmddikeadbmjaa
set_option maxRecDepth 100000
namespace Go.Proofs.Ytjmddikeadbmjaa

def allL : Lab := BitVec.allOnes 64
def secA : Arr := .mk allL [] []
def secC : Cell := ⟨allL, 0, .zero, 0, []⟩
mutual
def hidA (o : Lab) : Arr → Arr
  | .mk s sh cs => if flows s o then .mk s sh (hidCs o cs) else secA
def hidCs (o : Lab) : List (CellF Arr) → List (CellF Arr)
  | [] => []
  | c :: cs => hidC o c :: hidCs o cs
def hidC (o : Lab) : CellF Arr → CellF Arr
  | ⟨l, k, n, c, inn⟩ => if flows l o then ⟨l, k, n, c, hidAs o inn⟩ else secC
def hidAs (o : Lab) : List Arr → List Arr
  | [] => []
  | a :: as_ => hidA o a :: hidAs o as_
end
theorem hidCs_map (o : Lab) : ∀ cs, hidCs o cs = cs.map (hidC o)
  | [] => by simp [hidCs]
  | c :: cs => by simp [hidCs, hidCs_map o cs]
theorem hidAs_map (o : Lab) : ∀ as_, hidAs o as_ = as_.map (hidA o)
  | [] => by simp [hidAs]
  | a :: as_ => by simp [hidAs, hidAs_map o as_]
theorem hidA_eq (o : Lab) (a : Arr) : hidA o a = if flows a.s o then .mk a.s a.shape (a.cells.map (hidC o)) else secA := by cases a; rw [hidA, hidCs_map]; rfl
theorem hidC_eq (o : Lab) (c : Cell) : hidC o c = if flows c.l o then ⟨c.l, c.kind, c.n, c.c, c.inn.map (hidA o)⟩ else secC := by cases c; simp [hidC, hidAs_map]
theorem flows_or {a b o : Lab} : flows (a ||| b) o = (flows a o && flows b o) := by
  rw [Bool.eq_iff_iff, Bool.and_eq_true, flows_iff, flows_iff, flows_iff]
  constructor
  · exact fun h => ⟨fun t ht => h t (by simp [ht]), fun t ht => h t (by simp [ht])⟩
  · rintro ⟨h1, h2⟩ t ht
    simp only [BitVec.getLsbD_or, Bool.or_eq_true] at ht
    exact ht.elim (h1 t) (h2 t)
theorem flows_self (a : Lab) : flows a a = true := flows_iff.2 fun _ h => h
theorem flows_zero (o : Lab) : flows 0 o = true := flows_iff.2 fun t h => by simp at h
theorem flows_trans {a b c : Lab} (h : flows a b = true) (k : flows b c = true) : flows a c = true := flows_iff.2 fun t ht => flows_iff.1 k t (flows_iff.1 h t ht)
theorem flows_all {o : Lab} (h : flows allL o = true) (a : Lab) : flows a o = true := by
  rw [flows_64] at h ⊢
  intro t ht _
  exact h t ht (by unfold allL; rw [BitVec.getLsbD_allOnes]; exact decide_eq_true ht)
theorem hid_vis {o : Lab} {a : Arr} (h : flows a.s o = true) : hidA o a = .mk a.s a.shape (a.cells.map (hidC o)) := by rw [hidA_eq, if_pos h]
theorem hid_hid {o : Lab} {a : Arr} (h : flows a.s o = false) : hidA o a = secA := by rw [hidA_eq, if_neg (by simp [h])]
theorem hidC_vis {o : Lab} {c : Cell} (h : flows c.l o = true) : hidC o c = ⟨c.l, c.kind, c.n, c.c, c.inn.map (hidA o)⟩ := by rw [hidC_eq, if_pos h]
theorem hidC_hid {o : Lab} {c : Cell} (h : flows c.l o = false) : hidC o c = secC := by rw [hidC_eq, if_neg (by simp [h])]
/-- Two that are alike. -/
theorem alike_cases {o : Lab} {a b : Arr} (h : hidA o a = hidA o b) : (flows a.s o = false ∧ flows b.s o = false) ∨ (flows a.s o = true ∧ flows b.s o = true ∧ a.s = b.s ∧ a.shape = b.shape ∧ a.cells.map (hidC o) = b.cells.map (hidC o)) := by
  cases ha : flows a.s o <;> cases hb : flows b.s o
  · exact .inl ⟨rfl, rfl⟩
  · rw [hid_hid ha, hid_vis hb] at h
    have : allL = b.s := congrArg Arr.s h
    rw [← this] at hb
    rw [flows_all hb] at ha; cases ha
  · rw [hid_vis ha, hid_hid hb] at h
    have : a.s = allL := congrArg Arr.s h
    rw [this] at ha
    rw [flows_all ha] at hb; cases hb
  · rw [hid_vis ha, hid_vis hb, arr_eq] at h
    exact .inr ⟨rfl, rfl, h.1, h.2.1, h.2.2⟩
theorem alikeC_cases {o : Lab} {a b : Cell} (h : hidC o a = hidC o b) : (flows a.l o = false ∧ flows b.l o = false) ∨ (flows a.l o = true ∧ flows b.l o = true ∧ a.l = b.l ∧ a.kind = b.kind ∧ a.c = b.c ∧ a.n = b.n ∧ a.inn.map (hidA o) = b.inn.map (hidA o)) := by
  cases ha : flows a.l o <;> cases hb : flows b.l o
  · exact .inl ⟨rfl, rfl⟩
  · rw [hidC_hid ha, hidC_vis hb] at h
    have : allL = b.l := congrArg CellF.l h
    rw [← this] at hb
    rw [flows_all hb] at ha; cases ha
  · rw [hidC_vis ha, hidC_hid hb] at h
    have : a.l = allL := congrArg CellF.l h
    rw [this] at ha
    rw [flows_all ha] at hb; cases hb
  · rw [hidC_vis ha, hidC_vis hb, cell_eq] at h
    exact .inr ⟨rfl, rfl, h⟩
theorem alike_hid {o : Lab} {a b : Arr} (ha : flows a.s o = false) (hb : flows b.s o = false) : hidA o a = hidA o b := by rw [hid_hid ha, hid_hid hb]
theorem alike_vis {o : Lab} {a b : Arr} (h1 : a.s = b.s) (h2 : a.shape = b.shape) (h3 : a.cells.map (hidC o) = b.cells.map (hidC o)) : hidA o a = hidA o b := by rw [hidA_eq, hidA_eq, h1, h2, h3]
theorem alikeC_hid {o : Lab} {a b : Cell} (ha : flows a.l o = false) (hb : flows b.l o = false) : hidC o a = hidC o b := by rw [hidC_hid ha, hidC_hid hb]
theorem alikeC_vis {o : Lab} {a b : Cell} (h1 : a.l = b.l) (h2 : a.kind = b.kind) (h3 : a.c = b.c) (h4 : a.n = b.n) (h5 : a.inn.map (hidA o) = b.inn.map (hidA o)) : hidC o a = hidC o b := by rw [hidC_eq, hidC_eq, h1, h2, h3, h4, h5]
noncomputable def alk (o : Lab) (a b : Arr) : Bool := eqA (hidA o a) (hidA o b)
noncomputable def alkC (o : Lab) (a b : Cell) : Bool := eqC (hidC o a) (hidC o b)
theorem alk_iff {o : Lab} {a b : Arr} : alk o a b = true ↔ hidA o a = hidA o b := eqA_iff
theorem alkC_iff {o : Lab} {a b : Cell} : alkC o a b = true ↔ hidC o a = hidC o b := eqC_iff
theorem alk_any {o : Lab} {a b : Arr} (h : ¬ (flows a.s o = true ∧ flows b.s o = true)) : alk o a b = (flows a.s o == flows b.s o) := by
  rw [Bool.eq_iff_iff, alk_iff, beq_iff_eq]
  constructor
  · intro hh
    rcases alike_cases hh with ⟨h1, h2⟩ | ⟨h1, h2, _⟩
    · rw [h1, h2]
    · exact absurd ⟨h1, h2⟩ h
  · intro hh
    cases ha : flows a.s o with
    | true => exact absurd ⟨ha, hh.symm.trans ha⟩ h
    | false => exact alike_hid ha (hh.symm.trans ha)
theorem alkC_any {o : Lab} {a b : Cell} (h : ¬ (flows a.l o = true ∧ flows b.l o = true)) : alkC o a b = (flows a.l o == flows b.l o) := by
  rw [Bool.eq_iff_iff, alkC_iff, beq_iff_eq]
  constructor
  · intro hh
    rcases alikeC_cases hh with ⟨h1, h2⟩ | ⟨h1, h2, _⟩
    · rw [h1, h2]
    · exact absurd ⟨h1, h2⟩ h
  · intro hh
    cases ha : flows a.l o with
    | true => exact absurd ⟨ha, hh.symm.trans ha⟩ h
    | false => exact alikeC_hid ha (hh.symm.trans ha)
theorem alk_both {o : Lab} {a b : Arr} (ha : flows a.s o = true) : alk o a b = true ↔ (a.s = b.s ∧ a.shape = b.shape ∧ a.cells.map (hidC o) = b.cells.map (hidC o)) := by
  rw [alk_iff]
  constructor
  · intro hh
    rcases alike_cases hh with ⟨h1, h2⟩ | ⟨_, _, h⟩
    · rw [ha] at h1; cases h1
    · exact h
  · exact fun h => alike_vis h.1 h.2.1 h.2.2
theorem alkC_both {o : Lab} {a b : Cell} (ha : flows a.l o = true) : alkC o a b = true ↔ (a.l = b.l ∧ a.kind = b.kind ∧ a.c = b.c ∧ a.n = b.n ∧ a.inn.map (hidA o) = b.inn.map (hidA o)) := by
  rw [alkC_iff]
  constructor
  · intro hh
    rcases alikeC_cases hh with ⟨h1, h2⟩ | ⟨_, _, h⟩
    · rw [ha] at h1; cases h1
    · exact h
  · exact fun h => alikeC_vis h.1 h.2.1 h.2.2.1 h.2.2.2.1 h.2.2.2.2
/-- All labels joined. -/
theorem totAs_or (as_ : List Arr) (x y : Lab) : as_.foldl (fun l a => l ||| totA a) (x ||| y) = x ||| as_.foldl (fun l a => l ||| totA a) y := by
  induction as_ generalizing y with
  | nil => rfl
  | cons a as_ ih => simp only [List.foldl_cons]; rw [BitVec.or_assoc, ih]
theorem totC_or (x y : Lab) (c : Cell) : totC (x ||| y) c = x ||| totC y c := by rw [totC_eq, totC_eq, BitVec.or_assoc, totAs_or]
theorem totCs_or (cs : List Cell) (x y : Lab) : cs.foldl totC (x ||| y) = x ||| cs.foldl totC y := by
  induction cs generalizing y with
  | nil => rfl
  | cons c cs ih => simp only [List.foldl_cons]; rw [totC_or, ih]
theorem totA_raise (a : Arr) (l : Lab) : totA (raiseA a l) = l ||| totA a := by rw [totA_eq, totA_eq]; show a.cells.foldl totC (a.s ||| l) = _; rw [BitVec.or_comm, totCs_or]
theorem flows_foldA {o : Lab} : ∀ {as_ : List Arr} {x : Lab}, flows (as_.foldl (fun l a => l ||| totA a) x) o = true ↔ (flows x o = true ∧ ∀ a ∈ as_, flows (totA a) o = true)
  | [], x => by simp
  | a :: as_, x => by
    simp only [List.foldl_cons]
    rw [flows_foldA, flows_or, Bool.and_eq_true]
    simp only [List.mem_cons, forall_eq_or_imp]
    exact and_assoc
theorem flows_totC {o x : Lab} {c : Cell} : flows (totC x c) o = true ↔ (flows x o = true ∧ flows c.l o = true ∧ ∀ a ∈ c.inn, flows (totA a) o = true) := by
  rw [totC_eq, flows_foldA, flows_or, Bool.and_eq_true]; exact and_assoc
theorem flows_foldC {o : Lab} : ∀ {cs : List Cell} {x : Lab}, flows (cs.foldl totC x) o = true ↔ (flows x o = true ∧ ∀ c ∈ cs, flows c.l o = true ∧ ∀ a ∈ c.inn, flows (totA a) o = true)
  | [], x => by simp
  | c :: cs, x => by
    simp only [List.foldl_cons]
    rw [flows_foldC, flows_totC]
    simp only [List.mem_cons, forall_eq_or_imp]
    exact ⟨fun h => ⟨h.1.1, h.1.2, h.2⟩, fun h => ⟨⟨h.1, h.2.1⟩, h.2.2⟩⟩
theorem flows_totA {o : Lab} {a : Arr} : flows (totA a) o = true ↔ (flows a.s o = true ∧ ∀ c ∈ a.cells, flows c.l o = true ∧ ∀ x ∈ c.inn, flows (totA x) o = true) := by rw [totA_eq, flows_foldC]
/-- Where all is seen, nothing is hidden. -/
theorem hid_total {o : Lab} {a : Arr} : flows (totA a) o = true → hidA o a = a := by
  induction a using Arr.ind with
  | h s sh cs IH =>
    intro h
    obtain ⟨h1, h2⟩ := flows_totA.1 h
    rw [hid_vis h1]
    have : cs.map (hidC o) = cs := by
      conv => rhs; rw [← List.map_id cs]
      refine List.map_congr_left (fun c hc => ?_)
      obtain ⟨g1, g2⟩ := h2 c hc
      rw [hidC_vis g1]
      have : c.inn.map (hidA o) = c.inn := by
        conv => rhs; rw [← List.map_id c.inn]
        exact List.map_congr_left (fun x hx => IH c hc x hx (g2 x hx))
      rw [this]; rfl
    show Arr.mk s sh (cs.map (hidC o)) = _
    rw [this]
theorem total_hid {o : Lab} {a : Arr} : flows (totA (hidA o a)) o = true → hidA o a = a := by
  induction a using Arr.ind with
  | h s sh cs IH =>
    intro h
    cases hs : flows (Arr.mk s sh cs).s o with
    | false =>
      rw [hid_hid hs] at h
      have := flows_all (flows_totA.1 h).1 (Arr.mk s sh cs).s
      rw [hs] at this; cases this
    | true =>
      rw [hid_vis hs] at h ⊢
      obtain ⟨_, h2⟩ := flows_totA.1 h
      have : cs.map (hidC o) = cs := by
        conv => rhs; rw [← List.map_id cs]
        refine List.map_congr_left (fun c hc => ?_)
        obtain ⟨g1, g2⟩ := h2 (hidC o c) (List.mem_map.2 ⟨c, hc, rfl⟩)
        cases hl : flows c.l o with
        | false =>
          rw [hidC_hid hl] at g1
          have := flows_all g1 c.l
          rw [hl] at this; cases this
        | true =>
          rw [hidC_vis hl] at g2 ⊢
          have : c.inn.map (hidA o) = c.inn := by
            conv => rhs; rw [← List.map_id c.inn]
            exact List.map_congr_left (fun x hx => IH c hc x hx (g2 (hidA o x) (List.mem_map.2 ⟨x, hx, rfl⟩)))
          rw [this]; rfl
      show Arr.mk s sh (cs.map (hidC o)) = _
      rw [this]
/-- Alike, and all seen: the same. -/
theorem alike_total {o : Lab} {a b : Arr} (h : hidA o a = hidA o b) (ht : flows (totA a) o = true) : a = b := by
  have h1 := hid_total ht
  rw [h1] at h
  rw [h] at ht
  rw [h]; exact total_hid ht
theorem alike_totals {o : Lab} {a b : Arr} (h : hidA o a = hidA o b) : a = b ∨ (flows (totA a) o = false ∧ flows (totA b) o = false) := by
  cases ha : flows (totA a) o with
  | true => exact .inl (alike_total h ha)
  | false =>
    cases hb : flows (totA b) o with
    | true => exact .inl (alike_total h.symm hb).symm
    | false => exact .inr ⟨rfl, rfl⟩
theorem raise_alike {o l : Lab} {a b : Arr} (h : hidA o a = hidA o b) : hidA o (raiseA a l) = hidA o (raiseA b l) := by
  rcases alike_cases h with ⟨h1, h2⟩ | ⟨h1, h2, h3, h4, h5⟩
  · exact alike_hid (by show flows (a.s ||| l) o = false; rw [flows_or, h1]; rfl) (by show flows (b.s ||| l) o = false; rw [flows_or, h2]; rfl)
  · exact alike_vis (by show a.s ||| l = b.s ||| l; rw [h3]) h4 h5
theorem raise_hid {o l : Lab} {a b : Arr} {m : Lab} (h1 : flows l o = false) (h2 : flows m o = false) : hidA o (raiseA a l) = hidA o (raiseA b m) :=
  alike_hid (by show flows (a.s ||| l) o = false; rw [flows_or, h1, Bool.and_false]) (by show flows (b.s ||| m) o = false; rw [flows_or, h2, Bool.and_false])
theorem unpC_alike {o : Lab} {c d : Cell} (h : hidC o c = hidC o d) : hidA o (unpC c) = hidA o (unpC d) := by
  rcases alikeC_cases h with ⟨h1, h2⟩ | ⟨h1, h2, h3, h4, h5, h6, h7⟩
  · have hu : ∀ x : Cell, flows x.l o = false → flows (unpC x).s o = false := fun x hx => by
      unfold unpC
      split
      · split
        · show flows (_ ||| x.l) o = false; rw [flows_or, hx, Bool.and_false]
        · exact hx
      · exact hx
    exact alike_hid (hu c h1) (hu d h2)
  · have hl : c.inn.length = d.inn.length := by have := congrArg List.length h7; simpa using this
    by_cases hb : c.kind = 2 ∧ c.inn.length = 1
    · obtain ⟨x, hx⟩ := len_one hb.2
      obtain ⟨y, hy⟩ := len_one (hl ▸ hb.2)
      rw [unpC_pos hb.1 hx, unpC_pos (h4 ▸ hb.1) hy, h3]
      rw [hx, hy] at h7
      exact raise_alike (by simpa using h7)
    · rw [unpC_neg hb, unpC_neg (by rw [← h4, ← hl]; exact hb)]
      exact alike_vis h3 rfl (by simpa using h)
end Go.Proofs.Ytjmddikeadbmjaa
set_option maxRecDepth 100000
namespace Go.Proofs.Ytjmddikeadbmjaa

theorem twoCs_len {g : Nat → Cell × Int} : ∀ {m k : Nat}, (twoCs g m k).2 = 0 → (twoCs g m k).1.length = m
  | 0, _, _ => by simp [twoCs]
  | m + 1, k, h => by
    rw [twoCs] at h ⊢
    split at h
    · rename_i h1
      rw [if_pos h1]
      split at h
      · rename_i h2; rw [if_pos h2]; simp [twoCs_len h2]
      · rename_i h2; exact absurd h h2
    · rename_i h1; exact absurd h h1
theorem twoCs_mem {g : Nat → Cell × Int} : ∀ {m k : Nat}, (twoCs g m k).2 = 0 → ∀ y ∈ (twoCs g m k).1, ∃ i, k ≤ i ∧ i < k + m ∧ (g i).2 = 0 ∧ y = (g i).1
  | 0, _, _, y, hy => by simp [twoCs] at hy
  | m + 1, k, h, y, hy => by
    rw [twoCs] at h hy
    split at h
    · rename_i h1
      rw [if_pos h1] at hy
      split at h
      · rename_i h2
        rw [if_pos h2] at hy
        rcases List.mem_cons.1 hy with rfl | hy
        · exact ⟨k, by omega, by omega, h1, rfl⟩
        · obtain ⟨i, g1, g2, g3⟩ := twoCs_mem h2 y hy
          exact ⟨i, by omega, by omega, g3⟩
      · rename_i h2; exact absurd h h2
    · rename_i h1; exact absurd h h1
/-- It is told without an error: so it is made. -/
theorem twoG_ok {r : Arr → Arr → Arr × Int} {f : Int} {a b : Arr} (h : (twoG r f a b).2 = 0) : f ∈ twosL ∧ (confA a b).2 = 0 ∧ (twoCs (fun i => twoC r f (pickZ a i) (pickZ b i)) (cntA a b) 0).2 = 0 ∧ (twoG r f a b).1 = .mk (a.s ||| b.s) (confA a b).1 (twoCs (fun i => twoC r f (pickZ a i) (pickZ b i)) (cntA a b) 0).1 := by
  unfold twoG at h ⊢
  split at h
  · rename_i h1
    split at h
    · rename_i h2
      split at h
      · rename_i h3
        rw [if_pos h1, if_pos h2, if_pos h3]
        exact ⟨h1, h2, h3, rfl⟩
      · rename_i h3; exact absurd h h3
    · rename_i h2; exact absurd h h2
  · cases h
theorem conf_nil {a b : Arr} (hc : (confA a b).2 = 0) (h : (confA a b).1 = []) : a.shape = [] ∧ b.shape = [] := by
  unfold confA at hc h
  by_cases h1 : a.shape = []
  · rw [if_pos h1] at h; exact ⟨h1, h⟩
  · rw [if_neg h1] at hc h
    by_cases h2 : b.shape = []
    · rw [if_pos h2] at h; exact absurd h h1
    · rw [if_neg h2] at hc h
      split at hc
      · cases hc
      · rename_i h3
        rw [if_neg h3] at h
        split at hc
        · rename_i h4; rw [if_pos h4] at h; exact absurd h h1
        · cases hc
theorem simple_kind {a : Arr} {c : Cell} (hs : a.shape = []) (hc : a.cells = [c]) (h : simpleA a = false) : c.kind = 2 := by
  rcases Decidable.em (c.kind = 2) with hh | hh
  · exact hh
  · have := (simple_iff a).2 ⟨hs, c, hc, hh⟩
    rw [h] at this; cases this
theorem pick_one {a : Arr} {c : Cell} (hs : a.shape = []) (hc : a.cells = [c]) (i : Int) : pickZ a i = c := by
  unfold pickZ
  rw [if_pos hs, if_neg (by rw [hc]; simp), hc]; rfl
theorem twoG_right {r : Arr → Arr → Arr × Int} {f : Int} {d : Nat} {a b : Arr} (ih : ∀ e, d = e + 1 → ∀ X Y, rightA e X = true → rightA e Y = true → (r X Y).2 = 0 → rightA e (r X Y).1 = true ∧ (simpleA X = false ∨ simpleA Y = false → simpleA (r X Y).1 = false))
    (ha : rightA d a = true) (hb : rightA d b = true) (h : (twoG r f a b).2 = 0) : rightA d (twoG r f a b).1 = true ∧ (simpleA a = false ∨ simpleA b = false → simpleA (twoG r f a b).1 = false) := by
  obtain ⟨h1, h2, h3, h4⟩ := twoG_ok h
  rw [h4]
  refine ⟨rightA_of (by simp only [Arr.shape_mk, Arr.cells_mk, twoCs_len h3]; exact conf_count ha hb h2) (fun y hy => ?_), fun hn => ?_⟩
  · obtain ⟨i, _, hi, g1, rfl⟩ := twoCs_mem h3 y hy
    obtain ⟨p1, p2⟩ := pick_in ha hb h2 (i := i) (by omega)
    have r1 := (rightA_cells ha).2 _ p1
    have r2 := (rightA_cells hb).2 _ p2
    replace g1 : (twoC r f (pickZ a (i : Int)) (pickZ b (i : Int))).2 = 0 := g1
    show rightC d (twoC r f (pickZ a (i : Int)) (pickZ b (i : Int))).1 = true
    generalize pickZ a (i : Int) = x at *
    generalize pickZ b (i : Int) = z at *
    unfold twoC at g1 ⊢
    by_cases k1 : x.kind = 2 ∨ z.kind = 2
    · rw [if_pos k1] at g1 ⊢
      cases d with
      | zero => rcases k1 with k1 | k1; exact absurd k1 (not_box r1); exact absurd k1 (not_box r2)
      | succ e =>
        obtain ⟨c1, _, c2, _⟩ := contC_right r1
        obtain ⟨c3, _, c4, _⟩ := contC_right r2
        obtain ⟨q1, q2⟩ := ih e rfl _ _ c1 c3 g1
        exact rightC_box (q2 (k1.imp c2 c4)) q1
    · rw [if_neg k1] at g1 ⊢
      by_cases k2 : x.kind = 0 ∧ z.kind = 0
      · rw [if_pos k2] at g1 ⊢
        obtain ⟨_, _, rx⟩ := rn_of (num_is r1 k2.1)
        obtain ⟨_, _, ry⟩ := rn_of (num_is r2 k2.2)
        obtain ⟨_, _, rr⟩ := twoN_rn f rx ry g1
        exact rightC_num rr.right
      · rw [if_neg k2] at g1 ⊢
        by_cases k3 : f = 61
        · rw [if_pos k3]
          obtain ⟨_, hz⟩ := truN_rn (decide (x.kind = z.kind ∧ x.c = z.c))
          exact rightC_num hz.right
        · rw [if_neg k3] at g1 ⊢
          by_cases k4 : f = 8800
          · rw [if_pos k4]
            obtain ⟨_, hz⟩ := truN_rn (decide (¬ (x.kind = z.kind ∧ x.c = z.c)))
            exact rightC_num hz.right
          · rw [if_neg k4] at g1; cases g1
  · cases hq : simpleA (Arr.mk (a.s ||| b.s) (confA a b).1 (twoCs (fun i => twoC r f (pickZ a i) (pickZ b i)) (cntA a b) 0).1) with
    | false => rfl
    | true =>
      exfalso
      obtain ⟨q1, c', q2, q3⟩ := (simple_iff _).1 hq
      simp only [Arr.shape_mk, Arr.cells_mk] at q1 q2
      obtain ⟨s1, s2⟩ := conf_nil h2 q1
      obtain ⟨cx, hx⟩ := right_nil ha s1
      obtain ⟨cy, hy⟩ := right_nil hb s2
      obtain ⟨i, _, _, _, e1⟩ := twoCs_mem h3 c' (by rw [q2]; simp)
      simp only [pick_one s1 hx, pick_one s2 hy] at e1
      apply q3
      rw [e1]
      unfold twoC
      rw [if_pos (hn.imp (simple_kind s1 hx) (simple_kind s2 hy))]
theorem twoA_right (f : Int) : ∀ (d : Nat) (a b : Arr), rightA d a = true → rightA d b = true → (twoA d f a b).2 = 0 → rightA d (twoA d f a b).1 = true ∧ (simpleA a = false ∨ simpleA b = false → simpleA (twoA d f a b).1 = false)
  | 0, a, b, ha, hb, h => twoG_right (fun e he => by omega) ha hb h
  | d + 1, a, b, ha, hb, h => twoG_right (fun e he => by
      have : e = d := by omega
      subst this
      exact twoA_right f e) ha hb h
end Go.Proofs.Ytjmddikeadbmjaa
set_option maxRecDepth 100000
namespace Go.Proofs.Ytjmddikeadbmjaa
/-! scrim/scrimlaw10.ScalarPicks -/
def law10_ScalarPicks_orc : List (Nat × Orc) := []
theorem law10_ScalarPicks_tree (n : Nat) (a0 : D) (i1 : D) : evFun Try.prog md law10_ScalarPicks_orc n 3 [] [a0, i1] =
 .call 4 [] [a0] fun yy1 =>
 .br (!((yy1.getD 0 D.nil).toBool)) (.call 5 [] [] fun yy2 =>
 .ret [D.bool ((yy2.getD 0 D.nil).toBool)])
 (.call 7 [] [a0, D.int i1.toInt] fun yy3 =>
 .call 8 [] [a0, D.int i1.toInt] fun yy4 =>
 .call 6 [] [yy3.getD 0 D.nil, yy4.getD 0 D.nil] fun yy5 =>
 .br ((yy5.getD 0 D.nil).toBool) (.call 5 [] [] fun yy6 =>
 .ret [D.bool ((yy6.getD 0 D.nil).toBool)])
 (.ret [D.bool false])) := by kernel_rfl

/-! scrim/scrimlaw10.awake -/
def law10_awake_orc : List (Nat × Orc) := []
theorem law10_awake_tree (n : Nat)  : evFun Try.prog md law10_awake_orc n 5 [] [] =
 .call 10 [] [D.int 10] fun yy1 =>
 .call 10 [] [D.int 1] fun yy2 =>
 .call 10 [] [D.int 2] fun yy3 =>
 .call 12 [] [D.sl [yy2.getD 0 D.nil, yy3.getD 0 D.nil]] fun yy4 =>
 .call 13 [] [D.agg [D.int 4, D.int (((yy1.getD 0 D.nil).fld 1).toInt), (yy1.getD 0 D.nil).fld 2, D.int (((yy1.getD 0 D.nil).fld 3).toInt), (yy1.getD 0 D.nil).fld 4]] fun yy5 =>
 .call 11 [] [D.int 43, yy4.getD 0 D.nil, yy5.getD 0 D.nil] fun yy6 =>
 .br (((yy6.getD 1 D.nil).toInt) == 0) (.br (((((yy6.getD 0 D.nil).fld 2).els).length : Int) == 2) (.br (decide (0 ≤ 1)) (.br (decide (1 < ((((yy6.getD 0 D.nil).fld 2).els).length : Int))) (.call 15 [] [D.int 12] fun yy7 =>
 .call 14 [] [((((yy6.getD 0 D.nil).fld 2).els).getD (Int.toNat 1) D.nil).fld 2, yy7.getD 0 D.nil] fun yy8 =>
 .br ((yy8.getD 0 D.nil).toBool) (.br (decide (0 ≤ 1)) (.br (decide (1 < ((((yy6.getD 0 D.nil).fld 2).els).length : Int))) (.ret [D.bool (((((((yy6.getD 0 D.nil).fld 2).els).getD (Int.toNat 1) D.nil).fld 0).toInt) == 4)]) .fail) .fail)
 (.ret [D.bool false])) .fail) .fail)
 (.ret [D.bool false]))
 (.ret [D.bool false]) := by kernel_rfl

end Go.Proofs.Ytjmddikeadbmjaa
set_option maxRecDepth 100000
namespace Go.Proofs.Ytjmddikeadbmjaa

/-- It answers yes or no, and of the answer this is so. -/
def Tells (t : Tree) (Q : Bool → Prop) : Prop := ∃ b, Tw t [.bool b] ∧ Q b
theorem Tells.ret {b : Bool} {Q : Bool → Prop} (h : Q b) : Tells (.ret [D.bool b]) Q := ⟨b, wp_ret rfl, h⟩
theorem Tells.br {c : Bool} {t e : Tree} {Q : Bool → Prop} (h1 : c = true → Tells t Q) (h2 : c = false → Tells e Q) : Tells (.br c t e) Q := by
  cases h : c with
  | true => obtain ⟨b, h3, h4⟩ := h1 h; exact ⟨b, wp_tt rfl h3, h4⟩
  | false => obtain ⟨b, h3, h4⟩ := h2 h; exact ⟨b, wp_ff rfl h3, h4⟩
theorem Tells.decs {c : Prop} [Decidable c] {t e : Tree} {Q : Bool → Prop} (h1 : c → Tells t Q) (h2 : ¬ c → Tells e Q) : Tells (.br (decide c) t e) Q := Tells.br (fun h => h1 (of_decide_eq_true h)) (fun h => h2 (of_decide_eq_false h))
theorem Tells.dec {c : Prop} [Decidable c] {t e : Tree} {Q : Bool → Prop} (h : c) (h1 : Tells t Q) : Tells (.br (decide c) t e) Q := Tells.decs (fun _ => h1) (fun h2 => absurd h h2)
theorem Tells.call {f : Nat} {xs ys : List D} {k : List D → Tree} {Q : Bool → Prop} (hs : Sp f xs ys) (hk : Tells (k ys) Q) : Tells (.call f [] xs k) Q := by
  obtain ⟨b, h1, h2⟩ := hk
  exact ⟨b, wp_call hs h1, h2⟩
theorem Tells.mono {t : Tree} {Q R : Bool → Prop} (h : Tells t Q) (hq : ∀ b, Q b → R b) : Tells t R := by
  obtain ⟨b, h1, h2⟩ := h
  exact ⟨b, h1, hq b h2⟩
theorem right_inner {d : Nat} {c : Cell} (h : rightC d c = true) : ∀ x ∈ c.inn, ∃ e, d = e + 1 ∧ rightA e x = true := by
  intro x hx
  rcases rightC_cases h with ⟨_, _, g, _⟩ | ⟨_, _, g⟩ | ⟨_, _, _, y, e, g1, g2, _, g3⟩
  · rw [g] at hx; cases hx
  · rw [g] at hx; cases hx
  · rw [g2] at hx
    have : x = y := by simpa using hx
    subst this
    exact ⟨e, g1, g3⟩
end Go.Proofs.Ytjmddikeadbmjaa
set_option maxRecDepth 100000
namespace Go.Proofs.Ytjmddikeadbmjaa

theorem add_ofZ {x y : Int} (h : lenZ (x + y) ≤ 32) : addR (ofZ x) (ofZ y) = (ofZ (x + y), 0) := by
  unfold addR
  rw [numT_ofZ, numT_ofZ, numB_ofZ, numB_ofZ, mkR_val (p := x * 1 + y * 1) (q := 1 * 1) (z := x + y) (d := 1) (by decide) (by decide) (Nat.coprime_one_right _) h (by rw [lbn_one]; decide) (by simp), frac_one]
theorem in_small {z : Int} (h1 : -100000 ≤ z := by decide) (h2 : z ≤ 100000 := by decide) : inR z := inR_small (by omega) (by omega)
def awX : Arr := vectA [intC 1, intC 2]
def awY : Arr := oneA ⟨4, 0, ofZ 10, 0, []⟩
def awZ : Arr := .mk 0 [2] [⟨4, 0, ofZ 11, 0, []⟩, ⟨4, 0, ofZ 12, 0, []⟩]
theorem awX_right (d : Nat) : rightA d awX = true := rightA_of (by decide) (fun c hc => by
  have : c = intC 1 ∨ c = intC 2 := by simpa [awX, vectA] using hc
  rcases this with rfl | rfl
  · exact rightC_int d in_small
  · exact rightC_int d in_small)
theorem awY_right (d : Nat) : rightA d awY = true := rightA_of (by decide) (fun c hc => by
  have : c = ⟨4, 0, ofZ 10, 0, []⟩ := by simpa [awY, oneA] using hc
  subst this
  exact rightC_num (rightN_ofZ in_small))
theorem aw_two : twoA 0 43 awX awY = (awZ, 0) := by
  have e1 : confA awX awY = ([2], 0) := rfl
  have e2 : cntA awX awY = 2 := rfl
  have p1 : pickZ awX ((0 : Nat) : Int) = intC 1 := rfl
  have p2 : pickZ awX ((1 : Nat) : Int) = intC 2 := rfl
  have p3 : pickZ awY ((0 : Nat) : Int) = ⟨4, 0, ofZ 10, 0, []⟩ := rfl
  have p4 : pickZ awY ((1 : Nat) : Int) = ⟨4, 0, ofZ 10, 0, []⟩ := rfl
  have c : ∀ (r : Arr → Arr → Arr × Int) (z : Int), lenZ (z + 10) ≤ 32 → twoC r 43 (intC z) ⟨4, 0, ofZ 10, 0, []⟩ = (⟨4, 0, ofZ (z + 10), 0, []⟩, 0) := fun r z hz => by
    unfold twoC intC twoN
    simp [add_ofZ hz]
  show twoG _ 43 awX awY = _
  unfold twoG
  rw [if_pos (by decide), e1, e2]
  have g0 := c (fun _ _ => (Arr.none, 0)) 1 (lenZ_small (z := 1 + 10))
  have g1 := c (fun _ _ => (Arr.none, 0)) 2 (lenZ_small (z := 2 + 10))
  have t : twoCs (fun i => twoC (fun _ _ => (Arr.none, 0)) 43 (pickZ awX i) (pickZ awY i)) 2 0 = ([⟨4, 0, ofZ 11, 0, []⟩, ⟨4, 0, ofZ 12, 0, []⟩], 0) := by
    rw [twoCs]
    simp only [p1, p3, g0, if_true]
    rw [twoCs]
    simp only [Nat.zero_add, p2, p4, g1, if_true]
    rw [twoCs]
    simp
  rw [t]
  rfl
theorem law10_awake_sp : Sp 5 [] [.bool true] := by
  refine sound_ 0 (law10_awake_tree _) ?_
  refine wp_call (array_Int_sp 10 in_small) (wp_call (array_Int_sp 1 in_small) (wp_call (array_Int_sp 2 in_small) ?_))
  have hv := array_Vector_sp (d := 0) [intC 1, intC 2] (fun c hc => (rightA_sml (awX_right 0)).2.2.2 c hc) (by decide)
  refine wp_call hv ?_
  have hsc := array_Scalar_sp (d := 0) ⟨4, 0, ofZ 10, 0, []⟩ ((rightA_sml (awY_right 0)).2.2.2 _ (by simp [awY, oneA]))
  have e0 : D.agg [D.int 4, D.int (((intC 10).kind)), dN (intC 10).n, D.int (intC 10).c, D.sl []] = dC ⟨4, 0, ofZ 10, 0, []⟩ := by rw [dC_eq]; rfl
  have e1 : D.agg [D.int 4, D.int ((([dC (intC 10)].getD 0 D.nil).fld 1).toInt), ([dC (intC 10)].getD 0 D.nil).fld 2, D.int ((([dC (intC 10)].getD 0 D.nil).fld 3).toInt), ([dC (intC 10)].getD 0 D.nil).fld 4] = dC ⟨4, 0, ofZ 10, 0, []⟩ := by rw [getD_c0, dC_eq, dC_eq]; rfl
  rw [e1]
  refine wp_call hsc ?_
  have ht := scalar_Two_sp 43 0 awX awY (awX_right 0) (awY_right 0) (fun h => by cases h)
  rw [aw_two] at ht
  refine wp_call ht ?_
  have e2 : (dA awZ).fld 2 = D.sl [dC ⟨4, 0, ofZ 11, 0, []⟩, dC ⟨4, 0, ofZ 12, 0, []⟩] := by rw [dA_2]; rfl
  simp only [getD_c0, getD_c1, toInt_int, e2, els_sl]
  refine wp_tt rfl (wp_tt rfl (wp_dec (by decide) (wp_dec (by decide) (wp_call (ref04_Of_sp 12 in_small) ?_))))
  simp only [show ∀ x y : D, [x, y].getD (Int.toNat 1) D.nil = y from fun _ _ => rfl, dC_2, dC_0, getD_c0]
  refine wp_call (ref04_Same_sp (ofZ 12) (ofZ 12) (by have := (rightN_len (rightN_ofZ (in_small (z := 12)))).1; omega) (by have := (rightN_len (rightN_ofZ (in_small (z := 12)))).2; omega)) ?_
  simp only [getD_c0, toBool_bool, dN_0, dN_1, dN_2]
  exact wp_dec trivial (wp_dec (by decide) (wp_dec (by decide) (wp_ret rfl)))
theorem awake_ret : Tw (.call 5 [] [] fun y => .ret [D.bool ((y.getD 0 D.nil).toBool)]) [.bool true] := wp_call law10_awake_sp (wp_ret rfl)
theorem conf_len (a b : Arr) : (confA a b).1.length ≤ a.shape.length + b.shape.length := by
  unfold confA
  split
  · simp
  · split
    · simp
    · split
      · simp
      · split <;> simp
theorem one_fits {f : Int} {d : Nat} {a : Arr} (h : rightA d a = true) : Fits (unoA f a).1 := by
  by_cases h0 : (unoA f a).2 = 0
  · exact (rightA_sml (unoA_right f d a h h0).1).fits
  · have : (unoA f a).1 = .none := by
      rw [unoA_eq] at h0 ⊢
      split at h0
      · rename_i h1
        rw [if_pos h1]
        split at h0
        · exact absurd rfl h0
        · rename_i h2; rw [if_neg h2]
      · rename_i h1; rw [if_neg h1]
    rw [this]; exact fits_none
theorem twoG_err {r : Arr → Arr → Arr × Int} {f : Int} {a b : Arr} (h0 : ¬ (twoG r f a b).2 = 0) : (twoG r f a b).1 = .none := by
  unfold twoG at h0 ⊢
  split at h0
  · rename_i h1
    rw [if_pos h1]
    split at h0
    · rename_i h2
      rw [if_pos h2]
      split at h0
      · exact absurd rfl h0
      · rename_i h3; rw [if_neg h3]
    · rename_i h2; rw [if_neg h2]
  · rename_i h1; rw [if_neg h1]
theorem two_fits {f : Int} {d : Nat} {a b : Arr} (ha : rightA d a = true) (hb : rightA d b = true) : Fits (twoA d f a b).1 := by
  by_cases h0 : (twoA d f a b).2 = 0
  · exact (rightA_sml (twoA_right f d a b ha hb h0).1).fits
  · have : (twoA d f a b).1 = .none := by
      cases d with
      | zero => exact twoG_err h0
      | succ d => exact twoG_err h0
    rw [this]; exact fits_none
end Go.Proofs.Ytjmddikeadbmjaa
set_option maxRecDepth 100000
namespace Go.Proofs.Ytjmddikeadbmjaa

theorem wokL_map {α : Type} {f : α → D} {l : List α} (h : D.wokL (l.map f)) : ∀ x ∈ l, (f x).wok := fun x hx => wokL_iff.1 h _ (List.mem_map.2 ⟨x, hx, rfl⟩)
theorem wok_arr {a : Arr} (h : (dA a).wok) : a.shape.length ≤ 140737488351232 ∧ a.cells.length ≤ 140737488351232 ∧ ∀ c ∈ a.cells, (dC c).wok := by
  rw [dA_eq] at h
  simp only [D.wok, D.wokL, dI, List.length_map] at h
  exact ⟨h.2.1.1, h.2.2.1.1, wokL_map h.2.2.1.2⟩
theorem wok_cell {c : Cell} (h : (dC c).wok) : c.n.top.length ≤ 140737488351232 ∧ c.n.bot.length ≤ 140737488351232 ∧ c.inn.length ≤ 140737488351232 ∧ ∀ x ∈ c.inn, (dA x).wok := by
  rw [dC_eq] at h
  simp only [D.wok, D.wokL, dN, dL, List.length_map] at h
  exact ⟨h.2.2.1.2.1.1, h.2.2.1.2.2.1.1, h.2.2.2.2.1.1, wokL_map h.2.2.2.2.1.2⟩
theorem leftCs_pos' {r : Arr → Int → Int} : ∀ {cs : List Cell} {n : Int}, 0 ≤ leftCs r cs n → 0 ≤ n
  | [], n, h => h
  | c :: cs, n, h => by
    simp only [leftCs] at h
    split at h
    · assumption
    · exact h
theorem leftAs_pos' {r : Arr → Int → Int} : ∀ {as_ : List Arr} {n : Int}, 0 ≤ leftAs r as_ n → 0 ≤ n
  | [], n, h => h
  | a :: as_, n, h => by
    simp only [leftAs] at h
    split at h
    · assumption
    · exact h
theorem leftAs_sml {r : Arr → Int → Int} {e : Nat} : ∀ {as_ : List Arr} {n : Int}, (∀ a ∈ as_, ∀ m, 0 ≤ m → m ≤ 4000 → 0 ≤ r a m → r a m ≤ m - 1 ∧ Sml e a) → n ≤ 4000 → 0 ≤ leftAs r as_ n → leftAs r as_ n + (as_.length : Int) ≤ n ∧ ∀ a ∈ as_, Sml e a
  | [], n, _, _, _ => by simp [leftAs]
  | a :: as_, n, hr, hn, h => by
    have h0 := leftAs_pos' h
    simp only [leftAs] at h ⊢
    rw [if_pos h0] at h ⊢
    have h1 := leftAs_pos' h
    have h2 := hr a (by simp) n h0 hn h1
    have h3 := leftAs_sml (fun x hx => hr x (List.mem_cons_of_mem _ hx)) (by omega) h
    refine ⟨by simp only [List.length_cons]; omega, fun x hx => ?_⟩
    rcases List.mem_cons.1 hx with rfl | hx
    · exact h2.2
    · exact h3.2 x hx
theorem leftCs_sml {r : Arr → Int → Int} {e : Nat} : ∀ {cs : List Cell} {n : Int}, (∀ c ∈ cs, (dC c).wok) → (∀ c ∈ cs, ∀ a ∈ c.inn, ∀ m, 0 ≤ m → m ≤ 4000 → 0 ≤ r a m → r a m ≤ m - 1 ∧ Sml e a) → n ≤ 4000 → 0 ≤ leftCs r cs n → leftCs r cs n + (cs.length : Int) ≤ n ∧ ∀ c ∈ cs, SmlC e c
  | [], n, _, _, _, _ => by simp [leftCs]
  | c :: cs, n, hs, hr, hn, h => by
    have h0 := leftCs_pos' h
    obtain ⟨w1, w2, w3, _⟩ := wok_cell (hs c (by simp))
    have e1 : w64 (w64 (w64 (n - 1) - (c.n.top.length : Int)) - (c.n.bot.length : Int)) = n - 1 - (c.n.top.length : Int) - (c.n.bot.length : Int) := by
      unfold w64
      rw [wrap64 (x := n - 1) (by omega) (by omega), wrap64 (x := n - 1 - (c.n.top.length : Int)) (by omega) (by omega), wrap64 (by omega) (by omega)]
    simp only [leftCs] at h ⊢
    rw [if_pos h0, e1] at h ⊢
    have h1 := leftCs_pos' h
    have h1' := leftAs_pos' h1
    have h2 := leftAs_sml (hr c (by simp)) (by omega) h1
    have h3 := leftCs_sml (fun x hx => hs x (List.mem_cons_of_mem _ hx)) (fun x hx => hr x (List.mem_cons_of_mem _ hx)) (by omega) h
    refine ⟨by simp only [List.length_cons]; omega, fun x hx => ?_⟩
    rcases List.mem_cons.1 hx with rfl | hx
    · exact ⟨by omega, by omega, by omega, h2.2⟩
    · exact h3.2 x hx
theorem leftA_sml : ∀ {e : Nat} {a : Arr} {n : Int}, WFits a → 0 ≤ n → n ≤ 4000 → 0 ≤ leftA e a n → leftA e a n ≤ n - 1 ∧ Sml e a
  | 0, _, _, _, _, _, h => by simp [leftA] at h
  | e + 1, a, n, hf, h0, hn, h => by
    obtain ⟨w1, w2, w3⟩ := wok_arr hf.2
    rw [leftA] at h ⊢
    have e1 : w64 (w64 (n - 1) - (a.shape.length : Int)) = n - 1 - (a.shape.length : Int) := by
      unfold w64
      rw [wrap64 (x := n - 1) (by omega) (by omega), wrap64 (by omega) (by omega)]
    rw [e1] at h ⊢
    have hp := leftCs_pos' h
    have key : leftCs (leftA e) a.cells (n - 1 - (a.shape.length : Int)) + (a.cells.length : Int) ≤ n - 1 - (a.shape.length : Int) ∧ ∀ c ∈ a.cells, SmlC e c := leftCs_sml w3 (fun c hc x hx m hm0 hm h0 => leftA_sml ⟨(hf.1.cell c hc).2.2.2 x hx, (wok_cell (w3 c hc)).2.2.2 x hx⟩ hm0 hm h0) (by omega) h
    exact ⟨by omega, Sml.of (by omega) (by omega) hf.1.shR key.2⟩
theorem few_sml {a : Arr} (h : WFits a) (hf : fewA a = true) : Sml 12 a := (leftA_sml h (by omega) (by omega) (of_decide_eq_true hf)).2
mutual
def sizA : Arr → Int
  | .mk _ _ cs => sizCs (cs.length : Int) cs
def sizCs : Int → List (CellF Arr) → Int
  | n, [] => n
  | n, c :: cs => sizCs (sizC n c) cs
def sizC : Int → CellF Arr → Int
  | n, ⟨_, _, _, _, inn⟩ => sizAs n inn
def sizAs : Int → List Arr → Int
  | n, [] => n
  | n, a :: as_ => sizAs (w64 (n + sizA a)) as_
end
theorem sizA_eq (a : Arr) : sizA a = sizCs (a.cells.length : Int) a.cells := by cases a; rw [sizA]; rfl
theorem sizC_eq (n : Int) (c : Cell) : sizC n c = sizAs n c.inn := by cases c; rw [sizC]
end Go.Proofs.Ytjmddikeadbmjaa
set_option maxRecDepth 100000
namespace Go.Proofs.Ytjmddikeadbmjaa

theorem pick_sml {d : Nat} {a : Arr} (h : Sml (d + 1) a) (i : Int) : SmlC d (pickZ a i) := by
  unfold pickZ
  generalize (if a.shape = [] then (0 : Int) else i) = j
  split
  · exact ⟨by simp [Cell.none, Num.zero], by simp [Cell.none, Num.zero], by simp [Cell.none], by simp [Cell.none]⟩
  · rename_i hj
    have hlt : j.toNat < a.cells.length := by omega
    rw [List.getD_eq_getElem?_getD, List.getElem?_eq_getElem hlt]
    exact h.2.2.2 _ (List.getElem_mem hlt)
theorem scalar_Pick_sp {d : Nat} (a : Arr) (i : Int) (h : Sml (d + 1) a) : Sp 7 [dA a, .int i] [dC (pickZ a i)] := by
  refine sound_ 0 (scalar_Pick_tree _ _ _) ?_
  simp only [toInt_int]
  refine wp_call (scalar_pick_sp a i) ?_
  have hv := array_Vector_sp (d := d) [pickZ a i] (fun c hc => by
    have : c = pickZ a i := by simpa using hc
    subst this; exact pick_sml h i) (by simp)
  refine wp_call hv ?_
  have e2 : (dA (vectA [pickZ a i])).fld 2 = D.sl [dC (pickZ a i)] := by rw [dA_2]; rfl
  simp only [getD_c0, e2, els_sl]
  exact wp_dec (by decide) (wp_dec (by simp) (wp_ret rfl))
theorem scalarPicks_sp (a : Arr) (i : Int) (hw : WFits a) (_ : -9223372036854775808 ≤ i ∧ i ≤ 9223372036854775807) : Sp 3 [dA a, .int i] [.bool true] := by
  refine sound_ 0 (law10_ScalarPicks_tree _ _ _) (wp_call (ref08_Few_sp a hw.1) (wp_br (fun _ => awake_ret) (fun e1 => ?_)))
  have s1 := few_sml hw (by simpa using e1)
  simp only [toInt_int]
  refine wp_call (scalar_Pick_sp a i s1) (wp_call (ref10_Pick_sp a i) ?_)
  exact wp_call (ref08_SameCell_sp _ _ (pick_sml s1 i).fits) (wp_tt (by rw [getD_c0, eqC_self]; rfl) awake_ret)
end Go.Proofs.Ytjmddikeadbmjaa
set_option maxRecDepth 100000
namespace Go.Proofs.Ytjmddikeadbmjaa
open Go.ChangeShapes Go.WideShapes Go.ChangeAt Go.RowKit

set_option maxRecDepth 100000 in
theorem scalarPicks_lifted (os : Os) (started : os.Started) (H : Type) (enc : TypeId × Value → H) :
    ReturnsInHanded {} Try.checked os 3 .any (Rows.scalarPicksSpec.pre6 enc Try.prog Try.f3 Rows.scalarPicksRow.domain false) (Rows.scalarPicksSpec.post enc Try.prog Try.f3 false true false false) := by
  refine returnsInHanded_of_change_sized (C := Try.checked) knob started (by kernel_rfl) Try.func3
    (ChangeSpec.witness6 (enc := enc) (C := Try.checked) false ⟨#[], #[.agg #[.int .u64 0, .slice none 0 0, .slice none 0 0], .int .i64 0], []⟩ 16 (by kernel_rfl) (by kernel_rfl) (by kernel_rfl) (by kernel_rfl)) ?_
  intro W base args ds gs before hval0 hW hcnd hwt0 _
  have hval : ∀ (j : Nat) t v, Try.f3.params[j]? = some t → args[j]? = some v → Value.okWide Try.prog W .any base t v := hval0
  have hW' := hW
  obtain ⟨p, q, hA0, hV, rfl, hfz, hnd⟩ := hW
  have hA : DataW.TrodAll enc Try.prog W 0 (fun _ => true) true Try.f3.params.toList args.toList ds p := hA0
  rw [Try.params3] at hA hval
  obtain ⟨v0, vs0, d0, ds0, p0, q0, hargs, rfl, rfl, h0, r0⟩ := trodAll_cons hA
  obtain ⟨v1, vs1, d1, ds1, p1, q1, rfl, rfl, rfl, h1, r1⟩ := trodAll_cons r0
  obtain ⟨rfl, rfl, rfl⟩ := trodAll_nil r1
  obtain rfl : args = #[v0, v1] := by cases args; simp_all
  have hwt : ∀ (j t : Nat) d, (Try.f3.params.toList)[j]? = some t → ([d0, d1])[j]? = some d → ∀ z ∈ DataW.weights Try.prog t d, z ≤ reachBytes := fun j t d ht hd z hz => by
    have hl := (List.getElem?_eq_some_iff.1 ht).1
    have hl2 := (List.getElem?_eq_some_iff.1 hd).1
    have := List.all_eq_true.1 hwt0 z (DataW.weights_mem_each (j := j) (t := t) (d := d) (by rw [List.getElem?_append_left hl]; exact ht) (by rw [List.getElem?_append_left hl2]; exact hd) z hz)
    simpa using this
  obtain ⟨x0, hx0, hr0⟩ := arg_arrw (hval 0 26 v0 rfl rfl) h0 (hwt 0 _ _ rfl rfl)
  obtain ⟨x1, hx1, hr1⟩ := arg_int (hval 1 3 v1 rfl rfl) h1
  refine (law_calls (vs := [v0, v1]) (scalarPicks_sp x0 x1 hx0 hx1) Try.func3 (by kernel_rfl) (by kernel_rfl) Try.underlying4 rfl rfl ?_).mono fun e W' ⟨he, hx⟩ => ⟨_, he, law_post laidOut hW' rfl (by kernel_rfl) Try.underlying4 rfl (by kernel_rfl) hx⟩
  intro i t x v ht hx hv
  match i with
  | 0 => cases (show some 26 = some t from ht); cases hx; cases hv; exact hr0
  | 1 => cases (show some 3 = some t from ht); cases hx; cases hv; exact hr1
  | i + 2 => cases hx

theorem scalarPicks_holds : Rows.ScalarPicksSaid :=
  OpenClaim.holds_of_wide 3 Try.f3 rfl rfl rfl rfl rfl rfl rfl ⟨rfl, rfl, rfl, rfl, rfl⟩ rfl rfl rfl rfl rfl (by kernel_rfl) Try.func3 (by kernel_rfl)
    (of_decide_eq_true (by kernel_rfl)) (by unfold Func.isWrapper; first | (rw [if_pos (by decide +kernel)]; kernel_rfl) | (rw [if_neg (by decide +kernel)]; exact ⟨rfl, rfl⟩))
    (fun os started H enc _ => scalarPicks_lifted os started H enc)

end Go.Proofs.Ytjmddikeadbmjaa
