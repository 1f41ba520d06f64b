/- Proved: lemmas for the law of this folder, part 6. No condition. -/
import Derived.Test.YtcgfpibkajagjaaRows
import Derived.WalkKit
import Derived.WalkSpells
import Derived.WalkLawsBesides
import Derived.Lib.Hide
import Derived.Laws.CopyOwn
import Derived.Deep.QuietTactic
import Derived.BigQuiet
import Derived.Orders
import Derived.Defers
import Derived.Recover
import Derived.Test.YtcgfpibkajagjaaProg
import Derived.KernelRfl
import Derived.ProofKit
import Derived.OpenShut
import Derived.Maps.OwnRows
import Derived.Maps.Views
import Derived.Deep.RegionHeld3
import Derived.Deep.AppendLies
import Derived.Test.YtcgfpibkajagjaaZc7c2a6d8
set_option linter.unusedSimpArgs false
set_option linter.unusedVariables false
set_option maxRecDepth 100000
namespace Go.Proofs.Ytcgfpibkajagjaa
/-! scrim/join.Catenate -/
def join_Catenate_orc : List (Nat × Orc) := []
theorem join_Catenate_tree (n : Nat) (a0 : D) (b1 : D) (first2 : D) : evFun Try.prog md join_Catenate_orc n 36 [] [a0, b1, first2] =
 .call 76 [] [a0, b1, D.bool first2.toBool] fun yy1 =>
 .br (((yy1.getD 1 D.nil).toInt) != 0) (.ret [D.agg [D.int 0, D.sl [], D.sl []], D.int ((yy1.getD 1 D.nil).toInt)])
 (.call 77 [] [yy1.getD 0 D.nil] fun yy2 =>
 .br (((yy2.getD 1 D.nil).toInt) != 0) (.ret [D.agg [D.int 0, D.sl [], D.sl []], D.int ((yy2.getD 1 D.nil).toInt)])
 (.call 78 [] [D.int ((a0.fld 0).toInt), D.int ((b1.fld 0).toInt)] fun yy3 =>
 .call 79 [] [yy1.getD 0 D.nil, yy2.getD 0 D.nil] fun yy4 =>
 .ret [D.agg [D.int ((yy3.getD 0 D.nil).toInt), yy2.getD 0 D.nil, yy4.getD 0 D.nil], D.int 0])) := by kernel_rfl

/-! scrim/join.fit -/
def join_fit_orc : List (Nat × Orc) := []
theorem join_fit_tree (n : Nat) (a0 : D) (b1 : D) (first2 : D) : evFun Try.prog md join_fit_orc n 76 [] [a0, b1, first2] =
 .br first2.toBool (.call 114 [] [a0, b1.fld 1, D.int (if (if (((a0.fld 1).els).length : Int) < (((b1.fld 1).els).length : Int) then (((b1.fld 1).els).length : Int) else (((a0.fld 1).els).length : Int)) < 1 then 1 else (if (((a0.fld 1).els).length : Int) < (((b1.fld 1).els).length : Int) then (((b1.fld 1).els).length : Int) else (((a0.fld 1).els).length : Int))), D.int 0] fun yy1 =>
 .br (!((yy1.getD 1 D.nil).toBool)) (.ret [D.agg [D.agg [D.sl [], D.sl [], D.bool false], D.agg [D.sl [], D.sl [], D.bool false], D.int 0], D.int 5])
 (.call 114 [] [b1, a0.fld 1, D.int (if (if (((a0.fld 1).els).length : Int) < (((b1.fld 1).els).length : Int) then (((b1.fld 1).els).length : Int) else (((a0.fld 1).els).length : Int)) < 1 then 1 else (if (((a0.fld 1).els).length : Int) < (((b1.fld 1).els).length : Int) then (((b1.fld 1).els).length : Int) else (((a0.fld 1).els).length : Int))), D.int 0] fun yy2 =>
 .br (!((yy2.getD 1 D.nil).toBool)) (.ret [D.agg [D.agg [D.sl [], D.sl [], D.bool false], D.agg [D.sl [], D.sl [], D.bool false], D.int 0], D.int 5])
 (.ret [D.agg [yy1.getD 0 D.nil, yy2.getD 0 D.nil, D.int 0], D.int 0])))
 (.call 114 [] [a0, b1.fld 1, D.int (if (if (((a0.fld 1).els).length : Int) < (((b1.fld 1).els).length : Int) then (((b1.fld 1).els).length : Int) else (((a0.fld 1).els).length : Int)) < 1 then 1 else (if (((a0.fld 1).els).length : Int) < (((b1.fld 1).els).length : Int) then (((b1.fld 1).els).length : Int) else (((a0.fld 1).els).length : Int))), D.int (IntKind.wrap .i64 ((if (if (((a0.fld 1).els).length : Int) < (((b1.fld 1).els).length : Int) then (((b1.fld 1).els).length : Int) else (((a0.fld 1).els).length : Int)) < 1 then 1 else (if (((a0.fld 1).els).length : Int) < (((b1.fld 1).els).length : Int) then (((b1.fld 1).els).length : Int) else (((a0.fld 1).els).length : Int))) - 1))] fun yy3 =>
 .br (!((yy3.getD 1 D.nil).toBool)) (.ret [D.agg [D.agg [D.sl [], D.sl [], D.bool false], D.agg [D.sl [], D.sl [], D.bool false], D.int 0], D.int 5])
 (.call 114 [] [b1, a0.fld 1, D.int (if (if (((a0.fld 1).els).length : Int) < (((b1.fld 1).els).length : Int) then (((b1.fld 1).els).length : Int) else (((a0.fld 1).els).length : Int)) < 1 then 1 else (if (((a0.fld 1).els).length : Int) < (((b1.fld 1).els).length : Int) then (((b1.fld 1).els).length : Int) else (((a0.fld 1).els).length : Int))), D.int (IntKind.wrap .i64 ((if (if (((a0.fld 1).els).length : Int) < (((b1.fld 1).els).length : Int) then (((b1.fld 1).els).length : Int) else (((a0.fld 1).els).length : Int)) < 1 then 1 else (if (((a0.fld 1).els).length : Int) < (((b1.fld 1).els).length : Int) then (((b1.fld 1).els).length : Int) else (((a0.fld 1).els).length : Int))) - 1))] fun yy4 =>
 .br (!((yy4.getD 1 D.nil).toBool)) (.ret [D.agg [D.agg [D.sl [], D.sl [], D.bool false], D.agg [D.sl [], D.sl [], D.bool false], D.int 0], D.int 5])
 (.ret [D.agg [yy3.getD 0 D.nil, yy4.getD 0 D.nil, D.int (IntKind.wrap .i64 ((if (if (((a0.fld 1).els).length : Int) < (((b1.fld 1).els).length : Int) then (((b1.fld 1).els).length : Int) else (((a0.fld 1).els).length : Int)) < 1 then 1 else (if (((a0.fld 1).els).length : Int) < (((b1.fld 1).els).length : Int) then (((b1.fld 1).els).length : Int) else (((a0.fld 1).els).length : Int))) - 1))], D.int 0]))) := by kernel_rfl

/-! (scrim/join.pair).whole -/
def join_pair_whole_orc : List (Nat × Orc) := [(2, ⟨[(1, none), (12, some 23), (13, none), (14, none)], [(1, true)], []⟩)]
def join_pair_whole_ps : List Nat := [92]
def join_pair_whole_rs : List ResultVar := [.tmp 2, .tmp 3]
def join_pair_whole_ts : List Nat := [23, 29]
noncomputable def join_pair_whole_l2 (n m2 : Nat) (t12 : D) (t13 : Int) (t14 : Int) (p1 : D) : Tree :=
  evLoop Try.prog md (ev Try.prog md n join_pair_whole_orc (cAt (bodyOf Try.prog 77) [1, 0, 1, 0, 0])) (orcAt join_pair_whole_orc 2) m2 ⟨[.undef, .ptr 1 [], .undef, .undef, .undef, .undef, .undef, .undef, .undef, .undef, .undef, .undef, .d 23 t12, .i .i64 t13, .i .i64 t14, .undef, .undef, .undef, .undef, .undef, .undef, .undef, .undef, .undef, .undef, .undef, .undef, .undef, .undef, .undef, .undef, .undef, .undef, .undef, .undef, .undef, .undef, .undef, .undef, .undef, .undef, .undef, .undef, .undef, .undef, .undef, .undef, .undef, .undef, .undef, .undef, .undef, .undef, .undef, .undef, .undef, .undef, .undef, .undef, .undef, .undef, .undef, .undef, .undef, .undef, .undef, .undef], [(1, .var 92 (.d 92 p1) true)], [1], [], []⟩
   (blockK 0 (seqK (joinE Try.prog md (joinAt join_pair_whole_orc (cAt (bodyOf Try.prog 77) [1, 1])) (ev Try.prog md n join_pair_whole_orc (cAt (bodyOf Try.prog 77) [1, 1]))) (retK Try.prog md (md 77) join_pair_whole_ps join_pair_whole_rs join_pair_whole_ts)))
theorem join_pair_whole_l2_succ (n m2 : Nat) (t12 : D) (t13 : Int) (t14 : Int) (p1 : D) : join_pair_whole_l2 n (m2 + 1) t12 t13 t14 p1 =
 .br (decide (t14 < t13)) (.br (decide (0 ≤ t14)) (.br (decide (t14 < (t12.els.length : Int))) (.br (t14 != ((p1.fld 2).toInt)) (.br (decide (0 ≤ t14)) (.br (decide (t14 < ((((p1.fld 1).fld 0).els).length : Int))) (.br (((t12.els.getD (Int.toNat t14) D.nil).toInt) != (((((p1.fld 1).fld 0).els).getD (Int.toNat t14) D.nil).toInt)) (.ret [D.sl [], D.int 4])
 (join_pair_whole_l2 n m2 t12 t13 (IntKind.wrap .i64 (t14 + 1)) p1)) .fail) .fail)
 (join_pair_whole_l2 n m2 t12 t13 (IntKind.wrap .i64 (t14 + 1)) p1)) .fail) .fail)
 (.br (decide (0 ≤ (p1.fld 2).toInt)) (.br (decide ((p1.fld 2).toInt < ((((p1.fld 0).fld 0).els).length : Int))) (.br (decide (0 ≤ (p1.fld 2).toInt)) (.br (decide ((p1.fld 2).toInt < ((((p1.fld 1).fld 0).els).length : Int))) (.call 115 [] [(p1.fld 0).fld 0, D.int ((p1.fld 2).toInt), D.int (IntKind.wrap .i64 ((((((p1.fld 0).fld 0).els).getD (Int.toNat ((p1.fld 2).toInt)) D.nil).toInt) + (((((p1.fld 1).fld 0).els).getD (Int.toNat ((p1.fld 2).toInt)) D.nil).toInt)))] fun yy1 =>
 .call 69 [] [yy1.getD 0 D.nil] fun yy2 =>
 .br (((yy2.getD 1 D.nil).toInt) != 0) (.ret [D.sl [], D.int ((yy2.getD 1 D.nil).toInt)])
 (.ret [yy1.getD 0 D.nil, D.int 0])) .fail) .fail) .fail) .fail) := by kernel_rfl
theorem join_pair_whole_tree (n : Nat) (p0 : D) : evFun Try.prog md join_pair_whole_orc n 77 [] [p0] =
 join_pair_whole_l2 n n ((p0.fld 0).fld 0) ((((p0.fld 0).fld 0).els).length : Int) 0 p0 := by kernel_rfl

/-! (scrim/join.pair).merge -/
def join_pair_merge_orc : List (Nat × Orc) := [(5, ⟨[(2, none), (9, none), (10, none), (11, none), (46, none), (47, none)], [(2, true)], [(.slot 11, 1050, 52)]⟩)]
def join_pair_merge_ps : List Nat := [92, 23]
def join_pair_merge_rs : List ResultVar := [.tmp 4]
def join_pair_merge_ts : List Nat := [24]
noncomputable def join_pair_merge_l5 (n m5 : Nat) (one9 : Int) (other10 : Int) (r11 : List D) (t46 : Int) (t47 : Int) (p2 : D) : Tree :=
  evLoop Try.prog md (ev Try.prog md n join_pair_merge_orc (cAt (bodyOf Try.prog 79) [1, 1, 1, 1, 0, 1, 0, 0])) (orcAt join_pair_merge_orc 5) m5 ⟨[.undef, .undef, .ptr 2 [], .undef, .undef, .undef, .undef, .undef, .undef, .i .i64 one9, .i .i64 other10, .row 1050, .undef, .undef, .undef, .undef, .undef, .undef, .undef, .undef, .undef, .undef, .undef, .undef, .undef, .undef, .undef, .undef, .undef, .undef, .undef, .undef, .undef, .undef, .undef, .undef, .undef, .undef, .undef, .undef, .undef, .undef, .undef, .undef, .undef, .undef, .i .i64 t46, .i .i64 t47, .undef, .undef, .undef, .undef, .undef, .undef, .undef, .undef, .undef, .undef, .undef, .undef, .undef, .undef, .undef, .undef], [(2, .var 92 (.d 92 p2) true), (1050, .row 52 r11 true)], [2, 1050], [], []⟩
   (blockK 0 (seqK (joinE Try.prog md (joinAt join_pair_merge_orc (cAt (bodyOf Try.prog 79) [1, 1, 1, 1, 1])) (ev Try.prog md n join_pair_merge_orc (cAt (bodyOf Try.prog 79) [1, 1, 1, 1, 1]))) (retK Try.prog md (md 79) join_pair_merge_ps join_pair_merge_rs join_pair_merge_ts)))
theorem join_pair_merge_l5_succ (n m5 : Nat) (one9 : Int) (other10 : Int) (r11 : List D) (t46 : Int) (t47 : Int) (p2 : D) : join_pair_merge_l5 n (m5 + 1) one9 other10 r11 t46 t47 p2 =
 .br (decide (t47 < t46)) (.call 117 [] [p2.fld 0, D.sl r11, D.int t47, D.int one9] fun yy2 =>
 .call 117 [] [p2.fld 1, D.sl ((yy2.getD 0 D.nil).els), D.int t47, D.int other10] fun yy3 =>
 join_pair_merge_l5 n m5 one9 other10 ((yy3.getD 0 D.nil).els) t46 (IntKind.wrap .i64 (t47 + 1)) p2)
 (.ret [D.sl r11]) := by kernel_rfl
theorem join_pair_merge_tree (n : Nat) (p0 : D) (s1 : D) : evFun Try.prog md join_pair_merge_orc n 79 [] [p0, s1] =
 .call 116 [] [s1, D.int ((p0.fld 2).toInt)] fun yy1 =>
 .br (decide (0 ≤ (p0.fld 2).toInt)) (.br (decide ((p0.fld 2).toInt < ((((p0.fld 0).fld 0).els).length : Int))) (.br (decide (0 ≤ (p0.fld 2).toInt)) (.br (decide ((p0.fld 2).toInt < ((((p0.fld 1).fld 0).els).length : Int))) (.br (decide (0 ≤ 0)) (.br (decide (0 ≤ IntKind.wrap .i64 (((yy1.getD 0 D.nil).toInt) * (IntKind.wrap .i64 ((IntKind.wrap .i64 ((((((p0.fld 0).fld 0).els).getD (Int.toNat ((p0.fld 2).toInt)) D.nil).toInt) * ((yy1.getD 2 D.nil).toInt))) + (IntKind.wrap .i64 ((((((p0.fld 1).fld 0).els).getD (Int.toNat ((p0.fld 2).toInt)) D.nil).toInt) * ((yy1.getD 2 D.nil).toInt)))))))) (.br (decide (IntKind.wrap .i64 (((yy1.getD 0 D.nil).toInt) * (IntKind.wrap .i64 ((IntKind.wrap .i64 ((((((p0.fld 0).fld 0).els).getD (Int.toNat ((p0.fld 2).toInt)) D.nil).toInt) * ((yy1.getD 2 D.nil).toInt))) + (IntKind.wrap .i64 ((((((p0.fld 1).fld 0).els).getD (Int.toNat ((p0.fld 2).toInt)) D.nil).toInt) * ((yy1.getD 2 D.nil).toInt)))))) ≤ bigN)) (join_pair_merge_l5 n n (IntKind.wrap .i64 ((((((p0.fld 0).fld 0).els).getD (Int.toNat ((p0.fld 2).toInt)) D.nil).toInt) * ((yy1.getD 2 D.nil).toInt))) (IntKind.wrap .i64 ((((((p0.fld 1).fld 0).els).getD (Int.toNat ((p0.fld 2).toInt)) D.nil).toInt) * ((yy1.getD 2 D.nil).toInt))) (List.replicate (Int.toNat 0) (D.agg [D.int 0, D.int 0, D.agg [D.bool false, D.sl [], D.sl []], D.int 0, D.sl []])) ((yy1.getD 0 D.nil).toInt) 0 p0) .fail) .fail) .fail) .fail) .fail) .fail) .fail := by kernel_rfl

/-! scrim/join.widen -/
def join_widen_orc : List (Nat × Orc) := []
theorem join_widen_tree (n : Nat) (a0 : D) (other1 : D) (axes2 : D) (axis3 : D) : evFun Try.prog md join_widen_orc n 114 [] [a0, other1, axes2, axis3] =
 .br (decide (0 ≤ 0)) (.br (decide (0 ≤ axes2.toInt)) (.br (decide (axes2.toInt ≤ bigN)) (.br ((((a0.fld 1).els).length : Int) == axes2.toInt) (.br (decide ((List.replicate (Int.toNat 0) (D.int 0)).length + ((a0.fld 1).els).length ≤ bigN)) (.ret [D.agg [D.sl ((List.replicate (Int.toNat 0) (D.int 0)) ++ ((a0.fld 1).els)), a0.fld 2, D.bool false], D.bool true]) .fail)
 (.br ((((a0.fld 1).els).length : Int) == 0) (.br ((other1.els.length : Int) == 0) (.br (decide ((List.replicate (Int.toNat 0) (D.int 0)).length + [D.int 1].length ≤ bigN)) (.ret [D.agg [D.sl ((List.replicate (Int.toNat 0) (D.int 0)) ++ [D.int 1]), a0.fld 2, D.bool true], D.bool true]) .fail)
 (.br (decide ((List.replicate (Int.toNat 0) (D.int 0)).length + other1.els.length ≤ bigN)) (.br (decide (0 ≤ axis3.toInt)) (.br (decide (axis3.toInt < (((List.replicate (Int.toNat 0) (D.int 0)) ++ other1.els).length : Int))) (.ret [D.agg [D.sl (((List.replicate (Int.toNat 0) (D.int 0)) ++ other1.els).set (Int.toNat axis3.toInt) (D.int 1)), a0.fld 2, D.bool true], D.bool true]) .fail) .fail) .fail))
 (.br ((((a0.fld 1).els).length : Int) == (IntKind.wrap .i64 (axes2.toInt - 1))) (.br (decide (0 ≤ axis3.toInt)) (.br (decide (axis3.toInt ≤ (((a0.fld 1).els).length : Int))) (.br (decide ((List.replicate (Int.toNat 0) (D.int 0)).length + (((a0.fld 1).els).take (Int.toNat axis3.toInt)).length ≤ bigN)) (.br (decide (((List.replicate (Int.toNat 0) (D.int 0)) ++ (((a0.fld 1).els).take (Int.toNat axis3.toInt))).length + [D.int 1].length ≤ bigN)) (.br (decide (0 ≤ axis3.toInt)) (.br (decide (axis3.toInt ≤ (((a0.fld 1).els).length : Int))) (.br (decide ((((List.replicate (Int.toNat 0) (D.int 0)) ++ (((a0.fld 1).els).take (Int.toNat axis3.toInt))) ++ [D.int 1]).length + (((a0.fld 1).els).drop (Int.toNat axis3.toInt)).length ≤ bigN)) (.ret [D.agg [D.sl ((((List.replicate (Int.toNat 0) (D.int 0)) ++ (((a0.fld 1).els).take (Int.toNat axis3.toInt))) ++ [D.int 1]) ++ (((a0.fld 1).els).drop (Int.toNat axis3.toInt))), a0.fld 2, D.bool false], D.bool true]) .fail) .fail) .fail) .fail) .fail) .fail) .fail)
 (.ret [D.agg [D.sl [], D.sl [], D.bool false], D.bool false])))) .fail) .fail) .fail := by kernel_rfl

/-! (scrim/join.block).row -/
def join_block_row_orc : List (Nat × Orc) := [(4, ⟨[(1, none), (4, none), (25, none), (26, none)], [(4, true)], [(.slot 1, 1040, 52)]⟩)]
def join_block_row_ps : List Nat := [90, 24, 3, 3]
def join_block_row_rs : List ResultVar := [.tmp 8]
def join_block_row_ts : List Nat := [24]
noncomputable def join_block_row_l4 (n m4 : Nat) (r1 : List D) (t25 : Int) (t26 : Int) (b4 : D) : Tree :=
  evLoop Try.prog md (ev Try.prog md n join_block_row_orc (cAt (bodyOf Try.prog 117) [1, 1, 0, 1, 0, 0])) (orcAt join_block_row_orc 4) m4 ⟨[.undef, .row 1040, .undef, .undef, .ptr 4 [], .undef, .undef, .undef, .undef, .undef, .undef, .undef, .undef, .undef, .undef, .undef, .undef, .undef, .undef, .undef, .undef, .undef, .undef, .undef, .undef, .i .i64 t25, .i .i64 t26, .undef, .undef, .undef, .undef, .undef, .undef, .undef, .undef, .undef, .undef], [(4, .var 90 (.d 90 b4) true), (1040, .row 52 r1 true)], [4, 1040], [], []⟩
   (blockK 0 (seqK (joinE Try.prog md (joinAt join_block_row_orc (cAt (bodyOf Try.prog 117) [1, 1, 1])) (ev Try.prog md n join_block_row_orc (cAt (bodyOf Try.prog 117) [1, 1, 1]))) (retK Try.prog md (md 117) join_block_row_ps join_block_row_rs join_block_row_ts)))
theorem join_block_row_l4_succ (n m4 : Nat) (r1 : List D) (t25 : Int) (t26 : Int) (b4 : D) : join_block_row_l4 n (m4 + 1) r1 t25 t26 b4 =
 .br (decide (t26 < t25)) (.br (decide (0 ≤ 0)) (.br (decide (0 < (((b4.fld 1).els).length : Int))) (.br (decide (r1.length + [((b4.fld 1).els).getD (Int.toNat 0) D.nil].length ≤ bigN)) (join_block_row_l4 n m4 (r1 ++ [((b4.fld 1).els).getD (Int.toNat 0) D.nil]) t25 (IntKind.wrap .i64 (t26 + 1)) b4) .fail) .fail) .fail)
 (.ret [D.sl r1]) := by kernel_rfl
theorem join_block_row_tree (n : Nat) (b0 : D) (r1 : D) (i2 : D) (nn3 : D) : evFun Try.prog md join_block_row_orc n 117 [] [b0, r1, i2, nn3] =
 .br (!((b0.fld 2).toBool)) (.br (decide (0 ≤ IntKind.wrap .i64 (i2.toInt * nn3.toInt))) (.br (decide (IntKind.wrap .i64 (i2.toInt * nn3.toInt) ≤ IntKind.wrap .i64 ((IntKind.wrap .i64 (i2.toInt * nn3.toInt)) + nn3.toInt))) (.br (decide (IntKind.wrap .i64 ((IntKind.wrap .i64 (i2.toInt * nn3.toInt)) + nn3.toInt) ≤ (((b0.fld 1).els).length : Int))) (.br (decide (r1.els.length + ((((b0.fld 1).els).take (Int.toNat (IntKind.wrap .i64 ((IntKind.wrap .i64 (i2.toInt * nn3.toInt)) + nn3.toInt)))).drop (Int.toNat (IntKind.wrap .i64 (i2.toInt * nn3.toInt)))).length ≤ bigN)) (.ret [D.sl (r1.els ++ ((((b0.fld 1).els).take (Int.toNat (IntKind.wrap .i64 ((IntKind.wrap .i64 (i2.toInt * nn3.toInt)) + nn3.toInt)))).drop (Int.toNat (IntKind.wrap .i64 (i2.toInt * nn3.toInt)))))]) .fail) .fail) .fail) .fail)
 (join_block_row_l4 n n r1.els nn3.toInt 0 b0) := by kernel_rfl

end Go.Proofs.Ytcgfpibkajagjaa
set_option maxRecDepth 100000
namespace Go.Proofs.Ytcgfpibkajagjaa

theorem prodS_one1 {n : Nat} (h : n ≤ 2048) : prodS [(n : Int)] 1 = (n : Int) := by
  simp only [prodS]; rw [if_neg (by omega)]; omega
theorem countS_cases1 {n : Nat} (h : n ≤ 2048) : countS [(n : Int)] = ((n : Int), 0) := by
  unfold countS
  rw [prodS_one1 h]
  simp only [List.length_cons, List.length_nil, List.any_cons, List.any_nil, Bool.or_false]
  by_cases h0 : n = 0
  · subst h0; rfl
  · rw [if_neg (by omega), if_neg (by simp), if_neg (by simp; omega), if_neg (by simp; omega), if_neg (by omega)]
theorem shape_product0_sp (l : List Int) (hb : l.length ≤ 6) (hx : ∀ x ∈ l, 0 ≤ x ∧ x ≤ 2048) : Sp 102 [dI l] [.int (prodS l 1)] := by
  refine sound_ (l.length + 1) (shape_product_tree _ _) ?_
  have key := loop_list (P := Try.prog) (md := md) l (fun m k (p : Int) => shape_product_l3 (l.length + 1) m p (dI l) (l.length : Int) (k : Int)) (fun rest p => [.int (prodS rest p)]) (fun _ p => 0 ≤ p ∧ p ≤ 2048)
    (fun m k p hk hI => by
      simp only [shape_product_l3_succ]
      exact wp_ndec (by omega) (wp_ret rfl))
    (fun m k p x rest hd hI ih => by
      obtain ⟨h1, h2, h3⟩ := drop_cons hd
      have hxx := hx x (List.mem_of_getElem? h2)
      have hp : 0 ≤ p * x ∧ p * x ≤ 4194304 := ⟨Int.mul_nonneg hI.1 hxx.1, by have := Int.mul_le_mul hI.2 hxx.2 hxx.1 (by omega); omega⟩
      simp only [shape_product_l3_succ, els_dI, List.length_map, Int.toNat_natCast, getD_map h2, toInt_int, wrap_succ (show k < 9223372036854775807 by omega), wrap64 (x := p * x) (by omega) (by omega)]
      repeat (refine wp_dec (by omega) ?_)
      simp only [prodS]
      refine wp_decs (fun h => wp_ret ?_) (fun h => ?_)
      · rw [if_pos h]
      · rw [if_neg h]; exact ih _ ⟨hp.1, by omega⟩)
    (l.length + 1) 0 1 (by omega) (by omega) (by decide)
  simpa using key
def aroundD (s : List Int) (x : Int) : List D := if (countS s).2 = 0 ∧ 0 ≤ x ∧ x < s.length then [.int (prodS (s.take x.toNat) 1), .int (s.getD x.toNat 0), .int (prodS (s.drop (x.toNat + 1)) 1), .bool true] else [.int 0, .int 0, .int 0, .bool false]
theorem shape_Around_sp (s : List Int) (x : Int) : Sp 116 [dI s, .int x] (aroundD s x) := by
  refine sound_ 0 (shape_Around_tree _ _ _) (wp_call (shape_Count_sp s) ?_)
  unfold aroundD
  simp only [dA_0, dA_1, dA_2, dC_0, dC_1, dC_2, dC_3, dC_4, dN_0, dN_1, dN_2, els_sl, els_dI, els_dL, List.length_map, Int.toNat_natCast, toInt_int, toInt_dB, toBool_bool, getD_c0, getD_c1, int_beq, int_bne, not_dec, dInt_dB, Int.toNat_zero]
  refine wp_decs (fun h => wp_ret (by rw [if_neg (fun hh => h hh.1)])) (fun h => wp_decs (fun h1 => wp_ret (by rw [if_neg (by omega)])) (fun h1 => wp_decs (fun h2 => wp_ret (by rw [if_neg (by omega)])) (fun h2 => ?_)))
  have h0 : (countS s).2 = 0 := Classical.not_not.1 h
  rw [if_pos ⟨h0, by omega, by omega⟩]
  obtain ⟨c1, c2⟩ := countS_len h0
  obtain ⟨X, rfl⟩ : ∃ X : Nat, x = (X : Int) := ⟨x.toNat, by omega⟩
  simp only [wrap_succ (show X < 9223372036854775807 by omega), Int.toNat_natCast, ← List.map_take, ← List.map_drop, dsl_dI]
  refine wp_dec (by omega) (wp_dec (by omega) (wp_call (shape_product0_sp (s.take X) (by rw [List.length_take]; omega) (fun y hy => c2 y (List.mem_of_mem_take hy))) (wp_dec (by omega) (wp_dec (by omega) (wp_dec (by omega) (wp_dec (by omega) (wp_call (shape_product0_sp (s.drop (X + 1)) (by rw [List.length_drop]; omega) (fun y hy => c2 y (List.mem_of_mem_drop hy))) (wp_ret ?_))))))))
  rw [getD_int (show X < s.length by omega)]
  simp only [dA_0, dA_1, dA_2, dC_0, dC_1, dC_2, dC_3, dC_4, dN_0, dN_1, dN_2, els_sl, els_dI, els_dL, List.length_map, Int.toNat_natCast, toInt_int, toInt_dB, toBool_bool, getD_c0, getD_c1, int_beq, int_bne, not_dec, dInt_dB, Int.toNat_zero]
def withD (s : List Int) (x n : Int) : List D := if 0 ≤ x ∧ x < s.length then [dI (s.set x.toNat n), .bool true] else [.sl [], .bool false]
theorem shape_With_sp (s : List Int) (x n : Int) (hs : s.length ≤ 1048576) : Sp 115 [dI s, .int x, .int n] (withD s x n) := by
  refine sound_ 0 (shape_With_tree _ _ _ _) ?_
  unfold withD
  simp only [dA_0, dA_1, dA_2, dC_0, dC_1, dC_2, dC_3, dC_4, dN_0, dN_1, dN_2, els_sl, els_dI, els_dL, List.length_map, Int.toNat_natCast, toInt_int, toInt_dB, toBool_bool, getD_c0, getD_c1, int_beq, int_bne, not_dec, dInt_dB, Int.toNat_zero]
  refine wp_decs (fun h1 => wp_ret (by rw [if_neg (by omega)])) (fun h1 => wp_decs (fun h2 => wp_ret (by rw [if_neg (by omega)])) (fun h2 => wp_call (clone_I_sp s hs) ?_))
  rw [if_pos ⟨by omega, by omega⟩]
  simp only [dA_0, dA_1, dA_2, dC_0, dC_1, dC_2, dC_3, dC_4, dN_0, dN_1, dN_2, els_sl, els_dI, els_dL, List.length_map, Int.toNat_natCast, toInt_int, toInt_dB, toBool_bool, getD_c0, getD_c1, int_beq, int_bne, not_dec, dInt_dB, Int.toNat_zero]
  refine wp_dec (by omega) (wp_dec (by omega) (wp_ret ?_))
  rw [← List.map_set]; rfl
def blkD (s : List Int) (cs : List Cell) (al : Bool) : D := .agg [dI s, .sl (cs.map dC), .bool al]
def pairD (x y : D) (k : Int) : D := .agg [x, y, .int k]
theorem join_widen1_sp (x : Arr) (p q : Int) (hx : x.shape = [p]) : Sp 114 [dA x, dI [q], .int 1, .int 0] [blkD [p] x.cells false, .bool true] := by
  refine sound_ 0 (join_widen_tree _ _ _ _ _) ?_
  simp only [dA_0, dA_1, dA_2, dC_0, dC_1, dC_2, dC_3, dC_4, dN_0, dN_1, dN_2, els_sl, els_dI, els_dL, List.length_map, Int.toNat_natCast, toInt_int, toInt_dB, toBool_bool, getD_c0, getD_c1, int_beq, int_bne, not_dec, dInt_dB, Int.toNat_zero, hx, List.map_cons, List.map_nil, List.length_cons, List.length_nil]
  refine wp_dec (by omega) (wp_dec (by omega) (wp_dec (by simp only [bigN]; omega) (wp_dec (by omega) (wp_dec (by simp [bigN]) (wp_ret ?_)))))
  rfl
theorem join_row_sp (s : List Int) (cs r : List Cell) (i n : Int) (h0 : 0 ≤ i) (h1 : 0 ≤ n) (h2 : i * n + n ≤ cs.length) (hc : cs.length ≤ 2048) (hr : r.length ≤ 1000000) : Sp 117 [blkD s cs false, .sl (r.map dC), .int i, .int n] [.sl ((r ++ (cs.take (i * n + n).toNat).drop (i * n).toNat).map dC)] := by
  refine sound_ 0 (join_block_row_tree _ _ _ _ _) ?_
  have h3 : 0 ≤ i * n := Int.mul_nonneg h0 h1
  simp only [blkD, fld_agg0, fld_agg1, fld_agg2, dA_0, dA_1, dA_2, dC_0, dC_1, dC_2, dC_3, dC_4, dN_0, dN_1, dN_2, els_sl, els_dI, els_dL, List.length_map, Int.toNat_natCast, toInt_int, toInt_dB, toBool_bool, getD_c0, getD_c1, int_beq, int_bne, not_dec, dInt_dB, Int.toNat_zero, wrap64 (x := i * n) (by omega) (by omega), wrap64 (x := i * n + n) (by omega) (by omega), ← List.map_take, ← List.map_drop]
  refine wp_tt rfl (wp_dec (by omega) (wp_dec (by omega) (wp_dec (by omega) (wp_dec ?_ (wp_ret ?_)))))
  · simp only [List.length_drop, List.length_take, bigN]; omega
  · rw [← List.map_append]
theorem join_merge1_sp (p q : Nat) (xs ys : List Cell) (hp : xs.length = p) (hq : ys.length = q) (hpq : p + q ≤ 2048) : Sp 79 [pairD (blkD [(p : Int)] xs false) (blkD [(q : Int)] ys false) 0, dI [((p + q : Nat) : Int)]] [.sl ((xs ++ ys).map dC)] := by
  refine sound_ 4 (join_pair_merge_tree _ _ _) ?_
  have hc : countS [((p + q : Nat) : Int)] = (((p + q : Nat) : Int), 0) := by
    have h := countS_cases1 (n := p + q) hpq
    exact h
  have ar := shape_Around_sp [((p + q : Nat) : Int)] 0
  have ea : aroundD [((p + q : Nat) : Int)] 0 = [.int 1, .int ((p + q : Nat) : Int), .int 1, .bool true] := by
    unfold aroundD
    rw [if_pos ⟨by rw [hc], by decide, by simp⟩]
    rfl
  rw [ea] at ar
  simp only [pairD, blkD, fld_agg0, fld_agg1, fld_agg2, toInt_int]
  refine wp_call ar ?_
  have w1 : IntKind.wrap .i64 ((p : Int) * 1) = (p : Int) := by rw [Int.mul_one]; exact wrap64 (by omega) (by omega)
  have w2 : IntKind.wrap .i64 ((q : Int) * 1) = (q : Int) := by rw [Int.mul_one]; exact wrap64 (by omega) (by omega)
  have w3 : IntKind.wrap .i64 ((p : Int) + (q : Int)) = ((p + q : Nat) : Int) := by rw [wrap64 (by omega) (by omega)]; rfl
  have w4 : IntKind.wrap .i64 (1 * ((p + q : Nat) : Int)) = ((p + q : Nat) : Int) := by rw [Int.one_mul]; exact wrap64 (by omega) (by omega)
  simp only [getD_c0, getD_c2, toInt_int, els_dI, List.map_cons, List.map_nil, List.length_cons, List.length_nil, Int.toNat_zero, w1, w2, w3, w4]
  refine wp_dec (by omega) (wp_dec (by omega) (wp_dec (by omega) (wp_dec (by omega) (wp_dec (by omega) (wp_dec (by omega) (wp_dec (by simp only [bigN]; omega) ?_))))))
  have r1 := join_row_sp [(p : Int)] xs [] 0 (p : Int) (by omega) (by omega) (by omega) (by omega) (by simp)
  have r2 := join_row_sp [(q : Int)] ys xs 0 (q : Int) (by omega) (by omega) (by omega) (by omega) (by omega)
  have e1 : ([] ++ (xs.take (0 * (p : Int) + (p : Int)).toNat).drop (0 * (p : Int)).toNat : List Cell) = xs := by
    rw [Int.zero_mul, Int.zero_add, Int.toNat_natCast, List.take_of_length_le (by omega)]; rfl
  have e2 : (xs ++ (ys.take (0 * (q : Int) + (q : Int)).toNat).drop (0 * (q : Int)).toNat : List Cell) = xs ++ ys := by
    rw [Int.zero_mul, Int.zero_add, Int.toNat_natCast, List.take_of_length_le (l := ys) (by omega)]; rfl
  rw [e1] at r1
  rw [e2] at r2
  rw [join_pair_merge_l5_succ]
  refine wp_dec (by decide) ?_
  simp only [fld_agg0, fld_agg1, pairD, blkD, List.replicate_zero, List.map_nil] at r1 r2 ⊢
  refine wp_call r1 (wp_call r2 ?_)
  rw [show IntKind.wrap .i64 (0 + 1) = 1 by decide, join_pair_merge_l5_succ]
  exact wp_ndec (by decide) (wp_ret rfl)
theorem join_whole1_sp (p q : Nat) (xs ys : List Cell) (hpq : p + q ≤ 2048) : Sp 77 [pairD (blkD [(p : Int)] xs false) (blkD [(q : Int)] ys false) 0] [dI [((p + q : Nat) : Int)], .int 0] := by
  refine sound_ 4 (join_pair_whole_tree _ _) ?_
  have w3 : IntKind.wrap .i64 ((p : Int) + (q : Int)) = ((p + q : Nat) : Int) := by rw [wrap64 (by omega) (by omega)]; rfl
  have hw := shape_With_sp [(p : Int)] 0 ((p + q : Nat) : Int) (by simp)
  have ew : withD [(p : Int)] 0 ((p + q : Nat) : Int) = [dI [((p + q : Nat) : Int)], .bool true] := by
    unfold withD
    rw [if_pos ⟨by decide, by simp⟩]
    rfl
  rw [ew] at hw
  simp only [pairD, blkD, fld_agg0, fld_agg1, fld_agg2]
  rw [join_pair_whole_l2_succ]
  simp only [pairD, blkD, fld_agg0, fld_agg1, fld_agg2, toInt_int, els_dI, List.map_cons, List.map_nil, List.length_cons, List.length_nil, Int.toNat_zero, getD_c0]
  refine wp_dec (by omega) (wp_dec (by omega) (wp_dec (by omega) (wp_ff rfl ?_)))
  rw [show IntKind.wrap .i64 (0 + 1) = 1 by decide, join_pair_whole_l2_succ]
  simp only [fld_agg0, fld_agg1, fld_agg2, toInt_int, els_dI, List.map_cons, List.map_nil, List.length_cons, List.length_nil, Int.toNat_zero, getD_c0, w3]
  refine wp_ndec (by omega) (wp_dec (by omega) (wp_dec (by omega) (wp_dec (by omega) (wp_dec (by omega) (wp_call hw (wp_call (shape_Count_sp _) ?_))))))
  rw [countS_cases1 hpq]
  exact wp_ff rfl (wp_ret rfl)
theorem join_Catenate1_sp (x y : Arr) (hx : x.shape = [(x.cells.length : Int)]) (hy : y.shape = [(y.cells.length : Int)]) (hxy : x.cells.length + y.cells.length ≤ 2048) : Sp 36 [dA x, dA y, .bool false] [dA (.mk (x.s ||| y.s) [((x.cells.length + y.cells.length : Nat) : Int)] (x.cells ++ y.cells)), .int 0] := by
  have hfit : Sp 76 [dA x, dA y, .bool false] [pairD (blkD [(x.cells.length : Int)] x.cells false) (blkD [(y.cells.length : Int)] y.cells false) 0, .int 0] := by
    refine sound_ 0 (join_fit_tree _ _ _ _) ?_
    simp only [dA_1, hx, hy, els_dI, List.map_cons, List.map_nil, List.length_cons, List.length_nil, toBool_bool]
    have e1 : (if (((0 + 1 : Nat) : Int)) < ((0 + 1 : Nat) : Int) then ((0 + 1 : Nat) : Int) else ((0 + 1 : Nat) : Int)) = 1 := by decide
    have e2 : (if (1 : Int) < 1 then (1 : Int) else 1) = 1 := by decide
    have e3 : IntKind.wrap .i64 (1 - 1) = 0 := by decide
    simp only [e1, e2, e3]
    refine wp_ff rfl (wp_call (join_widen1_sp x _ _ hx) (wp_ff rfl (wp_call (join_widen1_sp y _ _ hy) (wp_ff rfl (wp_ret rfl)))))
  refine sound_ 0 (join_Catenate_tree _ _ _ _) (wp_call hfit (wp_ff rfl (wp_call (join_whole1_sp _ _ _ _ hxy) (wp_ff rfl ?_))))
  simp only [dA_0, toInt_dB, dInt_dB, getD_c0]
  refine wp_call (label_Join_sp x.s y.s) (wp_call (join_merge1_sp _ _ _ _ rfl rfl hxy) (wp_ret ?_))
  simp only [getD_c0, toInt_dB, dInt_dB]
  rw [dA_eq]; rfl
end Go.Proofs.Ytcgfpibkajagjaa
set_option maxRecDepth 100000
namespace Go.Proofs.Ytcgfpibkajagjaa
/-! scrim/scrimref09.Alike -/
def ref09_Alike_orc : List (Nat × Orc) := [(6, ⟨[(2, none), (3, none), (4, none), (7, none)], [(3, true), (4, true)], []⟩)]
def ref09_Alike_ps : List Nat := [26, 26, 22]
def ref09_Alike_rs : List ResultVar := [.tmp 6]
def ref09_Alike_ts : List Nat := [4]
noncomputable def ref09_Alike_l6 (n m6 : Nat) (o2 : Int) (i7 : Int) (a3 : D) (b4 : D) : Tree :=
  evLoop Try.prog md (ev Try.prog md n ref09_Alike_orc (cAt (bodyOf Try.prog 27) [1, 1, 1, 0, 1, 0, 0])) (orcAt ref09_Alike_orc 6) m6 ⟨[.undef, .undef, .i .u64 o2, .ptr 3 [], .ptr 4 [], .undef, .undef, .i .i64 i7, .undef, .undef, .undef, .undef, .undef, .undef, .undef, .undef, .undef, .undef, .undef, .undef, .undef, .undef, .undef, .undef, .undef, .undef, .undef, .undef, .undef, .undef, .undef, .undef, .undef, .undef, .undef, .undef, .undef, .undef, .undef, .undef, .undef, .undef, .undef, .undef, .undef, .undef, .undef, .undef, .undef, .undef, .undef, .undef, .undef, .undef, .undef, .undef, .undef, .undef, .undef, .undef, .undef, .undef, .undef, .undef, .undef, .undef, .undef, .undef, .undef, .undef, .undef], [(3, .var 26 (.d 26 a3) true), (4, .var 26 (.d 26 b4) true)], [3, 4], [], []⟩
   (blockK 0 (seqK (joinE Try.prog md (joinAt ref09_Alike_orc (cAt (bodyOf Try.prog 27) [1, 1, 1, 1])) (ev Try.prog md n ref09_Alike_orc (cAt (bodyOf Try.prog 27) [1, 1, 1, 1]))) (retK Try.prog md (md 27) ref09_Alike_ps ref09_Alike_rs ref09_Alike_ts)))
theorem ref09_Alike_l6_succ (n m6 : Nat) (o2 : Int) (i7 : Int) (a3 : D) (b4 : D) : ref09_Alike_l6 n (m6 + 1) o2 i7 a3 b4 =
 .br (decide (i7 < (((a3.fld 2).els).length : Int))) (.br (decide (0 ≤ i7)) (.br (decide (i7 < (((a3.fld 2).els).length : Int))) (.br (decide (0 ≤ i7)) (.br (decide (i7 < (((b4.fld 2).els).length : Int))) (.call 64 [] [((a3.fld 2).els).getD (Int.toNat i7) D.nil, ((b4.fld 2).els).getD (Int.toNat i7) D.nil, D.int o2] fun yy8 =>
 .br (!((yy8.getD 0 D.nil).toBool)) (.ret [D.bool false])
 (ref09_Alike_l6 n m6 o2 (IntKind.wrap .i64 (i7 + 1)) a3 b4)) .fail) .fail) .fail) .fail)
 (.ret [D.bool true]) := by kernel_rfl
theorem ref09_Alike_tree (n : Nat) (a0 : D) (b1 : D) (o2 : D) : evFun Try.prog md ref09_Alike_orc n 27 [] [a0, b1, o2] =
 .call 63 [] [D.int ((a0.fld 0).toInt), D.int o2.toInt] fun yy1 =>
 .br (!((yy1.getD 0 D.nil).toBool)) (.call 63 [] [D.int ((a0.fld 0).toInt), D.int o2.toInt] fun yy2 =>
 .call 63 [] [D.int ((b1.fld 0).toInt), D.int o2.toInt] fun yy3 =>
 .ret [D.bool (((yy2.getD 0 D.nil).toBool) == ((yy3.getD 0 D.nil).toBool))])
 (.call 63 [] [D.int ((b1.fld 0).toInt), D.int o2.toInt] fun yy4 =>
 .br (!((yy4.getD 0 D.nil).toBool)) (.call 63 [] [D.int ((a0.fld 0).toInt), D.int o2.toInt] fun yy5 =>
 .call 63 [] [D.int ((b1.fld 0).toInt), D.int o2.toInt] fun yy6 =>
 .ret [D.bool (((yy5.getD 0 D.nil).toBool) == ((yy6.getD 0 D.nil).toBool))])
 (.br (((a0.fld 0).toInt) != ((b1.fld 0).toInt)) (.ret [D.bool false])
 (.call 47 [] [a0.fld 1, b1.fld 1] fun yy7 =>
 .br (!((yy7.getD 0 D.nil).toBool)) (.ret [D.bool false])
 (.br ((((a0.fld 2).els).length : Int) != (((b1.fld 2).els).length : Int)) (.ret [D.bool false])
 (ref09_Alike_l6 n n o2.toInt 0 a0 b1))))) := by kernel_rfl

/-! scrim/scrimref09.cells -/
def ref09_cells_orc : List (Nat × Orc) := [(6, ⟨[(2, none), (3, none), (4, none), (7, none)], [(3, true), (4, true)], []⟩)]
def ref09_cells_ps : List Nat := [52, 52, 22]
def ref09_cells_rs : List ResultVar := [.tmp 6]
def ref09_cells_ts : List Nat := [4]
noncomputable def ref09_cells_l6 (n m6 : Nat) (o2 : Int) (i7 : Int) (a3 : D) (b4 : D) : Tree :=
  evLoop Try.prog md (ev Try.prog md n ref09_cells_orc (cAt (bodyOf Try.prog 64) [1, 1, 1, 0, 1, 0, 0])) (orcAt ref09_cells_orc 6) m6 ⟨[.undef, .undef, .i .u64 o2, .ptr 3 [], .ptr 4 [], .undef, .undef, .i .i64 i7, .undef, .undef, .undef, .undef, .undef, .undef, .undef, .undef, .undef, .undef, .undef, .undef, .undef, .undef, .undef, .undef, .undef, .undef, .undef, .undef, .undef, .undef, .undef, .undef, .undef, .undef, .undef, .undef, .undef, .undef, .undef, .undef, .undef, .undef, .undef, .undef, .undef, .undef, .undef, .undef, .undef, .undef, .undef, .undef, .undef, .undef, .undef, .undef, .undef, .undef, .undef, .undef, .undef, .undef, .undef, .undef, .undef, .undef, .undef, .undef, .undef, .undef, .undef, .undef, .undef, .undef, .undef, .undef, .undef, .undef, .undef, .undef, .undef, .undef, .undef, .undef, .undef], [(3, .var 52 (.d 52 a3) true), (4, .var 52 (.d 52 b4) true)], [3, 4], [], []⟩
   (blockK 0 (seqK (joinE Try.prog md (joinAt ref09_cells_orc (cAt (bodyOf Try.prog 64) [1, 1, 1, 1])) (ev Try.prog md n ref09_cells_orc (cAt (bodyOf Try.prog 64) [1, 1, 1, 1]))) (retK Try.prog md (md 64) ref09_cells_ps ref09_cells_rs ref09_cells_ts)))
theorem ref09_cells_l6_succ (n m6 : Nat) (o2 : Int) (i7 : Int) (a3 : D) (b4 : D) : ref09_cells_l6 n (m6 + 1) o2 i7 a3 b4 =
 .br (decide (i7 < (((a3.fld 4).els).length : Int))) (.br (decide (0 ≤ i7)) (.br (decide (i7 < (((a3.fld 4).els).length : Int))) (.br (decide (0 ≤ i7)) (.br (decide (i7 < (((b4.fld 4).els).length : Int))) (.call 27 [] [((a3.fld 4).els).getD (Int.toNat i7) D.nil, ((b4.fld 4).els).getD (Int.toNat i7) D.nil, D.int o2] fun yy8 =>
 .br (!((yy8.getD 0 D.nil).toBool)) (.ret [D.bool false])
 (ref09_cells_l6 n m6 o2 (IntKind.wrap .i64 (i7 + 1)) a3 b4)) .fail) .fail) .fail) .fail)
 (.ret [D.bool true]) := by kernel_rfl
theorem ref09_cells_tree (n : Nat) (a0 : D) (b1 : D) (o2 : D) : evFun Try.prog md ref09_cells_orc n 64 [] [a0, b1, o2] =
 .call 63 [] [D.int ((a0.fld 0).toInt), D.int o2.toInt] fun yy1 =>
 .br (!((yy1.getD 0 D.nil).toBool)) (.call 63 [] [D.int ((a0.fld 0).toInt), D.int o2.toInt] fun yy2 =>
 .call 63 [] [D.int ((b1.fld 0).toInt), D.int o2.toInt] fun yy3 =>
 .ret [D.bool (((yy2.getD 0 D.nil).toBool) == ((yy3.getD 0 D.nil).toBool))])
 (.call 63 [] [D.int ((b1.fld 0).toInt), D.int o2.toInt] fun yy4 =>
 .br (!((yy4.getD 0 D.nil).toBool)) (.call 63 [] [D.int ((a0.fld 0).toInt), D.int o2.toInt] fun yy5 =>
 .call 63 [] [D.int ((b1.fld 0).toInt), D.int o2.toInt] fun yy6 =>
 .ret [D.bool (((yy5.getD 0 D.nil).toBool) == ((yy6.getD 0 D.nil).toBool))])
 (.br (((a0.fld 0).toInt) != ((b1.fld 0).toInt)) (.ret [D.bool false])
 (.br (((a0.fld 1).toInt) != ((b1.fld 1).toInt)) (.ret [D.bool false])
 (.br (((a0.fld 3).toInt) != ((b1.fld 3).toInt)) (.ret [D.bool false])
 (.call 88 [] [a0.fld 2, b1.fld 2] fun yy7 =>
 .br (!((yy7.getD 0 D.nil).toBool)) (.ret [D.bool false])
 (.br ((((a0.fld 4).els).length : Int) != (((b1.fld 4).els).length : Int)) (.ret [D.bool false])
 (ref09_cells_l6 n n o2.toInt 0 a0 b1))))))) := by kernel_rfl

end Go.Proofs.Ytcgfpibkajagjaa
set_option maxRecDepth 100000
namespace Go.Proofs.Ytcgfpibkajagjaa

def allL : Lab := BitVec.allOnes 64
def secA : Arr := .mk allL [] []
def secC : Cell := ⟨allL, 0, .zero, 0, []⟩
mutual
def hidA (o : Lab) : Arr → Arr
  | .mk s sh cs => if flows s o then .mk s sh (hidCs o cs) else secA
def hidCs (o : Lab) : List (CellF Arr) → List (CellF Arr)
  | [] => []
  | c :: cs => hidC o c :: hidCs o cs
def hidC (o : Lab) : CellF Arr → CellF Arr
  | ⟨l, k, n, c, inn⟩ => if flows l o then ⟨l, k, n, c, hidAs o inn⟩ else secC
def hidAs (o : Lab) : List Arr → List Arr
  | [] => []
  | a :: as_ => hidA o a :: hidAs o as_
end
theorem hidCs_map (o : Lab) : ∀ cs, hidCs o cs = cs.map (hidC o)
  | [] => by simp [hidCs]
  | c :: cs => by simp [hidCs, hidCs_map o cs]
theorem hidAs_map (o : Lab) : ∀ as_, hidAs o as_ = as_.map (hidA o)
  | [] => by simp [hidAs]
  | a :: as_ => by simp [hidAs, hidAs_map o as_]
theorem hidA_eq (o : Lab) (a : Arr) : hidA o a = if flows a.s o then .mk a.s a.shape (a.cells.map (hidC o)) else secA := by cases a; rw [hidA, hidCs_map]; rfl
theorem hidC_eq (o : Lab) (c : Cell) : hidC o c = if flows c.l o then ⟨c.l, c.kind, c.n, c.c, c.inn.map (hidA o)⟩ else secC := by cases c; simp [hidC, hidAs_map]
theorem flows_or {a b o : Lab} : flows (a ||| b) o = (flows a o && flows b o) := by
  rw [Bool.eq_iff_iff, Bool.and_eq_true, flows_iff, flows_iff, flows_iff]
  constructor
  · exact fun h => ⟨fun t ht => h t (by simp [ht]), fun t ht => h t (by simp [ht])⟩
  · rintro ⟨h1, h2⟩ t ht
    simp only [BitVec.getLsbD_or, Bool.or_eq_true] at ht
    exact ht.elim (h1 t) (h2 t)
theorem flows_self (a : Lab) : flows a a = true := flows_iff.2 fun _ h => h
theorem flows_zero (o : Lab) : flows 0 o = true := flows_iff.2 fun t h => by simp at h
theorem flows_trans {a b c : Lab} (h : flows a b = true) (k : flows b c = true) : flows a c = true := flows_iff.2 fun t ht => flows_iff.1 k t (flows_iff.1 h t ht)
theorem flows_all {o : Lab} (h : flows allL o = true) (a : Lab) : flows a o = true := by
  rw [flows_64] at h ⊢
  intro t ht _
  exact h t ht (by unfold allL; rw [BitVec.getLsbD_allOnes]; exact decide_eq_true ht)
theorem hid_vis {o : Lab} {a : Arr} (h : flows a.s o = true) : hidA o a = .mk a.s a.shape (a.cells.map (hidC o)) := by rw [hidA_eq, if_pos h]
theorem hid_hid {o : Lab} {a : Arr} (h : flows a.s o = false) : hidA o a = secA := by rw [hidA_eq, if_neg (by simp [h])]
theorem hidC_vis {o : Lab} {c : Cell} (h : flows c.l o = true) : hidC o c = ⟨c.l, c.kind, c.n, c.c, c.inn.map (hidA o)⟩ := by rw [hidC_eq, if_pos h]
theorem hidC_hid {o : Lab} {c : Cell} (h : flows c.l o = false) : hidC o c = secC := by rw [hidC_eq, if_neg (by simp [h])]
/-- Two that are alike. -/
theorem alike_cases {o : Lab} {a b : Arr} (h : hidA o a = hidA o b) : (flows a.s o = false ∧ flows b.s o = false) ∨ (flows a.s o = true ∧ flows b.s o = true ∧ a.s = b.s ∧ a.shape = b.shape ∧ a.cells.map (hidC o) = b.cells.map (hidC o)) := by
  cases ha : flows a.s o <;> cases hb : flows b.s o
  · exact .inl ⟨rfl, rfl⟩
  · rw [hid_hid ha, hid_vis hb] at h
    have : allL = b.s := congrArg Arr.s h
    rw [← this] at hb
    rw [flows_all hb] at ha; cases ha
  · rw [hid_vis ha, hid_hid hb] at h
    have : a.s = allL := congrArg Arr.s h
    rw [this] at ha
    rw [flows_all ha] at hb; cases hb
  · rw [hid_vis ha, hid_vis hb, arr_eq] at h
    exact .inr ⟨rfl, rfl, h.1, h.2.1, h.2.2⟩
theorem alikeC_cases {o : Lab} {a b : Cell} (h : hidC o a = hidC o b) : (flows a.l o = false ∧ flows b.l o = false) ∨ (flows a.l o = true ∧ flows b.l o = true ∧ a.l = b.l ∧ a.kind = b.kind ∧ a.c = b.c ∧ a.n = b.n ∧ a.inn.map (hidA o) = b.inn.map (hidA o)) := by
  cases ha : flows a.l o <;> cases hb : flows b.l o
  · exact .inl ⟨rfl, rfl⟩
  · rw [hidC_hid ha, hidC_vis hb] at h
    have : allL = b.l := congrArg CellF.l h
    rw [← this] at hb
    rw [flows_all hb] at ha; cases ha
  · rw [hidC_vis ha, hidC_hid hb] at h
    have : a.l = allL := congrArg CellF.l h
    rw [this] at ha
    rw [flows_all ha] at hb; cases hb
  · rw [hidC_vis ha, hidC_vis hb, cell_eq] at h
    exact .inr ⟨rfl, rfl, h⟩
theorem alike_hid {o : Lab} {a b : Arr} (ha : flows a.s o = false) (hb : flows b.s o = false) : hidA o a = hidA o b := by rw [hid_hid ha, hid_hid hb]
theorem alike_vis {o : Lab} {a b : Arr} (h1 : a.s = b.s) (h2 : a.shape = b.shape) (h3 : a.cells.map (hidC o) = b.cells.map (hidC o)) : hidA o a = hidA o b := by rw [hidA_eq, hidA_eq, h1, h2, h3]
theorem alikeC_hid {o : Lab} {a b : Cell} (ha : flows a.l o = false) (hb : flows b.l o = false) : hidC o a = hidC o b := by rw [hidC_hid ha, hidC_hid hb]
theorem alikeC_vis {o : Lab} {a b : Cell} (h1 : a.l = b.l) (h2 : a.kind = b.kind) (h3 : a.c = b.c) (h4 : a.n = b.n) (h5 : a.inn.map (hidA o) = b.inn.map (hidA o)) : hidC o a = hidC o b := by rw [hidC_eq, hidC_eq, h1, h2, h3, h4, h5]
noncomputable def alk (o : Lab) (a b : Arr) : Bool := eqA (hidA o a) (hidA o b)
noncomputable def alkC (o : Lab) (a b : Cell) : Bool := eqC (hidC o a) (hidC o b)
theorem alk_iff {o : Lab} {a b : Arr} : alk o a b = true ↔ hidA o a = hidA o b := eqA_iff
theorem alkC_iff {o : Lab} {a b : Cell} : alkC o a b = true ↔ hidC o a = hidC o b := eqC_iff
theorem alk_any {o : Lab} {a b : Arr} (h : ¬ (flows a.s o = true ∧ flows b.s o = true)) : alk o a b = (flows a.s o == flows b.s o) := by
  rw [Bool.eq_iff_iff, alk_iff, beq_iff_eq]
  constructor
  · intro hh
    rcases alike_cases hh with ⟨h1, h2⟩ | ⟨h1, h2, _⟩
    · rw [h1, h2]
    · exact absurd ⟨h1, h2⟩ h
  · intro hh
    cases ha : flows a.s o with
    | true => exact absurd ⟨ha, hh.symm.trans ha⟩ h
    | false => exact alike_hid ha (hh.symm.trans ha)
theorem alkC_any {o : Lab} {a b : Cell} (h : ¬ (flows a.l o = true ∧ flows b.l o = true)) : alkC o a b = (flows a.l o == flows b.l o) := by
  rw [Bool.eq_iff_iff, alkC_iff, beq_iff_eq]
  constructor
  · intro hh
    rcases alikeC_cases hh with ⟨h1, h2⟩ | ⟨h1, h2, _⟩
    · rw [h1, h2]
    · exact absurd ⟨h1, h2⟩ h
  · intro hh
    cases ha : flows a.l o with
    | true => exact absurd ⟨ha, hh.symm.trans ha⟩ h
    | false => exact alikeC_hid ha (hh.symm.trans ha)
theorem alk_both {o : Lab} {a b : Arr} (ha : flows a.s o = true) : alk o a b = true ↔ (a.s = b.s ∧ a.shape = b.shape ∧ a.cells.map (hidC o) = b.cells.map (hidC o)) := by
  rw [alk_iff]
  constructor
  · intro hh
    rcases alike_cases hh with ⟨h1, h2⟩ | ⟨_, _, h⟩
    · rw [ha] at h1; cases h1
    · exact h
  · exact fun h => alike_vis h.1 h.2.1 h.2.2
theorem alkC_both {o : Lab} {a b : Cell} (ha : flows a.l o = true) : alkC o a b = true ↔ (a.l = b.l ∧ a.kind = b.kind ∧ a.c = b.c ∧ a.n = b.n ∧ a.inn.map (hidA o) = b.inn.map (hidA o)) := by
  rw [alkC_iff]
  constructor
  · intro hh
    rcases alikeC_cases hh with ⟨h1, h2⟩ | ⟨_, _, h⟩
    · rw [ha] at h1; cases h1
    · exact h
  · exact fun h => alikeC_vis h.1 h.2.1 h.2.2.1 h.2.2.2.1 h.2.2.2.2
theorem ref09_Alike_sp (o : Lab) : ∀ (d : Nat) (a b : Arr), Sml d a → Sp 27 [dA a, dA b, dB o] [.bool (alk o a b)]
  | 0, _, _, h => h.elim
  | d + 1, a, b, h => by
    have hcell : ∀ (x y : Cell), SmlC d x → Sp 64 [dC x, dC y, dB o] [.bool (alkC o x y)] := fun x y hx => by
      have hlx := hx.2.2.1
      refine sound_ (x.inn.length + 1) (ref09_cells_tree _ _ _ _) ?_
      simp only [dA_0, dA_1, dA_2, dC_0, dC_1, dC_2, dC_3, dC_4, dN_0, dN_1, dN_2, els_sl, els_dI, els_dL, List.length_map, Int.toNat_natCast, toInt_int, toInt_dB, toBool_bool, getD_c0, getD_c1, int_beq, int_bne, not_dec, dInt_dB, Int.toNat_zero]
      refine wp_call (ref01_Flows_sp x.l o) (wp_br (fun h1 => ?_) (fun h1 => wp_call (ref01_Flows_sp y.l o) (wp_br (fun h2 => ?_) (fun h2 => ?_))))
      · have h1' : flows x.l o = false := by simpa using h1
        refine wp_call (ref01_Flows_sp x.l o) (wp_call (ref01_Flows_sp y.l o) (wp_ret ?_))
        rw [alkC_any (by rw [h1']; simp)]; rfl
      · have h2' : flows y.l o = false := by simpa using h2
        refine wp_call (ref01_Flows_sp x.l o) (wp_call (ref01_Flows_sp y.l o) (wp_ret ?_))
        rw [alkC_any (by rw [h2']; simp)]; rfl
      have h1' : flows x.l o = true := by simpa using h1
      have hb := alkC_both (b := y) h1'
      refine wp_decs (fun h => wp_ret ?_) (fun h3 => wp_decs (fun h => wp_ret ?_) (fun h4 => wp_decs (fun h => wp_ret ?_) (fun h5 => wp_call (ref04_Same_sp x.n y.n hx.fits.1 hx.fits.2.1) ?_)))
      · rw [bool_false (b := alkC o x y) (fun hh => h (by rw [(hb.1 hh).1]))]
      · rw [bool_false (b := alkC o x y) (fun hh => h (hb.1 hh).2.1)]
      · rw [bool_false (b := alkC o x y) (fun hh => h (hb.1 hh).2.2.1)]
      simp only [getD_c0, toBool_bool, not_dec]
      refine wp_decs (fun h => wp_ret ?_) (fun h6 => wp_decs (fun h => wp_ret ?_) (fun h7 => ?_))
      · rw [bool_false (b := alkC o x y) (fun hh => h (hb.1 hh).2.2.2.1)]
      · rw [bool_false (b := alkC o x y) (fun hh => h (by have := congrArg List.length (hb.1 hh).2.2.2.2; simp at this; omega))]
      refine same_loopF (P := Try.prog) (md := md) (hidA o) x.inn y.inn (alk o) (fun p _ q => alk_iff) (by omega) (alkC o x y) ?_ (fun m k => ref09_cells_l6 (x.inn.length + 1) m (o.toNat : Int) (k : Int) (dC x) (dC y)) ?_ ?_ (x.inn.length + 1) (by omega)
      · rw [hb]
        exact ⟨fun hh => hh.2.2.2.2, fun hh => ⟨BitVec.eq_of_toNat_eq (by omega), Classical.not_not.1 h4, Classical.not_not.1 h5, Classical.not_not.1 h6, hh⟩⟩
      · intro m Q hQ
        simp only [ref09_cells_l6_succ, dA_0, dA_1, dA_2, dC_0, dC_1, dC_2, dC_3, dC_4, dN_0, dN_1, dN_2, els_sl, els_dI, els_dL, List.length_map, Int.toNat_natCast, toInt_int, toInt_dB, toBool_bool, getD_c0, getD_c1, int_beq, int_bne, not_dec, dInt_dB, Int.toNat_zero]
        exact wp_ndec (by omega) (wp_ret hQ)
      · intro m k p q Q hp hq hF hT
        have hk : k < x.inn.length := (List.getElem?_eq_some_iff.1 hp).1
        simp only [ref09_cells_l6_succ, dA_0, dA_1, dA_2, dC_0, dC_1, dC_2, dC_3, dC_4, dN_0, dN_1, dN_2, els_sl, els_dI, els_dL, List.length_map, Int.toNat_natCast, toInt_int, toInt_dB, toBool_bool, getD_c0, getD_c1, int_beq, int_bne, not_dec, dInt_dB, Int.toNat_zero, getD_map hp, getD_map hq, wrap_succ (show k < 9223372036854775807 by omega)]
        repeat (refine wp_dec (by omega) ?_)
        refine wp_call (ref09_Alike_sp o d p q (hx.2.2.2 p (List.mem_of_getElem? hp))) ?_
        simp only [getD_c0, toBool_bool]
        exact wp_br (fun h => wp_ret (hF (by simpa using h))) (fun h => hT (by simpa using h))
    have hla := h.2.1
    refine sound_ (a.cells.length + 1) (ref09_Alike_tree _ _ _ _) ?_
    simp only [dA_0, dA_1, dA_2, dC_0, dC_1, dC_2, dC_3, dC_4, dN_0, dN_1, dN_2, els_sl, els_dI, els_dL, List.length_map, Int.toNat_natCast, toInt_int, toInt_dB, toBool_bool, getD_c0, getD_c1, int_beq, int_bne, not_dec, dInt_dB, Int.toNat_zero]
    refine wp_call (ref01_Flows_sp a.s o) (wp_br (fun h1 => ?_) (fun h1 => wp_call (ref01_Flows_sp b.s o) (wp_br (fun h2 => ?_) (fun h2 => ?_))))
    · have h1' : flows a.s o = false := by simpa using h1
      refine wp_call (ref01_Flows_sp a.s o) (wp_call (ref01_Flows_sp b.s o) (wp_ret ?_))
      rw [alk_any (by rw [h1']; simp)]; rfl
    · have h2' : flows b.s o = false := by simpa using h2
      refine wp_call (ref01_Flows_sp a.s o) (wp_call (ref01_Flows_sp b.s o) (wp_ret ?_))
      rw [alk_any (by rw [h2']; simp)]; rfl
    have h1' : flows a.s o = true := by simpa using h1
    have hb := alk_both (b := b) h1'
    refine wp_decs (fun h => wp_ret ?_) (fun h3 => wp_call (ref07_Ints_sp a.shape b.shape (by have := h.1; omega)) ?_)
    · rw [bool_false (b := alk o a b) (fun hh => h (by rw [(hb.1 hh).1]))]
    simp only [getD_c0, toBool_bool, not_dec]
    refine wp_decs (fun h => wp_ret ?_) (fun h4 => wp_decs (fun h => wp_ret ?_) (fun h5 => ?_))
    · rw [bool_false (b := alk o a b) (fun hh => h (hb.1 hh).2.1)]
    · rw [bool_false (b := alk o a b) (fun hh => h (by have := congrArg List.length (hb.1 hh).2.2; simp at this; omega))]
    refine same_loopF (P := Try.prog) (md := md) (hidC o) a.cells b.cells (alkC o) (fun p _ q => alkC_iff) (by omega) (alk o a b) ?_ (fun m k => ref09_Alike_l6 (a.cells.length + 1) m (o.toNat : Int) (k : Int) (dA a) (dA b)) ?_ ?_ (a.cells.length + 1) (by omega)
    · rw [hb]
      exact ⟨fun hh => hh.2.2, fun hh => ⟨BitVec.eq_of_toNat_eq (by omega), Classical.not_not.1 h4, hh⟩⟩
    · intro m Q hQ
      simp only [ref09_Alike_l6_succ, dA_0, dA_1, dA_2, dC_0, dC_1, dC_2, dC_3, dC_4, dN_0, dN_1, dN_2, els_sl, els_dI, els_dL, List.length_map, Int.toNat_natCast, toInt_int, toInt_dB, toBool_bool, getD_c0, getD_c1, int_beq, int_bne, not_dec, dInt_dB, Int.toNat_zero]
      exact wp_ndec (by omega) (wp_ret hQ)
    · intro m k p q Q hp hq hF hT
      have hk : k < a.cells.length := (List.getElem?_eq_some_iff.1 hp).1
      simp only [ref09_Alike_l6_succ, dA_0, dA_1, dA_2, dC_0, dC_1, dC_2, dC_3, dC_4, dN_0, dN_1, dN_2, els_sl, els_dI, els_dL, List.length_map, Int.toNat_natCast, toInt_int, toInt_dB, toBool_bool, getD_c0, getD_c1, int_beq, int_bne, not_dec, dInt_dB, Int.toNat_zero, getD_map hp, getD_map hq, wrap_succ (show k < 9223372036854775807 by omega)]
      repeat (refine wp_dec (by omega) ?_)
      refine wp_call (hcell p q (h.cell p (List.mem_of_getElem? hp))) ?_
      simp only [getD_c0, toBool_bool]
      exact wp_br (fun h => wp_ret (hF (by simpa using h))) (fun h => hT (by simpa using h))
/-- All labels joined. -/
theorem totAs_or (as_ : List Arr) (x y : Lab) : as_.foldl (fun l a => l ||| totA a) (x ||| y) = x ||| as_.foldl (fun l a => l ||| totA a) y := by
  induction as_ generalizing y with
  | nil => rfl
  | cons a as_ ih => simp only [List.foldl_cons]; rw [BitVec.or_assoc, ih]
theorem totC_or (x y : Lab) (c : Cell) : totC (x ||| y) c = x ||| totC y c := by rw [totC_eq, totC_eq, BitVec.or_assoc, totAs_or]
theorem totCs_or (cs : List Cell) (x y : Lab) : cs.foldl totC (x ||| y) = x ||| cs.foldl totC y := by
  induction cs generalizing y with
  | nil => rfl
  | cons c cs ih => simp only [List.foldl_cons]; rw [totC_or, ih]
theorem totA_raise (a : Arr) (l : Lab) : totA (raiseA a l) = l ||| totA a := by rw [totA_eq, totA_eq]; show a.cells.foldl totC (a.s ||| l) = _; rw [BitVec.or_comm, totCs_or]
theorem flows_foldA {o : Lab} : ∀ {as_ : List Arr} {x : Lab}, flows (as_.foldl (fun l a => l ||| totA a) x) o = true ↔ (flows x o = true ∧ ∀ a ∈ as_, flows (totA a) o = true)
  | [], x => by simp
  | a :: as_, x => by
    simp only [List.foldl_cons]
    rw [flows_foldA, flows_or, Bool.and_eq_true]
    simp only [List.mem_cons, forall_eq_or_imp]
    exact and_assoc
theorem flows_totC {o x : Lab} {c : Cell} : flows (totC x c) o = true ↔ (flows x o = true ∧ flows c.l o = true ∧ ∀ a ∈ c.inn, flows (totA a) o = true) := by
  rw [totC_eq, flows_foldA, flows_or, Bool.and_eq_true]; exact and_assoc
theorem flows_foldC {o : Lab} : ∀ {cs : List Cell} {x : Lab}, flows (cs.foldl totC x) o = true ↔ (flows x o = true ∧ ∀ c ∈ cs, flows c.l o = true ∧ ∀ a ∈ c.inn, flows (totA a) o = true)
  | [], x => by simp
  | c :: cs, x => by
    simp only [List.foldl_cons]
    rw [flows_foldC, flows_totC]
    simp only [List.mem_cons, forall_eq_or_imp]
    exact ⟨fun h => ⟨h.1.1, h.1.2, h.2⟩, fun h => ⟨⟨h.1, h.2.1⟩, h.2.2⟩⟩
theorem flows_totA {o : Lab} {a : Arr} : flows (totA a) o = true ↔ (flows a.s o = true ∧ ∀ c ∈ a.cells, flows c.l o = true ∧ ∀ x ∈ c.inn, flows (totA x) o = true) := by rw [totA_eq, flows_foldC]
/-- Where all is seen, nothing is hidden. -/
theorem hid_total {o : Lab} {a : Arr} : flows (totA a) o = true → hidA o a = a := by
  induction a using Arr.ind with
  | h s sh cs IH =>
    intro h
    obtain ⟨h1, h2⟩ := flows_totA.1 h
    rw [hid_vis h1]
    have : cs.map (hidC o) = cs := by
      conv => rhs; rw [← List.map_id cs]
      refine List.map_congr_left (fun c hc => ?_)
      obtain ⟨g1, g2⟩ := h2 c hc
      rw [hidC_vis g1]
      have : c.inn.map (hidA o) = c.inn := by
        conv => rhs; rw [← List.map_id c.inn]
        exact List.map_congr_left (fun x hx => IH c hc x hx (g2 x hx))
      rw [this]; rfl
    show Arr.mk s sh (cs.map (hidC o)) = _
    rw [this]
theorem total_hid {o : Lab} {a : Arr} : flows (totA (hidA o a)) o = true → hidA o a = a := by
  induction a using Arr.ind with
  | h s sh cs IH =>
    intro h
    cases hs : flows (Arr.mk s sh cs).s o with
    | false =>
      rw [hid_hid hs] at h
      have := flows_all (flows_totA.1 h).1 (Arr.mk s sh cs).s
      rw [hs] at this; cases this
    | true =>
      rw [hid_vis hs] at h ⊢
      obtain ⟨_, h2⟩ := flows_totA.1 h
      have : cs.map (hidC o) = cs := by
        conv => rhs; rw [← List.map_id cs]
        refine List.map_congr_left (fun c hc => ?_)
        obtain ⟨g1, g2⟩ := h2 (hidC o c) (List.mem_map.2 ⟨c, hc, rfl⟩)
        cases hl : flows c.l o with
        | false =>
          rw [hidC_hid hl] at g1
          have := flows_all g1 c.l
          rw [hl] at this; cases this
        | true =>
          rw [hidC_vis hl] at g2 ⊢
          have : c.inn.map (hidA o) = c.inn := by
            conv => rhs; rw [← List.map_id c.inn]
            exact List.map_congr_left (fun x hx => IH c hc x hx (g2 (hidA o x) (List.mem_map.2 ⟨x, hx, rfl⟩)))
          rw [this]; rfl
      show Arr.mk s sh (cs.map (hidC o)) = _
      rw [this]
/-- Alike, and all seen: the same. -/
theorem alike_total {o : Lab} {a b : Arr} (h : hidA o a = hidA o b) (ht : flows (totA a) o = true) : a = b := by
  have h1 := hid_total ht
  rw [h1] at h
  rw [h] at ht
  rw [h]; exact total_hid ht
theorem alike_totals {o : Lab} {a b : Arr} (h : hidA o a = hidA o b) : a = b ∨ (flows (totA a) o = false ∧ flows (totA b) o = false) := by
  cases ha : flows (totA a) o with
  | true => exact .inl (alike_total h ha)
  | false =>
    cases hb : flows (totA b) o with
    | true => exact .inl (alike_total h.symm hb).symm
    | false => exact .inr ⟨rfl, rfl⟩
theorem raise_alike {o l : Lab} {a b : Arr} (h : hidA o a = hidA o b) : hidA o (raiseA a l) = hidA o (raiseA b l) := by
  rcases alike_cases h with ⟨h1, h2⟩ | ⟨h1, h2, h3, h4, h5⟩
  · exact alike_hid (by show flows (a.s ||| l) o = false; rw [flows_or, h1]; rfl) (by show flows (b.s ||| l) o = false; rw [flows_or, h2]; rfl)
  · exact alike_vis (by show a.s ||| l = b.s ||| l; rw [h3]) h4 h5
theorem raise_hid {o l : Lab} {a b : Arr} {m : Lab} (h1 : flows l o = false) (h2 : flows m o = false) : hidA o (raiseA a l) = hidA o (raiseA b m) :=
  alike_hid (by show flows (a.s ||| l) o = false; rw [flows_or, h1, Bool.and_false]) (by show flows (b.s ||| m) o = false; rw [flows_or, h2, Bool.and_false])
theorem unpC_alike {o : Lab} {c d : Cell} (h : hidC o c = hidC o d) : hidA o (unpC c) = hidA o (unpC d) := by
  rcases alikeC_cases h with ⟨h1, h2⟩ | ⟨h1, h2, h3, h4, h5, h6, h7⟩
  · have hu : ∀ x : Cell, flows x.l o = false → flows (unpC x).s o = false := fun x hx => by
      unfold unpC
      split
      · split
        · show flows (_ ||| x.l) o = false; rw [flows_or, hx, Bool.and_false]
        · exact hx
      · exact hx
    exact alike_hid (hu c h1) (hu d h2)
  · have hl : c.inn.length = d.inn.length := by have := congrArg List.length h7; simpa using this
    by_cases hb : c.kind = 2 ∧ c.inn.length = 1
    · obtain ⟨x, hx⟩ := len_one hb.2
      obtain ⟨y, hy⟩ := len_one (hl ▸ hb.2)
      rw [unpC_pos hb.1 hx, unpC_pos (h4 ▸ hb.1) hy, h3]
      rw [hx, hy] at h7
      exact raise_alike (by simpa using h7)
    · rw [unpC_neg hb, unpC_neg (by rw [← h4, ← hl]; exact hb)]
      exact alike_vis h3 rfl (by simpa using h)
end Go.Proofs.Ytcgfpibkajagjaa
set_option maxRecDepth 100000
namespace Go.Proofs.Ytcgfpibkajagjaa

theorem intsCs_vec : ∀ {l : List Int}, (∀ x ∈ l, inR x) → intsCs (l.map intC) = some l
  | [], _ => rfl
  | x :: xs, h => by
    simp only [List.map_cons, intsCs]
    rw [if_pos (show (intC x).kind = 0 from rfl), show (intC x).n = ofZ x from rfl, smallN_ofZ (h x (by simp)), intsCs_vec (fun y hy => h y (by simp [hy]))]
    rfl
theorem totA_vec (l : List Int) (s : Lab) : totA (vecA l s) = s := by
  rw [totA_eq]
  unfold vecA
  simp only [Arr.cells_mk, Arr.s_mk]
  induction l with
  | nil => rfl
  | cons x xs ih =>
    rw [List.map_cons, List.foldl_cons, totC_eq]
    have e0 : s ||| (0 : Lab) = s := by simp
    rw [show (intC x).inn = [] from rfl, show (intC x).l = 0 from rfl, e0, List.foldl_nil]
    exact ih
theorem reshA_fits {n a : Arr} (ha : Fits a) : Fits (reshA n a).1 := by
  unfold reshA
  split
  · split
    · rename_i h1 h2
      have h3 := countS_len h2
      have h4 := countS_le (intsA n).1
      refine Fits.of (by omega) (by rw [cyc_len]; omega) (fun x hx => inR_small (by have := h3.2 x hx; omega) (by have := h3.2 x hx; omega)) (fun c hc => ?_)
      rcases cyc_mem hc with h | rfl
      · exact ha.cell c h
      · exact fitsC_int inR0
    · exact fits_none
  · exact fits_none
theorem reshA_right {n a : Arr} {d : Nat} (ha : ∀ c ∈ a.cells, rightC d c = true) (h : (reshA n a).2 = 0) : rightA d (reshA n a).1 = true := by
  unfold reshA at h ⊢
  split at h
  · rename_i h1
    rw [if_pos h1]
    split at h
    · rename_i h2
      rw [if_pos h2]
      have h4 := countS_le (intsA n).1
      refine rightA_of ?_ ?_
      · simp only [Arr.shape_mk, Arr.cells_mk, cyc_len]
        exact Prod.ext (by simp only; omega) h2
      · intro c hc
        rcases cyc_mem hc with h | rfl
        · exact ha c h
        · exact rightC_int d inR0
    · rename_i h2; exact absurd h h2
  · rename_i h1; exact absurd h h1
theorem aw_in (l : List Int) (h : l.all (fun x => decide (-100000 ≤ x ∧ x ≤ 100000)) = true) : ∀ x ∈ l, inR x := fun x hx => by
  have := of_decide_eq_true (List.all_eq_true.1 h x hx)
  exact inR_small this.1 this.2
end Go.Proofs.Ytcgfpibkajagjaa
set_option maxRecDepth 100000
namespace Go.Proofs.Ytcgfpibkajagjaa

theorem countS_nil : countS [] = (1, 0) := by decide
theorem prodS_one {n : Nat} (h : n ≤ 2048) : prodS [(n : Int)] 1 = (n : Int) := by
  simp only [prodS]; rw [if_neg (by omega)]; omega
theorem countS_one {n : Nat} (h : n ≤ 2048) : countS [(n : Int)] = ((n : Int), 0) := by
  unfold countS
  rw [prodS_one h]
  simp only [List.length_cons, List.length_nil, List.any_cons, List.any_nil, Bool.or_false]
  by_cases h0 : n = 0
  · subst h0; rfl
  · rw [if_neg (by omega), if_neg (by simp), if_neg (by simp; omega), if_neg (by simp; omega), if_neg (by omega)]
theorem cellR_kind {c : Cell} (h : ¬ c.kind = 2) (k k' : Bool) (r r' : Arr → Bool) : cellR k r c = cellR k' r' c := by
  unfold cellR
  split
  · rfl
  split
  · rfl
  · rw [decide_eq_false (fun hh => h hh.1)]; rfl
theorem rightC_kind {c : Cell} (h : ¬ c.kind = 2) {d e : Nat} (hc : rightC d c = true) : rightC e c = true := by
  have : rightC e c = rightC d c := by cases d <;> cases e <;> exact cellR_kind h _ _ _ _
  rw [this]; exact hc
theorem rightC_box {d : Nat} {x : Arr} {l : Lab} (hs : simpleA x = false) (hr : rightA d x = true) : rightC (d + 1) ⟨l, 2, .zero, 0, [x]⟩ = true := by
  show cellR true (rightA d) _ = true
  unfold cellR boxOK
  simp [hs, hr]
/-- Cells that are boxes. -/
theorem rightC_two {d : Nat} {c : Cell} (hk : c.kind = 2) (h : rightC d c = true) : ∃ e x, d = e + 1 ∧ c = ⟨c.l, 2, .zero, 0, [x]⟩ ∧ simpleA x = false ∧ rightA e x = true := by
  have key : ∀ k r, cellR k r c = true → k = true ∧ ∃ x, c.inn = [x] ∧ simpleA x = false ∧ r x = true ∧ c.n = .zero ∧ c.c = 0 := by
    intro k r hh
    unfold cellR at hh
    rw [if_neg (by omega), if_neg (by omega)] at hh
    simp only [Bool.and_eq_true, decide_eq_true_eq] at hh
    obtain ⟨h1, h2, h3⟩ := hh
    unfold boxOK at h3
    split at h3
    · rename_i x hx
      simp only [Bool.and_eq_true, Bool.not_eq_true'] at h3
      exact ⟨h2, x, hx, h3.1, h3.2, h1.2.1, h1.2.2⟩
    · cases h3
  cases d with
  | zero => exact absurd (key _ _ h).1 (by simp)
  | succ d =>
    obtain ⟨_, x, h1, h2, h3, h4, h5⟩ := key _ _ h
    refine ⟨d, x, rfl, ?_, h2, h3⟩
    cases c; simp only at hk h1 h4 h5; subst hk; subst h1; subst h4; subst h5; rfl
theorem rightA_up : ∀ {d : Nat} {a : Arr}, rightA d a = true → rightA (d + 1) a = true := by
  intro d
  induction d with
  | zero =>
    intro a h
    obtain ⟨h1, h2⟩ := rightA_cells h
    refine rightA_of h1 (fun c hc => ?_)
    by_cases hk : c.kind = 2
    · obtain ⟨e, x, he, _⟩ := rightC_two hk (h2 c hc); omega
    · exact rightC_kind hk (h2 c hc)
  | succ d ih =>
    intro a h
    obtain ⟨h1, h2⟩ := rightA_cells h
    refine rightA_of h1 (fun c hc => ?_)
    by_cases hk : c.kind = 2
    · obtain ⟨e, x, he, hx, hs, hr⟩ := rightC_two hk (h2 c hc)
      have : e = d := by omega
      subst this
      rw [hx]; exact rightC_box hs (ih hr)
    · exact rightC_kind hk (h2 c hc)
theorem simple_dep {a : Arr} (h : depA a = 0) : simpleA a = true := by
  rw [depA_eq] at h
  split at h
  · assumption
  · omega
/-- An array that is not so deep is right with fewer boxes. -/
theorem rightA_down : ∀ {d n : Nat} {a : Arr}, rightA n a = true → depA a ≤ d + 1 → simpleA a = false → rightA d a = true := by
  intro d
  induction d with
  | zero =>
    intro n a h hd hs
    obtain ⟨h1, h2⟩ := rightA_cells h
    refine rightA_of h1 (fun c hc => ?_)
    by_cases hk : c.kind = 2
    · obtain ⟨e, x, he, hx, hsx, hr⟩ := rightC_two hk (h2 c hc)
      rw [depA_eq, if_neg (by simp [hs])] at hd
      have h3 := depC_mem hc
      rw [depC_eq] at h3
      have h4 : depA x ≤ depAs c.inn := depA_mem (by rw [hx]; simp)
      have := simple_dep (show depA x = 0 by omega)
      rw [hsx] at this; cases this
    · exact rightC_kind hk (h2 c hc)
  | succ d ih =>
    intro n a h hd hs
    obtain ⟨h1, h2⟩ := rightA_cells h
    refine rightA_of h1 (fun c hc => ?_)
    by_cases hk : c.kind = 2
    · obtain ⟨e, x, he, hx, hsx, hr⟩ := rightC_two hk (h2 c hc)
      rw [depA_eq, if_neg (by simp [hs])] at hd
      have h3 := depC_mem hc
      rw [depC_eq] at h3
      have h4 : depA x ≤ depAs c.inn := depA_mem (by rw [hx]; simp)
      rw [hx]; exact rightC_box hsx (ih hr (by omega) hsx)
    · exact rightC_kind hk (h2 c hc)
theorem enclA_right {a : Arr} (h : rightA 8 a = true) (h0 : (enclA a).2 = 0) : rightA 8 (enclA a).1 = true := by
  unfold enclA at h0 ⊢
  split
  · exact h
  · rename_i hs
    rw [if_neg hs] at h0
    split
    · rename_i h8; rw [if_pos h8] at h0; cases h0
    · rename_i h8
      refine rightA_of countS_nil (fun c hc => ?_)
      have : c = ⟨boxL a, 2, .zero, 0, [a]⟩ := by simpa [boxA] using hc
      subst this
      exact rightC_box (by simpa using hs) (rightA_down h (by omega) (by simpa using hs))
theorem rightA_raise {d : Nat} {a : Arr} {l : Lab} (h : rightA d a = true) : rightA d (raiseA a l) = true := by rw [rightA_eq] at h ⊢; exact h
theorem rightA_one {d : Nat} {c : Cell} {l : Lab} (h : rightC d c = true) : rightA d (.mk l [] [c]) = true := rightA_of countS_nil (fun x hx => by simp at hx; subst hx; exact h)
theorem unpC_right {d : Nat} {c : Cell} (h : rightC (d + 1) c = true) : rightA (d + 1) (unpC c) = true := by
  by_cases hk : c.kind = 2
  · obtain ⟨e, x, he, hx, hs, hr⟩ := rightC_two hk h
    have : e = d := by omega
    subst this
    rw [unpC_pos hk (by rw [hx])]
    exact rightA_raise (rightA_up hr)
  · rw [unpC_neg (fun hh => hk hh.1)]
    exact rightA_one h
theorem firstA_right {a : Arr} (h : rightA 8 a = true) : rightA 8 (firstA a) = true := by
  unfold firstA
  split
  · exact rightA_one (rightC_int 8 inR0)
  · rename_i c cs hc
    exact rightA_raise (unpC_right ((rightA_cells h).2 c (by rw [hc]; simp)))
theorem flatA_mem : ∀ {d : Nat} {a : Arr}, rightA d a = true → ∀ c ∈ flatA a, ¬ c.kind = 2 ∧ ∃ e, rightC e c = true := by
  have keyAs : ∀ {as_ : List Arr} {P : Cell → Prop}, (∀ x ∈ as_, ∀ c ∈ flatA x, P c) → ∀ c ∈ flatAs as_, P c := by
    intro as_ P
    induction as_ with
    | nil => intro _ c hc; rw [flatAs] at hc; cases hc
    | cons a as_ ih =>
      intro h c hc
      rw [flatAs] at hc
      rcases List.mem_append.1 hc with hc | hc
      · exact h a (by simp) c hc
      · exact ih (fun x hx => h x (List.mem_cons_of_mem _ hx)) c hc
  have keyCs : ∀ {cs : List Cell} {P : Cell → Prop}, (∀ x ∈ cs, ∀ c ∈ flatC x, P c) → ∀ c ∈ flatCs cs, P c := by
    intro cs P
    induction cs with
    | nil => intro _ c hc; rw [flatCs] at hc; cases hc
    | cons a cs ih =>
      intro h c hc
      rw [flatCs] at hc
      rcases List.mem_append.1 hc with hc | hc
      · exact h a (by simp) c hc
      · exact ih (fun x hx => h x (List.mem_cons_of_mem _ hx)) c hc
  intro d
  induction d with
  | zero =>
    intro a h
    rw [flatA_eq]
    refine keyCs (fun x hx c hc => ?_)
    have hr := (rightA_cells h).2 x hx
    rw [flatC_eq] at hc
    split at hc
    · rename_i hk; obtain ⟨e, y, he, _⟩ := rightC_two hk hr; omega
    · rename_i hk; simp at hc; subst hc; exact ⟨hk, _, hr⟩
  | succ d ih =>
    intro a h
    rw [flatA_eq]
    refine keyCs (fun x hx c hc => ?_)
    have hr := (rightA_cells h).2 x hx
    rw [flatC_eq] at hc
    split at hc
    · rename_i hk
      obtain ⟨e, y, he, hy, hs, hry⟩ := rightC_two hk hr
      have : e = d := by omega
      subst this
      rw [hy] at hc
      exact keyAs (fun z hz => by simp at hz; subst hz; exact ih hry) c hc
    · rename_i hk; simp at hc; subst hc; exact ⟨hk, _, hr⟩
theorem enlA_right {a : Arr} (h : rightA 8 a = true) (h0 : (enlA a).2 = 0) : rightA 8 (enlA a).1 = true := by
  unfold enlA at h0 ⊢
  split
  · rename_i hl
    refine rightA_of (by simpa using countS_one hl) (fun c hc => ?_)
    obtain ⟨hk, e, he⟩ := flatA_mem h c hc
    exact rightC_kind hk he
  · rename_i hl; rw [if_neg hl] at h0; cases h0
theorem rightA_nonempty {d : Nat} {a : Arr} (h : rightA d a = true) (hs : a.shape = []) : a.cells ≠ [] := by
  have := (rightA_cells h).1
  rw [hs, countS_nil] at this
  intro hc
  rw [hc] at this
  simp at this
theorem enclA_fits {d : Nat} {a : Arr} (h : Sml d a) : Sml (d + 1) (enclA a).1 := by
  unfold enclA
  split
  · exact h.mono (by omega)
  · split
    · exact ⟨by simp [Arr.none], by simp [Arr.none], by simp [Arr.none], by simp [Arr.none]⟩
    · refine ⟨by simp [boxA], by simp [boxA], by simp [boxA], fun c hc => ?_⟩
      have : c = ⟨boxL a, 2, .zero, 0, [a]⟩ := by simpa [boxA] using hc
      subst this
      exact ⟨by simp [Num.zero], by simp [Num.zero], by simp, fun x hx => by simp at hx; subst hx; exact h⟩
theorem enlA_sml {a : Arr} (h : rightA 8 a = true) : Sml 9 (enlA a).1 := by
  by_cases h0 : (enlA a).2 = 0
  · exact rightA_sml (enlA_right h h0)
  · unfold enlA at h0 ⊢
    split
    · rename_i hl; rw [if_pos hl] at h0; exact absurd rfl h0
    · exact ⟨by simp [Arr.none], by simp [Arr.none], by simp [Arr.none], by simp [Arr.none]⟩
theorem tw_awake_br {b : Bool} {t : Tree} (h1 : b = true) (h : Tw t [.bool true]) : Tw (.br b t (.ret [D.bool false])) [.bool true] := wp_tt h1 h
end Go.Proofs.Ytcgfpibkajagjaa
set_option maxRecDepth 100000
namespace Go.Proofs.Ytcgfpibkajagjaa

theorem era_raise (a : Arr) (l : Lab) : eraA (raiseA a l) = eraA a := by unfold eraA; rw [relA_eq, relA_eq]; rfl
theorem mat_raise (a : Arr) (l : Lab) : matA (raiseA a l) a = true := by unfold matA; rw [era_raise]; exact eqA_self _
theorem flows_raise (a : Arr) (l : Lab) : flows (totA a) (totA (raiseA a l)) = true := by rw [totA_raise]; exact flows_iff.2 fun t h => by simp [h]
theorem simple_form {a : Arr} (h : simpleA a = true) : ∃ c, a = .mk a.s [] [c] ∧ ¬ c.kind = 2 := by
  unfold simpleA at h
  split at h
  · rename_i c hs hc
    refine ⟨c, ?_, by simpa using h⟩
    rw [← hs, ← hc]; exact Arr.eta a
  · cases h
/-- What was enclosed, taken out again. -/
theorem first_encl {a : Arr} (h0 : (enclA a).2 = 0) : ∃ l, firstA (enclA a).1 = raiseA a l := by
  unfold enclA at h0 ⊢
  split
  · rename_i hs
    obtain ⟨c, hc, hk⟩ := simple_form hs
    refine ⟨c.l, ?_⟩
    rw [hc]
    show raiseA (unpC c) a.s = _
    rw [unpC_neg (fun hh => hk hh.1)]
    show Arr.mk (c.l ||| a.s) [] [c] = .mk (a.s ||| c.l) [] [c]
    rw [BitVec.or_comm]
  · rename_i hs
    rw [if_neg hs] at h0
    split
    · rename_i h8; rw [if_pos h8] at h0; cases h0
    · refine ⟨boxL a ||| a.s, ?_⟩
      show raiseA (unpC ⟨boxL a, 2, .zero, 0, [a]⟩) a.s = _
      rw [unpC_pos rfl rfl]
      show Arr.mk (a.s ||| boxL a ||| a.s) _ _ = .mk (a.s ||| (boxL a ||| a.s)) _ _
      rw [BitVec.or_assoc]; rfl
theorem cyc_self (l : List Cell) : cyc l l.length = l := by
  unfold cyc
  apply List.ext_getElem
  · simp
  · intro i h1 h2
    simp only [List.getElem_map, List.getElem_range]
    rw [Nat.mod_eq_of_lt h2, List.getD_eq_getElem?_getD, List.getElem?_eq_getElem h2]; rfl
theorem resh_back {a : Arr} (h : rightA 8 a = true) : reshA (shapeA a) (ravA a) = (a, 0) := by
  have hs := (rightA_sml h).2.2.1
  have hc := (rightA_cells h).1
  have e1 : intsA (shapeA a) = (a.shape, 0) := by
    unfold intsA shapeA vecA
    simp only [Arr.shape_mk, Arr.cells_mk, intsCs_vec hs]; rfl
  unfold reshA
  rw [e1]
  simp only [hc, if_true]
  rw [shapeA, totA_vec]
  show (Arr.mk (a.s ||| a.s) a.shape (cyc a.cells (Int.toNat (a.cells.length : Int))), (0 : Int)) = _
  rw [BitVec.or_self, Int.toNat_natCast, cyc_self, ← Arr.eta]
theorem shapeA_fits {d : Nat} {a : Arr} (h : Sml d a) (hl : a.shape.length ≤ 100000) : Fits (shapeA a) := by
  obtain ⟨e, rfl⟩ := h.succ
  exact fits_vec hl h.2.2.1
section
variable {o : Lab} {a b n m : Arr}
theorem shape_alike (h : hidA o a = hidA o b) : hidA o (shapeA a) = hidA o (shapeA b) := by
  rcases alike_cases h with ⟨h1, h2⟩ | ⟨_, _, h3, h4, _⟩
  · exact alike_hid h1 h2
  · unfold shapeA; rw [h3, h4]
theorem rav_alike (h : hidA o a = hidA o b) : hidA o (ravA a) = hidA o (ravA b) := by
  rcases alike_cases h with ⟨h1, h2⟩ | ⟨_, _, h3, _, h5⟩
  · exact alike_hid h1 h2
  · have hl : a.cells.length = b.cells.length := by have := congrArg List.length h5; simpa using this
    exact alike_vis h3 (by show [(a.cells.length : Int)] = [(b.cells.length : Int)]; rw [hl]) h5
theorem tally_alike (h : hidA o a = hidA o b) : hidA o (tallyA a) = hidA o (tallyA b) := by
  rcases alike_cases h with ⟨h1, h2⟩ | ⟨_, _, h3, h4, _⟩
  · exact alike_hid h1 h2
  · unfold tallyA; rw [h3, h4]
theorem mdep_alike (h : hidA o a = hidA o b) : hidA o (mdepA a) = hidA o (mdepA b) := by
  rcases alike_totals h with rfl | ⟨h1, h2⟩
  · rfl
  · exact alike_hid h1 h2
theorem first_alike (h : hidA o a = hidA o b) : hidA o (firstA a) = hidA o (firstA b) := by
  have hs : ∀ x : Arr, flows x.s o = false → flows (firstA x).s o = false := fun x hx => by
    unfold firstA
    split
    · exact hx
    · show flows (_ ||| x.s) o = false; rw [flows_or, hx, Bool.and_false]
  rcases alike_cases h with ⟨h1, h2⟩ | ⟨_, _, h3, _, h5⟩
  · exact alike_hid (hs a h1) (hs b h2)
  · unfold firstA
    match ha : a.cells, hb : b.cells with
    | [], [] => rw [h3]
    | [], c :: cs => rw [ha, hb] at h5; simp at h5
    | c :: cs, [] => rw [ha, hb] at h5; simp at h5
    | c :: cs, d :: ds =>
      rw [ha, hb] at h5
      simp only [List.map_cons, List.cons.injEq] at h5
      show hidA o (raiseA (unpC c) a.s) = hidA o (raiseA (unpC d) b.s)
      rw [h3]; exact raise_alike (unpC_alike h5.1)
theorem mmat_alike (h : hidA o a = hidA o b) (h' : hidA o n = hidA o m) (s : Bool) : hidA o (mmatA a n s) = hidA o (mmatA b m s) := by
  have hid : ∀ x y : Arr, (flows (totA x) o && flows (totA y) o) = false → flows (mmatA x y s).s o = false := fun x y hh => by show flows (totA x ||| totA y) o = false; rw [flows_or]; exact hh
  rcases alike_totals h with rfl | ⟨h1, h2⟩
  · rcases alike_totals h' with rfl | ⟨h3, h4⟩
    · rfl
    · exact alike_hid (hid _ _ (by rw [h3, Bool.and_false])) (hid _ _ (by rw [h4, Bool.and_false]))
  · exact alike_hid (hid _ _ (by rw [h1]; rfl)) (hid _ _ (by rw [h2]; rfl))
theorem map_getD {α β : Type} {f : α → β} {l m : List α} (h : l.map f = m.map f) (i : Nat) (z : α) : f (l.getD i z) = f (m.getD i z) := by
  have hi : (l.map f)[i]? = (m.map f)[i]? := by rw [h]
  simp only [List.getElem?_map] at hi
  rw [List.getD_eq_getElem?_getD, List.getD_eq_getElem?_getD]
  cases h1 : l[i]? <;> cases h2 : m[i]? <;> rw [h1, h2] at hi <;> simp at hi ⊢
  exact hi
theorem resh_alike (h' : hidA o n = hidA o m) (h : hidA o a = hidA o b) (e1 : (reshA n a).2 = 0) (e2 : (reshA m b).2 = 0) : hidA o (reshA n a).1 = hidA o (reshA m b).1 := by
  have form : ∀ x y : Arr, (reshA x y).2 = 0 → (reshA x y).1 = .mk (y.s ||| totA x) (intsA x).1 (cyc y.cells (countS (intsA x).1).1.toNat) := fun x y hh => by
    unfold reshA at hh ⊢
    split
    · rename_i g1
      rw [if_pos g1] at hh
      split
      · rfl
      · rename_i g2; rw [if_neg g2] at hh; exact absurd hh g2
    · rename_i g1; rw [if_neg g1] at hh; exact absurd hh g1
  rw [form n a e1, form m b e2]
  rcases alike_totals h' with rfl | ⟨h3, h4⟩
  · rcases alike_cases h with ⟨h1, h2⟩ | ⟨_, _, h3, _, h5⟩
    · exact alike_hid (by show flows (a.s ||| _) o = false; rw [flows_or, h1]; rfl) (by show flows (b.s ||| _) o = false; rw [flows_or, h2]; rfl)
    · refine alike_vis (by show a.s ||| _ = b.s ||| _; rw [h3]) rfl ?_
      have hl : a.cells.length = b.cells.length := by have := congrArg List.length h5; simpa using this
      show (cyc a.cells _).map (hidC o) = (cyc b.cells _).map (hidC o)
      unfold cyc
      rw [List.map_map, List.map_map]
      refine List.map_congr_left (fun i _ => ?_)
      show hidC o (a.cells.getD (i % a.cells.length) (intC 0)) = hidC o (b.cells.getD (i % b.cells.length) (intC 0))
      rw [hl]; exact map_getD h5 _ _
  · exact alike_hid (by show flows (_ ||| totA n) o = false; rw [flows_or, h3, Bool.and_false]) (by show flows (_ ||| totA m) o = false; rw [flows_or, h4, Bool.and_false])
theorem encl_alike (ra : rightA 8 a = true) (rb : rightA 8 b = true) (h : hidA o a = hidA o b) (e1 : (enclA a).2 = 0) (e2 : (enclA b).2 = 0) : hidA o (enclA a).1 = hidA o (enclA b).1 := by
  have form : ∀ x : Arr, (enclA x).2 = 0 → (enclA x).1 = if simpleA x then x else boxA x := fun x hh => by
    unfold enclA at hh ⊢
    split
    · rfl
    · rename_i g1
      rw [if_neg g1] at hh
      split
      · rename_i g2; rw [if_pos g2] at hh; cases hh
      · rfl
  have hs : ∀ x : Arr, (if simpleA x then x else boxA x).s = x.s := fun x => by split <;> rfl
  rw [form a e1, form b e2]
  rcases alike_cases h with ⟨h1, h2⟩ | ⟨h1, h2, h3, h4, h5⟩
  · exact alike_hid (by rw [hs]; exact h1) (by rw [hs]; exact h2)
  · by_cases hsh : a.shape = []
    · have la : a.cells.length = 1 := by have := (rightA_cells ra).1; rw [hsh, countS_nil] at this; have := congrArg Prod.fst this; simp at this; omega
      have lb : b.cells.length = 1 := by have := congrArg List.length h5; simp at this; omega
      obtain ⟨c, hc⟩ := len_one la
      obtain ⟨d, hd⟩ := len_one lb
      have hcd : hidC o c = hidC o d := by rw [hc, hd] at h5; simpa using h5
      have sa : simpleA a = decide (¬ c.kind = 2) := by unfold simpleA; rw [hsh, hc]
      have sb : simpleA b = decide (¬ d.kind = 2) := by unfold simpleA; rw [← h4, hsh, hd]
      have ba : boxL a = c.l := by unfold boxL; rw [hsh, hc]
      have bb : boxL b = d.l := by unfold boxL; rw [← h4, hsh, hd]
      have one : ∀ x : Arr, ∀ y : Cell, x.shape = [] → x.cells = [y] → boxL x = y.l → ∃ z : Cell, (if simpleA x then x else boxA x) = .mk x.s [] [z] ∧ z.l = y.l := fun x y hx hy hb => by
        split
        · exact ⟨y, by rw [← hx, ← hy]; exact Arr.eta x, rfl⟩
        · exact ⟨_, rfl, hb⟩
      rcases alikeC_cases hcd with ⟨g1, g2⟩ | ⟨g1, g2, g3, g4, _⟩
      · obtain ⟨z, hz, hzl⟩ := one a c hsh hc ba
        obtain ⟨w, hw, hwl⟩ := one b d (h4 ▸ hsh) hd bb
        rw [hz, hw]
        exact alike_vis h3 rfl (by simp only [Arr.cells_mk, List.map_cons, List.map_nil, List.cons.injEq, and_true]; exact alikeC_hid (hzl ▸ g1) (hwl ▸ g2))
      · have : simpleA a = simpleA b := by rw [sa, sb, g4]
        rw [this]
        split
        · exact h
        · exact alike_vis h3 rfl (by simp only [boxA, Arr.cells_mk, List.map_cons, List.map_nil, List.cons.injEq, and_true]; exact alikeC_vis (by rw [ba, bb, g3]) rfl rfl rfl (by simpa using h))
    · have sa : ∀ x : Arr, x.shape ≠ [] → simpleA x = false ∧ boxL x = 0 := fun x hx => by
        unfold simpleA boxL
        match hh : x.shape with
        | [] => exact absurd hh hx
        | y :: ys => exact ⟨rfl, rfl⟩
      have a1 := sa a hsh
      have b1 := sa b (h4 ▸ hsh)
      rw [a1.1, b1.1]
      exact alike_vis h3 rfl (by simp only [boxA, Bool.false_eq_true, if_false, Arr.cells_mk, List.map_cons, List.map_nil, List.cons.injEq, and_true]; exact alikeC_vis (by rw [a1.2, b1.2]) rfl rfl rfl (by simpa using h))
theorem enl_alike (h : hidA o a = hidA o b) (e1 : (enlA a).2 = 0) (e2 : (enlA b).2 = 0) : hidA o (enlA a).1 = hidA o (enlA b).1 := by
  have form : ∀ x : Arr, (enlA x).2 = 0 → (enlA x).1.s = totA x := fun x hh => by
    unfold enlA at hh ⊢
    split
    · rfl
    · rename_i g; rw [if_neg g] at hh; cases hh
  rcases alike_totals h with rfl | ⟨h1, h2⟩
  · rfl
  · exact alike_hid (by rw [form a e1]; exact h1) (by rw [form b e2]; exact h2)
end
theorem alike_sp {o : Lab} {d : Nat} {a b : Arr} (h : Sml d a) (hh : hidA o a = hidA o b) : Sp 27 [dA a, dA b, dB o] [.bool true] := by
  have := ref09_Alike_sp o d a b h
  rwa [alk_iff.2 hh] at this
theorem sml_alone {n : Int} {s : Lab} (h : inR n) : Sml 1 (aloneA n s) := ⟨by simp [aloneA], by simp [aloneA], by simp [aloneA], fun c hc => by simp [aloneA] at hc; subst hc; exact smlC_int h 0⟩
end Go.Proofs.Ytcgfpibkajagjaa
set_option maxRecDepth 100000
namespace Go.Proofs.Ytcgfpibkajagjaa
/-! scrim/scrimlaw13.CutBlind -/
def law13_CutBlind_orc : List (Nat × Orc) := []
theorem law13_CutBlind_tree (n : Nat) (nn0 : D) (mm1 : D) (a2 : D) (b3 : D) (o4 : D) : evFun Try.prog md law13_CutBlind_orc n 7 [] [nn0, mm1, a2, b3, o4] =
 .call 28 [] [nn0] fun yy1 =>
 .br (!((yy1.getD 0 D.nil).toBool)) (.call 30 [] [] fun yy2 =>
 .ret [D.bool ((yy2.getD 0 D.nil).toBool)])
 (.call 28 [] [mm1] fun yy3 =>
 .br (!((yy3.getD 0 D.nil).toBool)) (.call 30 [] [] fun yy4 =>
 .ret [D.bool ((yy4.getD 0 D.nil).toBool)])
 (.call 28 [] [a2] fun yy5 =>
 .br (!((yy5.getD 0 D.nil).toBool)) (.call 30 [] [] fun yy6 =>
 .ret [D.bool ((yy6.getD 0 D.nil).toBool)])
 (.call 28 [] [b3] fun yy7 =>
 .br (!((yy7.getD 0 D.nil).toBool)) (.call 30 [] [] fun yy8 =>
 .ret [D.bool ((yy8.getD 0 D.nil).toBool)])
 (.call 29 [] [nn0] fun yy9 =>
 .br ((yy9.getD 0 D.nil).toBool) (.call 30 [] [] fun yy10 =>
 .ret [D.bool ((yy10.getD 0 D.nil).toBool)])
 (.call 29 [] [mm1] fun yy11 =>
 .br ((yy11.getD 0 D.nil).toBool) (.call 30 [] [] fun yy12 =>
 .ret [D.bool ((yy12.getD 0 D.nil).toBool)])
 (.call 27 [] [nn0, mm1, D.int o4.toInt] fun yy13 =>
 .br (!((yy13.getD 0 D.nil).toBool)) (.call 30 [] [] fun yy14 =>
 .ret [D.bool ((yy14.getD 0 D.nil).toBool)])
 (.call 27 [] [a2, b3, D.int o4.toInt] fun yy15 =>
 .br (!((yy15.getD 0 D.nil).toBool)) (.call 30 [] [] fun yy16 =>
 .ret [D.bool ((yy16.getD 0 D.nil).toBool)])
 (.call 31 [] [nn0, a2] fun yy17 =>
 .call 31 [] [mm1, b3] fun yy18 =>
 .br (((yy17.getD 1 D.nil).toInt) == 0) (.br (((yy18.getD 1 D.nil).toInt) == 0) (.call 27 [] [yy17.getD 0 D.nil, yy18.getD 0 D.nil, D.int o4.toInt] fun yy19 =>
 .br (!((yy19.getD 0 D.nil).toBool)) (.ret [D.bool false])
 (.call 32 [] [nn0, a2] fun yy20 =>
 .call 32 [] [mm1, b3] fun yy21 =>
 .br (((yy20.getD 1 D.nil).toInt) != 0) (.call 30 [] [] fun yy22 =>
 .ret [D.bool ((yy22.getD 0 D.nil).toBool)])
 (.br (((yy21.getD 1 D.nil).toInt) != 0) (.call 30 [] [] fun yy23 =>
 .ret [D.bool ((yy23.getD 0 D.nil).toBool)])
 (.call 27 [] [yy20.getD 0 D.nil, yy21.getD 0 D.nil, D.int o4.toInt] fun yy24 =>
 .br ((yy24.getD 0 D.nil).toBool) (.call 30 [] [] fun yy25 =>
 .ret [D.bool ((yy25.getD 0 D.nil).toBool)])
 (.ret [D.bool false])))))
 (.call 32 [] [nn0, a2] fun yy26 =>
 .call 32 [] [mm1, b3] fun yy27 =>
 .br (((yy26.getD 1 D.nil).toInt) != 0) (.call 30 [] [] fun yy28 =>
 .ret [D.bool ((yy28.getD 0 D.nil).toBool)])
 (.br (((yy27.getD 1 D.nil).toInt) != 0) (.call 30 [] [] fun yy29 =>
 .ret [D.bool ((yy29.getD 0 D.nil).toBool)])
 (.call 27 [] [yy26.getD 0 D.nil, yy27.getD 0 D.nil, D.int o4.toInt] fun yy30 =>
 .br ((yy30.getD 0 D.nil).toBool) (.call 30 [] [] fun yy31 =>
 .ret [D.bool ((yy31.getD 0 D.nil).toBool)])
 (.ret [D.bool false])))))
 (.call 32 [] [nn0, a2] fun yy32 =>
 .call 32 [] [mm1, b3] fun yy33 =>
 .br (((yy32.getD 1 D.nil).toInt) != 0) (.call 30 [] [] fun yy34 =>
 .ret [D.bool ((yy34.getD 0 D.nil).toBool)])
 (.br (((yy33.getD 1 D.nil).toInt) != 0) (.call 30 [] [] fun yy35 =>
 .ret [D.bool ((yy35.getD 0 D.nil).toBool)])
 (.call 27 [] [yy32.getD 0 D.nil, yy33.getD 0 D.nil, D.int o4.toInt] fun yy36 =>
 .br ((yy36.getD 0 D.nil).toBool) (.call 30 [] [] fun yy37 =>
 .ret [D.bool ((yy37.getD 0 D.nil).toBool)])
 (.ret [D.bool false])))))))))))) := by kernel_rfl

/-! scrim/scrimlaw13.CutWhole -/
def law13_CutWhole_orc : List (Nat × Orc) := []
theorem law13_CutWhole_tree (n : Nat) (a0 : D) (nn1 : D) : evFun Try.prog md law13_CutWhole_orc n 9 [] [a0, nn1] =
 .call 28 [] [a0] fun yy1 =>
 .br (!((yy1.getD 0 D.nil).toBool)) (.call 30 [] [] fun yy2 =>
 .ret [D.bool ((yy2.getD 0 D.nil).toBool)])
 (.br ((((a0.fld 1).els).length : Int) != 1) (.call 30 [] [] fun yy3 =>
 .ret [D.bool ((yy3.getD 0 D.nil).toBool)])
 (.br (!((IntKind.wrap .i64 ((((a0.fld 2).els).length : Int) + 1)) == (0 : Int))) (.call 35 [] [D.int (Int.tmod (IntKind.wrap .i64 nn1.toInt) (IntKind.wrap .i64 ((((a0.fld 2).els).length : Int) + 1))), D.int 0] fun yy4 =>
 .call 31 [] [yy4.getD 0 D.nil, a0] fun yy5 =>
 .call 35 [] [D.int (Int.tmod (IntKind.wrap .i64 nn1.toInt) (IntKind.wrap .i64 ((((a0.fld 2).els).length : Int) + 1))), D.int 0] fun yy6 =>
 .call 32 [] [yy6.getD 0 D.nil, a0] fun yy7 =>
 .call 36 [] [yy5.getD 0 D.nil, yy7.getD 0 D.nil, D.bool false] fun yy8 =>
 .call 35 [] [D.int (IntKind.wrap .i64 ((Int.tmod (IntKind.wrap .i64 nn1.toInt) (IntKind.wrap .i64 ((((a0.fld 2).els).length : Int) + 1))) - (((a0.fld 2).els).length : Int))), D.int 0] fun yy9 =>
 .call 31 [] [yy9.getD 0 D.nil, a0] fun yy10 =>
 .br (((yy5.getD 1 D.nil).toInt) == 0) (.br (((yy7.getD 1 D.nil).toInt) == 0) (.br (((yy8.getD 1 D.nil).toInt) == 0) (.br (((yy10.getD 1 D.nil).toInt) == 0) (.call 15 [] [yy8.getD 0 D.nil, a0] fun yy11 =>
 .br ((yy11.getD 0 D.nil).toBool) (.call 33 [] [yy10.getD 0 D.nil, yy7.getD 0 D.nil] fun yy12 =>
 .br ((yy12.getD 0 D.nil).toBool) (.call 30 [] [] fun yy13 =>
 .ret [D.bool ((yy13.getD 0 D.nil).toBool)])
 (.ret [D.bool false]))
 (.ret [D.bool false]))
 (.ret [D.bool false]))
 (.ret [D.bool false]))
 (.ret [D.bool false]))
 (.ret [D.bool false])) .fail)) := by kernel_rfl

/-! scrim/scrimlaw13.light -/
def law13_light_orc : List (Nat × Orc) := []
theorem law13_light_tree (n : Nat) (a0 : D) : evFun Try.prog md law13_light_orc n 28 [] [a0] =
 .call 37 [] [a0] fun yy1 =>
 .br ((yy1.getD 0 D.nil).toBool) (.ret [D.bool (decide ((((a0.fld 2).els).length : Int) ≤ 100))])
 (.ret [D.bool false]) := by kernel_rfl

/-! scrim/scrimlaw13.heavy -/
def law13_heavy_orc : List (Nat × Orc) := [(4, ⟨[(3, some 23), (5, none), (6, none)], [], []⟩)]
def law13_heavy_ps : List Nat := [26]
def law13_heavy_rs : List ResultVar := [.tmp 2]
def law13_heavy_ts : List Nat := [4]
noncomputable def law13_heavy_l4 (n m4 : Nat) (l3 : D) (mm5 : Int) (i6 : Int) : Tree :=
  evLoop Try.prog md (ev Try.prog md n law13_heavy_orc (cAt (bodyOf Try.prog 29) [1, 1, 1, 0, 1, 0, 0])) (orcAt law13_heavy_orc 4) m4 ⟨[.undef, .undef, .undef, .d 23 l3, .undef, .i .i64 mm5, .i .i64 i6, .undef, .undef, .undef, .undef, .undef, .undef, .undef, .undef, .undef, .undef, .undef, .undef, .undef, .undef, .undef, .undef, .undef, .undef, .undef, .undef, .undef, .undef, .undef, .undef, .undef, .undef, .undef, .undef, .undef, .undef, .undef, .undef, .undef, .undef, .undef], [], [], [], []⟩
   (blockK 0 (seqK (joinE Try.prog md (joinAt law13_heavy_orc (cAt (bodyOf Try.prog 29) [1, 1, 1, 1])) (ev Try.prog md n law13_heavy_orc (cAt (bodyOf Try.prog 29) [1, 1, 1, 1]))) (retK Try.prog md (md 29) law13_heavy_ps law13_heavy_rs law13_heavy_ts)))
theorem law13_heavy_l4_succ (n m4 : Nat) (l3 : D) (mm5 : Int) (i6 : Int) : law13_heavy_l4 n (m4 + 1) l3 mm5 i6 =
 .br (decide (i6 < (l3.els.length : Int))) (.br (decide (0 ≤ i6)) (.br (decide (i6 < (l3.els.length : Int))) (.br (decide (2048 < ((l3.els.getD (Int.toNat i6) D.nil).toInt))) (.ret [D.bool false])
 (.br (decide (((l3.els.getD (Int.toNat i6) D.nil).toInt) < (-2048))) (.ret [D.bool false])
 (.br (decide (((l3.els.getD (Int.toNat i6) D.nil).toInt) < 0)) (.br (decide (0 < (IntKind.wrap .i64 (0 - ((l3.els.getD (Int.toNat i6) D.nil).toInt))))) (.br (decide (300 < (IntKind.wrap .i64 (mm5 * (IntKind.wrap .i64 (0 - ((l3.els.getD (Int.toNat i6) D.nil).toInt))))))) (.ret [D.bool (decide ((IntKind.wrap .i64 (mm5 * (IntKind.wrap .i64 (0 - ((l3.els.getD (Int.toNat i6) D.nil).toInt))))) ≤ 5000))])
 (law13_heavy_l4 n m4 l3 (IntKind.wrap .i64 (mm5 * (IntKind.wrap .i64 (0 - ((l3.els.getD (Int.toNat i6) D.nil).toInt))))) (IntKind.wrap .i64 (i6 + 1))))
 (.br (decide (300 < mm5)) (.ret [D.bool (decide (mm5 ≤ 5000))])
 (law13_heavy_l4 n m4 l3 mm5 (IntKind.wrap .i64 (i6 + 1)))))
 (.br (decide (0 < ((l3.els.getD (Int.toNat i6) D.nil).toInt))) (.br (decide (300 < (IntKind.wrap .i64 (mm5 * ((l3.els.getD (Int.toNat i6) D.nil).toInt))))) (.ret [D.bool (decide ((IntKind.wrap .i64 (mm5 * ((l3.els.getD (Int.toNat i6) D.nil).toInt))) ≤ 5000))])
 (law13_heavy_l4 n m4 l3 (IntKind.wrap .i64 (mm5 * ((l3.els.getD (Int.toNat i6) D.nil).toInt))) (IntKind.wrap .i64 (i6 + 1))))
 (.br (decide (300 < mm5)) (.ret [D.bool (decide (mm5 ≤ 5000))])
 (law13_heavy_l4 n m4 l3 mm5 (IntKind.wrap .i64 (i6 + 1)))))))) .fail) .fail)
 (.ret [D.bool false]) := by kernel_rfl
theorem law13_heavy_tree (n : Nat) (nn0 : D) : evFun Try.prog md law13_heavy_orc n 29 [] [nn0] =
 .call 62 [] [nn0] fun yy1 =>
 law13_heavy_l4 n n (yy1.getD 0 D.nil) 1 0 := by kernel_rfl

/-! scrim/scrimlaw13.awake -/
def law13_awake_orc : List (Nat × Orc) := []
theorem law13_awake_tree (n : Nat)  : evFun Try.prog md law13_awake_orc n 30 [] [] =
 .call 38 [] [D.sl [D.int 1, D.int 2, D.int 3], D.int 0] fun yy1 =>
 .call 35 [] [D.int 5, D.int 0] fun yy2 =>
 .call 31 [] [yy2.getD 0 D.nil, yy1.getD 0 D.nil] fun yy3 =>
 .call 35 [] [D.int (-2), D.int 0] fun yy4 =>
 .call 31 [] [yy4.getD 0 D.nil, yy1.getD 0 D.nil] fun yy5 =>
 .call 35 [] [D.int 2, D.int 0] fun yy6 =>
 .call 32 [] [yy6.getD 0 D.nil, yy1.getD 0 D.nil] fun yy7 =>
 .br (((yy3.getD 1 D.nil).toInt) == 0) (.br (((yy5.getD 1 D.nil).toInt) == 0) (.br (((yy7.getD 1 D.nil).toInt) == 0) (.call 38 [] [D.sl [D.int 1, D.int 2, D.int 3, D.int 0, D.int 0], D.int 0] fun yy8 =>
 .call 15 [] [yy3.getD 0 D.nil, yy8.getD 0 D.nil] fun yy9 =>
 .br ((yy9.getD 0 D.nil).toBool) (.call 38 [] [D.sl [D.int 2, D.int 3], D.int 0] fun yy10 =>
 .call 15 [] [yy5.getD 0 D.nil, yy10.getD 0 D.nil] fun yy11 =>
 .br ((yy11.getD 0 D.nil).toBool) (.call 38 [] [D.sl [D.int 3], D.int 0] fun yy12 =>
 .call 15 [] [yy7.getD 0 D.nil, yy12.getD 0 D.nil] fun yy13 =>
 .ret [D.bool ((yy13.getD 0 D.nil).toBool)])
 (.ret [D.bool false]))
 (.ret [D.bool false]))
 (.ret [D.bool false]))
 (.ret [D.bool false]))
 (.ret [D.bool false]) := by kernel_rfl

end Go.Proofs.Ytcgfpibkajagjaa
set_option maxRecDepth 100000
namespace Go.Proofs.Ytcgfpibkajagjaa

theorem rightC_lab {d : Nat} {c : Cell} (l : Lab) (h : rightC d c = true) : rightC d ⟨l, c.kind, c.n, c.c, c.inn⟩ = true := by cases d <;> exact h
theorem rightC_fill {d : Nat} (a : Arr) : rightC d (fillC a) = true := by
  unfold fillC
  split
  · exact rightC_int d inR0
  · split
    · have : ∀ k r (l : Lab), cellR k r (⟨l, 1, .zero, 32, []⟩ : Cell) = true := fun k r l => rfl
      cases d <;> exact this _ _ _
    · exact rightC_lab _ (rightC_int d inR0)
theorem seenC_right {d : Nat} {a : Arr} {s f z : List Int} {i : Nat} (h : rightA d a = true) : rightC d (seenC a.cells (fillC a) s f z i) = true := by
  unfold seenC
  split
  · rename_i k hk
    rw [List.getD_eq_getElem?_getD]
    cases hg : a.cells[k.toNat]? with
    | none => exact rightC_fill a
    | some c => exact (rightA_cells h).2 c (List.mem_of_getElem? hg)
  · exact rightC_fill a
theorem cutS_right {n a : Arr} {s f z : List Int} {d : Nat} (h : rightA d a = true) (h0 : (cutS n a s f z).2 = 0) : rightA d (cutS n a s f z).1 = true := by
  unfold cutS at h0 ⊢
  split at h0
  · rename_i h1
    rw [if_pos h1]
    have h2 := countS_le z
    refine rightA_of ?_ (fun c hc => ?_)
    · simp only [Arr.shape_mk, Arr.cells_mk, seenS, List.length_map, List.length_range]
      exact Prod.ext (by simp only; omega) h1
    · simp only [Arr.cells_mk, seenS, List.mem_map] at hc
      obtain ⟨i, _, rfl⟩ := hc
      exact seenC_right h
  · rename_i h1; exact absurd h0 h1
theorem takeA_right {n a : Arr} (h : rightA 8 a = true) (h0 : (takeA n a).2 = 0) : rightA 8 (takeA n a).1 = true := by
  unfold takeA at h0 ⊢
  split at h0
  · rename_i h1; rw [if_pos h1]; exact cutS_right h h0
  · rename_i h1; exact absurd h0 h1
theorem dropA_right {n a : Arr} (h : rightA 8 a = true) (h0 : (dropA n a).2 = 0) : rightA 8 (dropA n a).1 = true := by
  unfold dropA at h0 ⊢
  split at h0
  · rename_i h1; rw [if_pos h1]; exact cutS_right h h0
  · rename_i h1; exact absurd h0 h1
section
variable {o : Lab} {a b n m : Arr}
theorem fill_alike (h : a.cells.map (hidC o) = b.cells.map (hidC o)) : hidC o (fillC a) = hidC o (fillC b) := by
  unfold fillC
  match ha : a.cells, hb : b.cells with
  | [], [] => rfl
  | [], c :: cs => rw [ha, hb] at h; simp at h
  | c :: cs, [] => rw [ha, hb] at h; simp at h
  | c :: cs, d :: ds =>
    rw [ha, hb] at h
    simp only [List.map_cons, List.cons.injEq] at h
    show hidC o (if c.kind = 1 then _ else _) = hidC o (if d.kind = 1 then _ else _)
    rcases alikeC_cases h.1 with ⟨h1, h2⟩ | ⟨_, _, h3, h4, _⟩
    · refine alikeC_hid ?_ ?_
      · split <;> exact h1
      · split <;> exact h2
    · rw [h3, h4]
theorem map_getD2 {α β : Type} {f : α → β} {l m : List α} (h : l.map f = m.map f) (i : Nat) {z w : α} (hz : f z = f w) : f (l.getD i z) = f (m.getD i w) := by
  have hi : (l.map f)[i]? = (m.map f)[i]? := by rw [h]
  simp only [List.getElem?_map] at hi
  rw [List.getD_eq_getElem?_getD, List.getD_eq_getElem?_getD]
  cases h1 : l[i]? <;> cases h2 : m[i]? <;> rw [h1, h2] at hi <;> simp at hi ⊢
  · exact hz
  · exact hi
theorem cutS_alike {s f z : List Int} (h : hidA o a = hidA o b) (e1 : (cutS n a s f z).2 = 0) (e2 : (cutS n b s f z).2 = 0) : hidA o (cutS n a s f z).1 = hidA o (cutS n b s f z).1 := by
  unfold cutS at e1 e2 ⊢
  split at e1
  · rename_i h1
    rw [if_pos h1, if_pos h1]
    rcases alike_cases h with ⟨h1, h2⟩ | ⟨_, _, h3, _, h5⟩
    · exact alike_hid (by show flows (a.s ||| _) o = false; rw [flows_or, h1]; rfl) (by show flows (b.s ||| _) o = false; rw [flows_or, h2]; rfl)
    · refine alike_vis (by show a.s ||| _ = b.s ||| _; rw [h3]) rfl ?_
      show (seenS a s f z _).map (hidC o) = (seenS b s f z _).map (hidC o)
      unfold seenS
      rw [List.map_map, List.map_map]
      refine List.map_congr_left (fun i _ => ?_)
      show hidC o (seenC a.cells (fillC a) s f z i) = hidC o (seenC b.cells (fillC b) s f z i)
      unfold seenC
      split
      · exact map_getD2 h5 _ (fill_alike h5)
      · exact fill_alike h5
  · rename_i h1; exact absurd e1 h1
theorem cutS_s {s f z : List Int} (h : (cutS n a s f z).2 = 0) : (cutS n a s f z).1.s = a.s ||| totA n := by
  unfold cutS at h ⊢
  split at h
  · rename_i h1; rw [if_pos h1]; rfl
  · rename_i h1; exact absurd h h1
theorem axesS_same (h : a.shape = b.shape) : axesS n a = axesS n b := by unfold axesS; rw [h]
theorem two_alike {x y : Arr} (hx : x.s = a.s ||| totA n) (hy : y.s = b.s ||| totA m) (h' : hidA o n = hidA o m) (h : hidA o a = hidA o b) (hv : n = m → a.shape = b.shape → hidA o x = hidA o y) : hidA o x = hidA o y := by
  rcases alike_totals h' with rfl | ⟨h3, h4⟩
  · rcases alike_cases h with ⟨h1, h2⟩ | ⟨_, _, _, h4, _⟩
    · exact alike_hid (by rw [hx, flows_or, h1]; rfl) (by rw [hy, flows_or, h2]; rfl)
    · exact hv rfl h4
  · exact alike_hid (by rw [hx, flows_or, h3, Bool.and_false]) (by rw [hy, flows_or, h4, Bool.and_false])
theorem take_alike (h' : hidA o n = hidA o m) (h : hidA o a = hidA o b) (e1 : (takeA n a).2 = 0) (e2 : (takeA m b).2 = 0) : hidA o (takeA n a).1 = hidA o (takeA m b).1 := by
  unfold takeA at e1 e2 ⊢
  split at e1
  · rename_i g1
    split at e2
    · rename_i g2
      rw [if_pos g1, if_pos g2]
      refine two_alike (cutS_s e1) (cutS_s e2) h' h (fun e he => ?_)
      subst e
      rw [axesS_same he] at e1 ⊢
      exact cutS_alike h e1 e2
    · rename_i g2; exact absurd e2 g2
  · rename_i g1; exact absurd e1 g1
theorem drop_alike (h' : hidA o n = hidA o m) (h : hidA o a = hidA o b) (e1 : (dropA n a).2 = 0) (e2 : (dropA m b).2 = 0) : hidA o (dropA n a).1 = hidA o (dropA m b).1 := by
  unfold dropA at e1 e2 ⊢
  split at e1
  · rename_i g1
    split at e2
    · rename_i g2
      rw [if_pos g1, if_pos g2]
      refine two_alike (cutS_s e1) (cutS_s e2) h' h (fun e he => ?_)
      subst e
      rw [axesS_same he] at e1 ⊢
      exact cutS_alike h e1 e2
    · rename_i g2; exact absurd e2 g2
  · rename_i g1; exact absurd e1 g1
end
/-- One number, and a list. -/
theorem ints_alone {k : Int} (h : inR k) (s : Lab) : intsA (aloneA k s) = ([k], 0) := by
  unfold intsA aloneA
  simp only [Arr.shape_mk, Arr.cells_mk]
  have := intsCs_vec (l := [k]) (fun x hx => by simp at hx; subst hx; exact h)
  simp only [List.map_cons, List.map_nil] at this
  rw [this]; rfl
theorem tot_alone (k : Int) (s : Lab) : totA (aloneA k s) = s := totA_vec [k] s
theorem seen1 {a : Arr} {L K : Nat} {f : Int} (hL : L ≤ 2048) (hK : K ≤ 2049) (hf : -5000 ≤ f ∧ f ≤ 5000) : seenS a [(L : Int)] [f] [(K : Int)] K = (List.range K).map (fun (i : Nat) => if 0 ≤ (i : Int) + f ∧ (i : Int) + f < (L : Int) then a.cells.getD ((i : Int) + f).toNat (fillC a) else fillC a) := by
  unfold seenS
  refine List.map_congr_left (fun i hi => ?_)
  have hi := List.mem_range.1 hi
  have e1 : atS [(K : Int)] (i : Int) = [(i : Int)] := by
    show [Int.tmod (i : Int) (K : Int)] = _
    rw [Int.tmod_eq_of_lt (by omega) (by omega)]
  have e2 : addW [(i : Int)] [f] = [(i : Int) + f] := by
    show [IntKind.wrap .i64 ((i : Int) + f)] = _
    rw [wrap64 (by omega) (by omega)]
  unfold seenC
  rw [e1, e2]
  unfold idxS
  rw [if_pos ⟨by rw [countS_cases1 hL], rfl⟩]
  simp only [idxW]
  have w : IntKind.wrap .i64 (IntKind.wrap .i64 (0 * (L : Int)) + ((i : Int) + f)) = (i : Int) + f := by rw [Int.zero_mul, show IntKind.wrap .i64 0 = 0 by decide, Int.zero_add, wrap64 (by omega) (by omega)]
  by_cases hc : 0 ≤ (i : Int) + f ∧ (i : Int) + f < (L : Int)
  · rw [if_neg (by omega), if_pos hc]
    simp only [w]
  · rw [if_pos (by omega), if_neg hc]
theorem greatS_of {k : Int} (h : -2048 ≤ k ∧ k ≤ 2048) : greatS k = (k.natAbs : Int) := by
  unfold greatS
  rw [if_neg (by omega), if_neg (by omega)]
  split <;> omega
theorem axes1 {k : Int} (h : inR k) {a : Arr} {L : Nat} (ha : a.shape = [(L : Int)]) : axesS (aloneA k 0) a = ([k], [(L : Int)], 0) := by
  unfold axesS
  rw [ints_alone h, ha]
  rfl
theorem take1 {k : Int} (h : -2048 ≤ k ∧ k ≤ 2048) {a : Arr} {L : Nat} (ha : a.shape = [(L : Int)]) (hL : L ≤ 2048) :
    takeA (aloneA k 0) a = (.mk a.s [(k.natAbs : Int)] ((List.range k.natAbs).map (fun (i : Nat) => if 0 ≤ (i : Int) + (if k < 0 then (L : Int) - (k.natAbs : Int) else 0) ∧ (i : Int) + (if k < 0 then (L : Int) - (k.natAbs : Int) else 0) < (L : Int) then a.cells.getD ((i : Int) + (if k < 0 then (L : Int) - (k.natAbs : Int) else 0)).toNat (fillC a) else fillC a)), 0) := by
  unfold takeA
  rw [axes1 (inR_small (by omega) (by omega)) ha]
  simp only [if_true, fromT, sizeT, List.length_nil, List.replicate_zero, greatS_of h]
  unfold cutS
  rw [countS_cases1 (show k.natAbs ≤ 2048 by omega), tot_alone]
  simp only [if_true, Int.toNat_natCast]
  rw [show a.s ||| (0 : Lab) = a.s by simp, seen1 hL (by omega) (by split <;> omega)]
theorem drop1 {k : Int} (h : 0 ≤ k ∧ k ≤ 2048) {a : Arr} {L : Nat} (ha : a.shape = [(L : Int)]) (hL : L ≤ 2048) (hk : k ≤ (L : Int)) :
    dropA (aloneA k 0) a = (.mk a.s [((L - k.toNat : Nat) : Int)] ((List.range (L - k.toNat)).map (fun (i : Nat) => if 0 ≤ (i : Int) + k ∧ (i : Int) + k < (L : Int) then a.cells.getD ((i : Int) + k).toNat (fillC a) else fillC a)), 0) := by
  have hg := greatS_of (k := k) (by omega)
  have ho : offS k (L : Int) = k := by unfold offS; rw [hg]; split <;> omega
  have e1 : (L : Int) - k = ((L - k.toNat : Nat) : Int) := by omega
  have e2 : (if 0 < k then k else 0) = k := by split <;> omega
  unfold dropA
  rw [axes1 (inR_small (by omega) (by omega)) ha]
  simp only [if_true, fromD, sizeD, List.length_nil, List.replicate_zero, ho, e1, e2]
  unfold cutS
  rw [countS_cases1 (show L - k.toNat ≤ 2048 by omega), tot_alone]
  simp only [if_true, Int.toNat_natCast]
  rw [show a.s ||| (0 : Lab) = a.s by simp, seen1 hL (by omega) (by omega)]
theorem range_take {l : List Cell} {z : Cell} {K : Nat} (h : K ≤ l.length) : (List.range K).map (fun i => l.getD i z) = l.take K := by
  apply List.ext_getElem
  · simp; omega
  · intro i h1 h2
    simp at h1
    simp [List.getD_eq_getElem?_getD, List.getElem?_eq_getElem (show i < l.length by omega)]
theorem range_drop {l : List Cell} {z : Cell} {K : Nat} (h : K ≤ l.length) : (List.range (l.length - K)).map (fun i => l.getD (i + K) z) = l.drop K := by
  apply List.ext_getElem
  · simp
  · intro i h1 h2
    simp at h1
    simp only [List.getElem_map, List.getElem_range, List.getElem_drop, List.getD_eq_getElem?_getD]
    rw [Nat.add_comm, List.getElem?_eq_getElem (show K + i < l.length by omega)]; rfl
theorem take1_front {k : Nat} {a : Arr} (ha : a.shape = [(a.cells.length : Int)]) (hL : a.cells.length ≤ 2048) (hk : k ≤ a.cells.length) : takeA (aloneA (k : Int) 0) a = (.mk a.s [(k : Int)] (a.cells.take k), 0) := by
  rw [take1 (by omega) ha hL, Int.natAbs_natCast, ← range_take (z := fillC a) hk]
  congr 2
  refine List.map_congr_left (fun i hi => ?_)
  have hi := List.mem_range.1 hi
  rw [if_neg (show ¬ (k : Int) < 0 by omega), if_pos (by omega)]
  simp
theorem drop1_front {k : Nat} {a : Arr} (ha : a.shape = [(a.cells.length : Int)]) (hL : a.cells.length ≤ 2048) (hk : k ≤ a.cells.length) : dropA (aloneA (k : Int) 0) a = (.mk a.s [((a.cells.length - k : Nat) : Int)] (a.cells.drop k), 0) := by
  rw [drop1 (by omega) ha hL (by omega), Int.toNat_natCast, ← range_drop (z := fillC a) hk]
  congr 2
  refine List.map_congr_left (fun i hi => ?_)
  have hi := List.mem_range.1 hi
  rw [if_pos (by omega)]
  congr 1
theorem take1_back {k : Nat} {a : Arr} (ha : a.shape = [(a.cells.length : Int)]) (hL : a.cells.length ≤ 2048) (hk : k ≤ a.cells.length) : takeA (aloneA ((k : Int) - (a.cells.length : Int)) 0) a = (.mk a.s [((a.cells.length - k : Nat) : Int)] (a.cells.drop k), 0) := by
  rw [take1 (by omega) ha hL, show ((k : Int) - (a.cells.length : Int)).natAbs = a.cells.length - k by omega, ← range_drop (z := fillC a) hk]
  congr 2
  refine List.map_congr_left (fun i hi => ?_)
  have hi := List.mem_range.1 hi
  by_cases hz : (k : Int) - (a.cells.length : Int) < 0
  · rw [if_pos hz, if_pos (by omega)]
    congr 1
    omega
  · omega
def heavyL : List Int → Int → Bool
  | [], _ => false
  | x :: xs, m =>
    if 2048 < x then false else if x < -2048 then false
    else if x < 0 then (if 0 < IntKind.wrap .i64 (0 - x) then (if 300 < IntKind.wrap .i64 (m * IntKind.wrap .i64 (0 - x)) then decide (IntKind.wrap .i64 (m * IntKind.wrap .i64 (0 - x)) ≤ 5000) else heavyL xs (IntKind.wrap .i64 (m * IntKind.wrap .i64 (0 - x)))) else (if 300 < m then decide (m ≤ 5000) else heavyL xs m))
    else (if 0 < x then (if 300 < IntKind.wrap .i64 (m * x) then decide (IntKind.wrap .i64 (m * x) ≤ 5000) else heavyL xs (IntKind.wrap .i64 (m * x))) else (if 300 < m then decide (m ≤ 5000) else heavyL xs m))
theorem law13_heavy_sp (n : Arr) (hnl : n.cells.length ≤ 2048) (hnt : ∀ c ∈ n.cells, c.n.top.length ≤ 32) : Sp 29 [dA n] [.bool (heavyL (intsA n).1 1)] := by
  refine sound_ ((intsA n).1.length + 1) (law13_heavy_tree _ _) (wp_call (ref08_Ints_sp n hnl hnt) ?_)
  have hlen : (intsA n).1.length ≤ 2048 := by
    unfold intsA
    split
    · simp
    · split
      · rename_i l hl; have := (intsCs_inR hl).1; simp only; omega
      · simp
  generalize (intsA n).1 = l at *
  rw [getD_c0]
  have key := loop_list (P := Try.prog) (md := md) l (fun m k (p : Int) => law13_heavy_l4 (l.length + 1) m (dI l) p (k : Int)) (fun rest p => [.bool (heavyL rest p)]) (fun _ _ => True)
    (fun m k p hk _ => by
      simp only [law13_heavy_l4_succ, els_dI, List.length_map]
      exact wp_ndec (by omega) (wp_ret rfl))
    (fun m k p x rest hd _ ih => by
      obtain ⟨h1, h2, h3⟩ := drop_cons hd
      simp only [law13_heavy_l4_succ, els_dI, List.length_map, Int.toNat_natCast, getD_map h2, toInt_int, wrap_succ (show k < 9223372036854775807 by omega)]
      refine wp_dec (by omega) (wp_dec (by omega) (wp_dec (by omega) ?_))
      unfold heavyL
      refine wp_decs (fun g => wp_ret (by rw [if_pos g])) (fun g => ?_)
      rw [if_neg g]
      refine wp_decs (fun g => wp_ret (by rw [if_pos g])) (fun g => ?_)
      rw [if_neg g]
      refine wp_decs (fun g => ?_) (fun g => ?_)
      · rw [if_pos g]
        refine wp_decs (fun g => ?_) (fun g => ?_)
        · rw [if_pos g]
          exact wp_decs (fun g => wp_ret (by rw [if_pos g])) (fun g => by rw [if_neg g]; exact ih _ trivial)
        · rw [if_neg g]
          exact wp_decs (fun g => wp_ret (by rw [if_pos g])) (fun g => by rw [if_neg g]; exact ih _ trivial)
      · rw [if_neg g]
        refine wp_decs (fun g => ?_) (fun g => ?_)
        · rw [if_pos g]
          exact wp_decs (fun g => wp_ret (by rw [if_pos g])) (fun g => by rw [if_neg g]; exact ih _ trivial)
        · rw [if_neg g]
          exact wp_decs (fun g => wp_ret (by rw [if_pos g])) (fun g => by rw [if_neg g]; exact ih _ trivial))
    (l.length + 1) 0 1 (by omega) (by omega) trivial
  exact key
def lightA (a : Arr) : Bool := goodA a && decide ((a.cells.length : Int) ≤ 100)
theorem law13_light_sp (a : Arr) (ha : Fits a) : Sp 28 [dA a] [.bool (lightA a)] := by
  refine sound_ 0 (law13_light_tree _ _) (wp_call (ref08_Good_sp a ha) ?_)
  unfold lightA
  simp only [dA_0, dA_1, dA_2, dC_0, dC_1, dC_2, dC_3, dC_4, dN_0, dN_1, dN_2, els_sl, els_dI, els_dL, List.length_map, Int.toNat_natCast, toInt_int, toInt_dB, toBool_bool, getD_c0, getD_c1, int_beq, int_bne, not_dec, dInt_dB, Int.toNat_zero]
  refine wp_br (fun h => wp_ret (by rw [h]; rfl)) (fun h => wp_ret (by rw [h]; rfl))
theorem fits_aloneA {k : Int} (h : inR k) : Fits (aloneA k 0) := Fits.of (by simp [aloneA]) (by simp [aloneA]) (by simp [aloneA]) (fun c hc => by simp [aloneA] at hc; subst hc; exact fitsC_int h)
theorem top_aloneA {k : Int} (h : inR k) : ∀ c ∈ (aloneA k 0).cells, c.n.top.length ≤ 32 := fun c hc => by simp [aloneA] at hc; subst hc; exact (rightN_len (rightN_ofZ h)).1
theorem take_alone_sp (k : Int) (a : Arr) (h : inR k) (ha : countS a.shape = ((a.cells.length : Int), 0)) : Sp 31 [dA (aloneA k 0), dA a] [dA (takeA (aloneA k 0) a).1, .int (takeA (aloneA k 0) a).2] := cut_Take_sp _ a (fits_aloneA h) (by simp [aloneA]) (top_aloneA h) ha
theorem drop_alone_sp (k : Int) (a : Arr) (h : inR k) (ha : countS a.shape = ((a.cells.length : Int), 0)) : Sp 32 [dA (aloneA k 0), dA a] [dA (dropA (aloneA k 0) a).1, .int (dropA (aloneA k 0) a).2] := cut_Drop_sp _ a (fits_aloneA h) (by simp [aloneA]) (top_aloneA h) ha
theorem same_vec_sp (l m : List Int) (h : l.all (fun x => decide (-100000 ≤ x ∧ x ≤ 100000)) = true) (hl : l.length ≤ 100) (e : vecA l 0 = vecA m 0) : Sp 15 [dA (vecA l 0), dA (vecA m 0)] [.bool true] := by
  have := ref08_Same_sp (vecA l 0) (fits_vec (by omega) (aw_in l h)) (vecA m 0)
  rw [show eqA (vecA l 0) (vecA m 0) = true from eqA_iff.2 e] at this
  exact this
theorem law13_awake_sp : Sp 30 [] [.bool true] := by
  have c3 : countS (vecA [1, 2, 3] 0).shape = (((vecA [1, 2, 3] 0).cells.length : Int), 0) := by decide
  have hs : (vecA [1, 2, 3] 0).shape = [((3 : Nat) : Int)] := rfl
  have i5 : inR 5 := inR_small (by decide) (by decide)
  have i2 : inR (-2) := inR_small (by decide) (by decide)
  have i2' : inR 2 := inR_small (by decide) (by decide)
  have t1 := take_alone_sp 5 _ i5 c3
  have t2 := take_alone_sp (-2) _ i2 c3
  have t3 := drop_alone_sp 2 _ i2' c3
  rw [show takeA (aloneA 5 0) (vecA [1, 2, 3] 0) = (vecA [1, 2, 3, 0, 0] 0, 0) from (take1 (k := 5) (by decide) hs (by decide)).trans rfl] at t1
  rw [show takeA (aloneA (-2) 0) (vecA [1, 2, 3] 0) = (vecA [2, 3] 0, 0) from (take1 (k := -2) (by decide) hs (by decide)).trans rfl] at t2
  rw [show dropA (aloneA 2 0) (vecA [1, 2, 3] 0) = (vecA [3] 0, 0) from (drop1 (k := 2) (by decide) hs (by decide) (by decide)).trans rfl] at t3
  refine sound_ 0 (law13_awake_tree _) ?_
  refine wp_call (ref11_Vector_sp [1, 2, 3] 0 (by decide) (aw_in _ (by decide))) (wp_call (ref11_Alone_sp 5 0 i5) (wp_call t1 (wp_call (ref11_Alone_sp (-2) 0 i2) (wp_call t2 (wp_call (ref11_Alone_sp 2 0 i2') (wp_call t3 ?_))))))
  refine wp_tt rfl (wp_tt rfl (wp_tt rfl ?_))
  refine wp_call (ref11_Vector_sp [1, 2, 3, 0, 0] 0 (by decide) (aw_in _ (by decide))) (wp_call (same_vec_sp [1, 2, 3, 0, 0] _ (by decide) (by decide) rfl) (wp_tt rfl ?_))
  refine wp_call (ref11_Vector_sp [2, 3] 0 (by decide) (aw_in _ (by decide))) (wp_call (same_vec_sp [2, 3] _ (by decide) (by decide) rfl) (wp_tt rfl ?_))
  exact wp_call (ref11_Vector_sp [3] 0 (by decide) (aw_in _ (by decide))) (wp_call (same_vec_sp [3] _ (by decide) (by decide) rfl) (wp_ret rfl))
theorem awake13 : Tw (.call 30 [] [] fun y => .ret [D.bool ((y.getD 0 D.nil).toBool)]) [.bool true] := wp_call law13_awake_sp (wp_ret rfl)
theorem light_good {a : Arr} (h : lightA a = true) : rightA 8 a = true ∧ a.cells.length ≤ 100 := by
  unfold lightA at h
  simp only [Bool.and_eq_true, decide_eq_true_eq] at h
  exact ⟨goodA_right h.1, by omega⟩
theorem cutBlind_sp (n m a b : Arr) (o : Lab) (hn : Fits n) (hm : Fits m) (ha : Fits a) (hb : Fits b) : Sp 7 [dA n, dA m, dA a, dA b, dB o] [.bool true] := by
  refine sound_ 0 (law13_CutBlind_tree _ _ _ _ _ _) (wp_call (law13_light_sp n hn) (wp_br (fun _ => awake13) (fun e1 => wp_call (law13_light_sp m hm) (wp_br (fun _ => awake13) (fun e2 => wp_call (law13_light_sp a ha) (wp_br (fun _ => awake13) (fun e3 => wp_call (law13_light_sp b hb) (wp_br (fun _ => awake13) (fun e4 => ?_)))))))))
  have g1 := (light_good (by simpa using e1)).1
  have g2 := (light_good (by simpa using e2)).1
  have g3 := (light_good (by simpa using e3)).1
  have g4 := (light_good (by simpa using e4)).1
  have l1 := rightA_len g1
  have l2 := rightA_len g2
  refine wp_call (law13_heavy_sp n l1.1 (rightA_top g1)) (wp_br (fun _ => awake13) (fun _ => wp_call (law13_heavy_sp m l2.1 (rightA_top g2)) (wp_br (fun _ => awake13) (fun _ => ?_))))
  simp only [toInt_dB, dInt_dB]
  refine wp_call (ref09_Alike_sp o 9 n m (rightA_sml g1)) (wp_br (fun _ => awake13) (fun e5 => wp_call (ref09_Alike_sp o 9 a b (rightA_sml g3)) (wp_br (fun _ => awake13) (fun e6 => ?_))))
  have h1 : hidA o n = hidA o m := alk_iff.1 (by simpa using e5)
  have h2 : hidA o a = hidA o b := alk_iff.1 (by simpa using e6)
  have q1 := take_alike h1 h2
  have q2 := drop_alike h1 h2
  have t1 : (takeA n a).2 = 0 → Sml 9 (takeA n a).1 := fun h => rightA_sml (takeA_right g3 h)
  have t2 : (dropA n a).2 = 0 → Sml 9 (dropA n a).1 := fun h => rightA_sml (dropA_right g3 h)
  have p1 := cut_Take_sp n a hn l1.1 (rightA_top g1) (rightA_cells g3).1
  have p2 := cut_Take_sp m b hm l2.1 (rightA_top g2) (rightA_cells g4).1
  have p3 := cut_Drop_sp n a hn l1.1 (rightA_top g1) (rightA_cells g3).1
  have p4 := cut_Drop_sp m b hm l2.1 (rightA_top g2) (rightA_cells g4).1
  generalize takeA n a = x1 at *
  generalize takeA m b = x2 at *
  generalize dropA n a = y1 at *
  generalize dropA m b = y2 at *
  refine wp_call p1 (wp_call p2 ?_)
  simp only [getD_c0, getD_c1, toInt_int, int_beq, int_bne]
  refine wp_decs (fun hx => wp_decs (fun hy => wp_call (alike_sp (t1 hx) (q1 hx hy)) (wp_ff rfl ?_)) (fun _ => ?_)) (fun _ => ?_)
  all_goals refine wp_call p3 (wp_call p4 ?_)
  all_goals simp only [getD_c0, getD_c1, toInt_int]
  all_goals exact wp_decs (fun _ => awake13) (fun hx => wp_decs (fun _ => awake13) (fun hy => wp_call (alike_sp (t2 (Classical.not_not.1 hx)) (q2 (Classical.not_not.1 hx) (Classical.not_not.1 hy))) (wp_tt rfl awake13)))
def u8Ts : List Nat := [5]
theorem u8Ts_plain : plainTs Try.prog u8Ts = true := by kernel_rfl
section
open Go.ChangeShapes Go.WideShapes Go.ChangeAt Go.RowKit
variable {H : Type} {enc : TypeId × Value → H} {W : World} {sp : Nat → Bool} {held : Bool} {r : Reach} {b0 : Nat} {v : Value} {d : DataW H} {ps : List MemPlace}
theorem arg_u8 (hval : Value.okWide Try.prog W r b0 5 v) (h : DataW.Trod enc Try.prog W 0 sp held 5 v d ps) : ∃ a : Int, (0 ≤ a ∧ a ≤ 255) ∧ Rd Try.prog md W (fun _ => False) (.ty 5) (.int a) v := by
  obtain ⟨y, hy, _⟩ := arg_rd (md := md) wfP u8Ts_plain (by decide) hval h
  obtain ⟨a, rfl, h1, h2⟩ := rd_int hy.rd (k := .u8) (by kernel_rfl)
  exact ⟨a, ⟨h1, h2⟩, hy⟩
end
theorem cutWhole_sp (a : Arr) (nn : Int) (ha : Fits a) (h0 : 0 ≤ nn ∧ nn ≤ 255) : Sp 9 [dA a, .int nn] [.bool true] := by
  refine sound_ 0 (law13_CutWhole_tree _ _ _) (wp_call (law13_light_sp a ha) (wp_br (fun _ => awake13) (fun e1 => ?_)))
  obtain ⟨g1, g2⟩ := light_good (a := a) (by simpa using e1)
  obtain ⟨N, rfl⟩ : ∃ N : Nat, nn = (N : Int) := ⟨nn.toNat, by omega⟩
  simp only [dA_0, dA_1, dA_2, dC_0, dC_1, dC_2, dC_3, dC_4, dN_0, dN_1, dN_2, els_sl, els_dI, els_dL, List.length_map, Int.toNat_natCast, toInt_int, toInt_dB, toBool_bool, getD_c0, getD_c1, int_beq, int_bne, not_dec, dInt_dB, Int.toNat_zero]
  refine wp_decs (fun _ => awake13) (fun hs => ?_)
  have hcs := (rightA_cells g1).1
  have hsh : a.shape = [(a.cells.length : Int)] := by
    obtain ⟨x, hx⟩ := len_one (l := a.shape) (by omega)
    have hr := (rightA_len g1).2.2 x (by rw [hx]; simp)
    rw [hx] at hcs ⊢
    obtain ⟨X, rfl⟩ : ∃ X : Nat, x = (X : Int) := ⟨x.toNat, by omega⟩
    rw [countS_cases1 (by omega)] at hcs
    injection hcs with h1
    rw [h1]
  generalize hL : a.cells.length = L at *
  have w1 : IntKind.wrap .i64 ((L : Int) + 1) = ((L + 1 : Nat) : Int) := by rw [wrap64 (by omega) (by omega)]; rfl
  have w2 : IntKind.wrap .i64 (N : Int) = (N : Int) := wrap64 (by omega) (by omega)
  have w3 : Int.tmod (N : Int) ((L + 1 : Nat) : Int) = ((N % (L + 1) : Nat) : Int) := rfl
  have hk : N % (L + 1) ≤ L := by have := Nat.mod_lt N (show 0 < L + 1 by omega); omega
  rw [w1, w2, w3]
  generalize N % (L + 1) = K at hk
  have w4 : IntKind.wrap .i64 ((K : Int) - (L : Int)) = (K : Int) - (L : Int) := wrap64 (by omega) (by omega)
  rw [w4]
  refine wp_dec (by omega) ?_
  have iK : inR (K : Int) := inR_small (by omega) (by omega)
  have iL : inR ((K : Int) - (L : Int)) := inR_small (by omega) (by omega)
  have hcs' : countS a.shape = ((a.cells.length : Int), 0) := by rw [hL]; exact hcs
  have p1 := take_alone_sp (K : Int) a iK hcs'
  have p2 := drop_alone_sp (K : Int) a iK hcs'
  have p3 := take_alone_sp ((K : Int) - (L : Int)) a iL hcs'
  have hsh' : a.shape = [(a.cells.length : Int)] := by rw [hL]; exact hsh
  have e1 := take1_front (k := K) hsh' (by omega) (by omega)
  have e2 := drop1_front (k := K) hsh' (by omega) (by omega)
  have e3 := take1_back (k := K) hsh' (by omega) (by omega)
  rw [hL] at e2 e3
  rw [e1] at p1
  rw [e2] at p2
  rw [e3] at p3
  refine wp_call (ref11_Alone_sp _ 0 iK) (wp_call p1 (wp_call (ref11_Alone_sp _ 0 iK) (wp_call p2 ?_)))
  have jn := join_Catenate1_sp (.mk a.s [(K : Int)] (a.cells.take K)) (.mk a.s [((L - K : Nat) : Int)] (a.cells.drop K)) (by simp only [Arr.shape_mk, Arr.cells_mk, List.length_take]; congr 2; omega) (by simp only [Arr.shape_mk, Arr.cells_mk, List.length_drop, hL]) (by simp only [Arr.cells_mk, List.length_take, List.length_drop]; omega)
  have ej : Arr.mk ((Arr.mk a.s [(K : Int)] (a.cells.take K)).s ||| (Arr.mk a.s [((L - K : Nat) : Int)] (a.cells.drop K)).s) [(((Arr.mk a.s [(K : Int)] (a.cells.take K)).cells.length + (Arr.mk a.s [((L - K : Nat) : Int)] (a.cells.drop K)).cells.length : Nat) : Int)] ((Arr.mk a.s [(K : Int)] (a.cells.take K)).cells ++ (Arr.mk a.s [((L - K : Nat) : Int)] (a.cells.drop K)).cells) = a := by
    simp only [Arr.s_mk, Arr.cells_mk, BitVec.or_self, List.take_append_drop, List.length_take, List.length_drop]
    rw [show min K a.cells.length + (a.cells.length - K) = L by omega, ← hsh]
    exact (Arr.eta a).symm
  rw [ej] at jn
  refine wp_call jn (wp_call (ref11_Alone_sp _ 0 iL) (wp_call p3 (wp_tt rfl (wp_tt rfl (wp_tt rfl (wp_tt rfl ?_))))))
  have sd : Sml 9 (.mk a.s [((L - K : Nat) : Int)] (a.cells.drop K)) := by
    have s1 := rightA_sml g1
    refine Sml.of (by simp) (by show (a.cells.drop K).length ≤ 1048576; rw [List.length_drop]; omega) (fun x hx => by simp at hx; subst hx; exact inR_small (by omega) (by omega)) (fun c hc => s1.cell c (List.mem_of_mem_drop hc))
  have sm := array_Match_sp (.mk a.s [((L - K : Nat) : Int)] (a.cells.drop K)) (.mk a.s [((L - K : Nat) : Int)] (a.cells.drop K)) sd
  have em : matA (.mk a.s [((L - K : Nat) : Int)] (a.cells.drop K)) (.mk a.s [((L - K : Nat) : Int)] (a.cells.drop K)) = true := eqA_self _
  rw [em] at sm
  have ss := ref08_Same_sp a ha a
  rw [eqA_self] at ss
  exact wp_call ss (wp_tt rfl (wp_call sm (wp_tt rfl awake13)))
end Go.Proofs.Ytcgfpibkajagjaa
set_option maxRecDepth 100000
namespace Go.Proofs.Ytcgfpibkajagjaa
/-! scrim/find.Index -/
def find_Index_orc : List (Nat × Orc) := [(7, ⟨[(2, none), (3, none), (4, none), (5, none), (6, some 56), (7, none), (25, some 24), (26, none), (27, none)], [(2, true), (3, true), (4, false), (5, false)], [(.slot 7, 1070, 52)]⟩)]
def find_Index_ps : List Nat := [26, 26]
def find_Index_rs : List ResultVar := [.cell 4 26, .cell 5 29]
def find_Index_ts : List Nat := [26, 29]
noncomputable def find_Index_l7 (n m7 : Nat) (place6 : D) (cells7 : List D) (t25 : D) (t26 : Int) (t27 : Int) (a2 : D) (b3 : D) (r4_0 : Int) (e5 : Int) : Tree :=
  evLoop Try.prog md (ev Try.prog md n find_Index_orc (cAt (bodyOf Try.prog 12) [1, 1, 1, 1, 1, 0, 1, 0, 0])) (orcAt find_Index_orc 7) m7 ⟨[.undef, .undef, .ptr 2 [], .ptr 3 [], .ptr 4 [], .ptr 5 [], .d 56 place6, .row 1070, .undef, .undef, .undef, .undef, .undef, .undef, .undef, .undef, .undef, .undef, .undef, .undef, .undef, .undef, .undef, .undef, .undef, .d 24 t25, .i .i64 t26, .i .i64 t27, .undef, .undef, .undef, .undef, .undef, .undef, .undef, .undef, .undef, .undef, .undef, .undef, .undef, .undef, .undef, .undef, .undef, .undef, .undef, .undef, .undef, .undef, .undef, .undef, .undef, .undef], [(2, .var 26 (.d 26 a2) true), (3, .var 26 (.d 26 b3) true), (4, .var 26 (.agg 26 [.i .u64 r4_0, .mt, .mt]) true), (5, .var 29 (.i .i64 e5) true), (1070, .row 52 cells7 true)], [2, 3, 4, 5, 1070], [(39, [.ptr 4 [], .ptr 5 []])], []⟩
   (blockK 0 (seqK (joinE Try.prog md (joinAt find_Index_orc (cAt (bodyOf Try.prog 12) [1, 1, 1, 1, 1, 1])) (ev Try.prog md n find_Index_orc (cAt (bodyOf Try.prog 12) [1, 1, 1, 1, 1, 1]))) (retK Try.prog md (md 12) find_Index_ps find_Index_rs find_Index_ts)))
theorem find_Index_l7_succ_find_finder_1 (n m7 : Nat) (place6_c0 : D) (place6_c1 : D) (cells7 : List D) (t25 : D) (t26 : Int) (t27 : Int) (a2 : D) (b3 : D) (r4_0 : Int) (e5 : Int) : find_Index_l7 n (m7 + 1) (D.fn 83 [.ref 98, .ref 24] [place6_c0, place6_c1]) cells7 t25 t26 t27 a2 b3 r4_0 e5 =
 .br (decide (t27 < t26)) (.br (decide (0 ≤ t27)) (.br (decide (t27 < (t25.els.length : Int))) (.call (D.fn 83 [.ref 98, .ref 24] [place6_c0, place6_c1]).fnId (D.fn 83 [.ref 98, .ref 24] [place6_c0, place6_c1]).fnCts ([t25.els.getD (Int.toNat t27) D.nil] ++ (D.fn 83 [.ref 98, .ref 24] [place6_c0, place6_c1]).fnDs) fun yy2 =>
 .br (decide (((yy2.getD 0 D.nil).toInt) < 0)) (.call 41 [] [D.int (IntKind.wrap .i64 ((((a2.fld 2).els).length : Int) + 1))] fun yy3 =>
 .br (decide (0 ≤ t27)) (.br (decide (t27 < (cells7.length : Int))) (find_Index_l7 n m7 (D.fn 83 [.ref 98, .ref 24] [place6_c0, place6_c1]) (cells7.set (Int.toNat t27) (yy3.getD 0 D.nil)) t25 t26 (IntKind.wrap .i64 (t27 + 1)) a2 b3 r4_0 e5) .fail) .fail)
 (.call 41 [] [D.int (IntKind.wrap .i64 (((yy2.getD 0 D.nil).toInt) + 1))] fun yy4 =>
 .br (decide (0 ≤ t27)) (.br (decide (t27 < (cells7.length : Int))) (find_Index_l7 n m7 (D.fn 83 [.ref 98, .ref 24] [place6_c0, place6_c1]) (cells7.set (Int.toNat t27) (yy4.getD 0 D.nil)) t25 t26 (IntKind.wrap .i64 (t27 + 1)) a2 b3 r4_0 e5) .fail) .fail)) .fail) .fail)
 (.call 43 [] [a2, b3] fun yy5 =>
 .call 42 [] [D.int ((yy5.getD 0 D.nil).toInt), b3.fld 1, D.sl cells7] fun yy6 =>
 .ret [yy6.getD 0 D.nil, D.int 0]) := by kernel_rfl
theorem find_Index_tree (n : Nat) (a0 : D) (b1 : D) : evFun Try.prog md find_Index_orc n 12 [] [a0, b1] =
 .br ((((a0.fld 1).els).length : Int) != 1) (.ret [D.agg [D.int 0, D.sl [], D.sl []], D.int 5])
 (.call 40 [] [a0.fld 2] fun yy1 =>
 .br (decide (0 ≤ (((b1.fld 2).els).length : Int))) (.br (decide ((((b1.fld 2).els).length : Int) ≤ (((b1.fld 2).els).length : Int))) (.br (decide ((((b1.fld 2).els).length : Int) ≤ bigN)) (find_Index_l7 n n (yy1.getD 0 D.nil) (List.replicate (Int.toNat (((b1.fld 2).els).length : Int)) (D.agg [D.int 0, D.int 0, D.agg [D.bool false, D.sl [], D.sl []], D.int 0, D.sl []])) (b1.fld 2) (((b1.fld 2).els).length : Int) 0 a0 b1 0 0) .fail) .fail) .fail) := by kernel_rfl

/-! scrim/find.Member -/
def find_Member_orc : List (Nat × Orc) := [(5, ⟨[(2, none), (3, none), (4, none), (5, some 56), (6, none), (19, some 24), (20, none), (21, none)], [(2, true), (3, true), (4, false)], [(.slot 6, 1050, 52)]⟩)]
def find_Member_ps : List Nat := [26, 26]
def find_Member_rs : List ResultVar := [.cell 4 26]
def find_Member_ts : List Nat := [26]
noncomputable def find_Member_l5 (n m5 : Nat) (place5 : D) (cells6 : List D) (t19 : D) (t20 : Int) (t21 : Int) (a2 : D) (b3 : D) (r4_0 : Int) : Tree :=
  evLoop Try.prog md (ev Try.prog md n find_Member_orc (cAt (bodyOf Try.prog 16) [1, 1, 1, 1, 0, 1, 0, 0])) (orcAt find_Member_orc 5) m5 ⟨[.undef, .undef, .ptr 2 [], .ptr 3 [], .ptr 4 [], .d 56 place5, .row 1050, .undef, .undef, .undef, .undef, .undef, .undef, .undef, .undef, .undef, .undef, .undef, .undef, .d 24 t19, .i .i64 t20, .i .i64 t21, .undef, .undef, .undef, .undef, .undef, .undef, .undef, .undef, .undef, .undef, .undef, .undef, .undef, .undef, .undef, .undef, .undef, .undef, .undef, .undef, .undef], [(2, .var 26 (.d 26 a2) true), (3, .var 26 (.d 26 b3) true), (4, .var 26 (.agg 26 [.i .u64 r4_0, .mt, .mt]) true), (1050, .row 52 cells6 true)], [2, 3, 4, 1050], [(49, [.ptr 4 []])], []⟩
   (blockK 0 (seqK (joinE Try.prog md (joinAt find_Member_orc (cAt (bodyOf Try.prog 16) [1, 1, 1, 1, 1])) (ev Try.prog md n find_Member_orc (cAt (bodyOf Try.prog 16) [1, 1, 1, 1, 1]))) (retK Try.prog md (md 16) find_Member_ps find_Member_rs find_Member_ts)))
theorem find_Member_l5_succ_find_finder_1 (n m5 : Nat) (place5_c0 : D) (place5_c1 : D) (cells6 : List D) (t19 : D) (t20 : Int) (t21 : Int) (a2 : D) (b3 : D) (r4_0 : Int) : find_Member_l5 n (m5 + 1) (D.fn 83 [.ref 98, .ref 24] [place5_c0, place5_c1]) cells6 t19 t20 t21 a2 b3 r4_0 =
 .br (decide (t21 < t20)) (.br (decide (0 ≤ t21)) (.br (decide (t21 < (t19.els.length : Int))) (.call (D.fn 83 [.ref 98, .ref 24] [place5_c0, place5_c1]).fnId (D.fn 83 [.ref 98, .ref 24] [place5_c0, place5_c1]).fnCts ([t19.els.getD (Int.toNat t21) D.nil] ++ (D.fn 83 [.ref 98, .ref 24] [place5_c0, place5_c1]).fnDs) fun yy2 =>
 .br (decide (0 ≤ ((yy2.getD 0 D.nil).toInt))) (.call 41 [] [D.int 1] fun yy3 =>
 .br (decide (0 ≤ t21)) (.br (decide (t21 < (cells6.length : Int))) (find_Member_l5 n m5 (D.fn 83 [.ref 98, .ref 24] [place5_c0, place5_c1]) (cells6.set (Int.toNat t21) (yy3.getD 0 D.nil)) t19 t20 (IntKind.wrap .i64 (t21 + 1)) a2 b3 r4_0) .fail) .fail)
 (.call 41 [] [D.int 0] fun yy4 =>
 .br (decide (0 ≤ t21)) (.br (decide (t21 < (cells6.length : Int))) (find_Member_l5 n m5 (D.fn 83 [.ref 98, .ref 24] [place5_c0, place5_c1]) (cells6.set (Int.toNat t21) (yy4.getD 0 D.nil)) t19 t20 (IntKind.wrap .i64 (t21 + 1)) a2 b3 r4_0) .fail) .fail)) .fail) .fail)
 (.call 43 [] [a2, b3] fun yy5 =>
 .call 42 [] [D.int ((yy5.getD 0 D.nil).toInt), a2.fld 1, D.sl cells6] fun yy6 =>
 .ret [yy6.getD 0 D.nil]) := by kernel_rfl
theorem find_Member_tree (n : Nat) (a0 : D) (b1 : D) : evFun Try.prog md find_Member_orc n 16 [] [a0, b1] =
 .call 40 [] [b1.fld 2] fun yy1 =>
 .br (decide (0 ≤ (((a0.fld 2).els).length : Int))) (.br (decide ((((a0.fld 2).els).length : Int) ≤ (((a0.fld 2).els).length : Int))) (.br (decide ((((a0.fld 2).els).length : Int) ≤ bigN)) (find_Member_l5 n n (yy1.getD 0 D.nil) (List.replicate (Int.toNat (((a0.fld 2).els).length : Int)) (D.agg [D.int 0, D.int 0, D.agg [D.bool false, D.sl [], D.sl []], D.int 0, D.sl []])) (a0.fld 2) (((a0.fld 2).els).length : Int) 0 a0 b1 0) .fail) .fail) .fail := by kernel_rfl

/-! scrim/find.Unique -/
def find_Unique_orc : List (Nat × Orc) := [(7, ⟨[(1, none), (2, none), (3, none), (4, some 56), (5, none), (19, some 24), (20, none), (21, none)], [(1, true), (2, false), (3, false)], [(.slot 5, 1070, 52)]⟩)]
def find_Unique_ps : List Nat := [26]
def find_Unique_rs : List ResultVar := [.cell 2 26, .cell 3 29]
def find_Unique_ts : List Nat := [26, 29]
noncomputable def find_Unique_l7 (n m7 : Nat) (place4 : D) (cells5 : List D) (t19 : D) (t20 : Int) (t21 : Int) (a1 : D) (r2_0 : Int) (e3 : Int) : Tree :=
  evLoop Try.prog md (ev Try.prog md n find_Unique_orc (cAt (bodyOf Try.prog 18) [1, 1, 1, 1, 1, 0, 1, 0, 0])) (orcAt find_Unique_orc 7) m7 ⟨[.undef, .ptr 1 [], .ptr 2 [], .ptr 3 [], .d 56 place4, .row 1070, .undef, .undef, .undef, .undef, .undef, .undef, .undef, .undef, .undef, .undef, .undef, .undef, .undef, .d 24 t19, .i .i64 t20, .i .i64 t21, .undef, .undef, .undef, .undef, .undef, .undef, .undef, .undef, .undef, .undef, .undef, .undef, .undef, .undef, .undef, .undef, .undef, .undef, .undef], [(1, .var 26 (.d 26 a1) true), (2, .var 26 (.agg 26 [.i .u64 r2_0, .mt, .mt]) true), (3, .var 29 (.i .i64 e3) true), (1070, .row 52 cells5 true)], [1, 2, 3, 1070], [(50, [.ptr 2 [], .ptr 3 []])], []⟩
   (blockK 0 (seqK (joinE Try.prog md (joinAt find_Unique_orc (cAt (bodyOf Try.prog 18) [1, 1, 1, 1, 1, 1])) (ev Try.prog md n find_Unique_orc (cAt (bodyOf Try.prog 18) [1, 1, 1, 1, 1, 1]))) (retK Try.prog md (md 18) find_Unique_ps find_Unique_rs find_Unique_ts)))
theorem find_Unique_l7_succ_find_finder_1 (n m7 : Nat) (place4_c0 : D) (place4_c1 : D) (cells5 : List D) (t19 : D) (t20 : Int) (t21 : Int) (a1 : D) (r2_0 : Int) (e3 : Int) : find_Unique_l7 n (m7 + 1) (D.fn 83 [.ref 98, .ref 24] [place4_c0, place4_c1]) cells5 t19 t20 t21 a1 r2_0 e3 =
 .br (decide (t21 < t20)) (.br (decide (0 ≤ t21)) (.br (decide (t21 < (t19.els.length : Int))) (.call (D.fn 83 [.ref 98, .ref 24] [place4_c0, place4_c1]).fnId (D.fn 83 [.ref 98, .ref 24] [place4_c0, place4_c1]).fnCts ([t19.els.getD (Int.toNat t21) D.nil] ++ (D.fn 83 [.ref 98, .ref 24] [place4_c0, place4_c1]).fnDs) fun yy2 =>
 .br (((yy2.getD 0 D.nil).toInt) == t21) (.br (decide (cells5.length + [t19.els.getD (Int.toNat t21) D.nil].length ≤ bigN)) (find_Unique_l7 n m7 (D.fn 83 [.ref 98, .ref 24] [place4_c0, place4_c1]) (cells5 ++ [t19.els.getD (Int.toNat t21) D.nil]) t19 t20 (IntKind.wrap .i64 (t21 + 1)) a1 r2_0 e3) .fail)
 (find_Unique_l7 n m7 (D.fn 83 [.ref 98, .ref 24] [place4_c0, place4_c1]) cells5 t19 t20 (IntKind.wrap .i64 (t21 + 1)) a1 r2_0 e3)) .fail) .fail)
 (.call 52 [] [D.sl cells5] fun yy3 =>
 .call 53 [] [a1] fun yy4 =>
 .call 51 [] [yy3.getD 0 D.nil, D.int ((yy4.getD 0 D.nil).toInt)] fun yy5 =>
 .ret [yy5.getD 0 D.nil, D.int 0]) := by kernel_rfl
theorem find_Unique_tree (n : Nat) (a0 : D) : evFun Try.prog md find_Unique_orc n 18 [] [a0] =
 .br (decide (1 < (((a0.fld 1).els).length : Int))) (.ret [D.agg [D.int 0, D.sl [], D.sl []], D.int 5])
 (.call 40 [] [a0.fld 2] fun yy1 =>
 find_Unique_l7 n n (yy1.getD 0 D.nil) [] (a0.fld 2) (((a0.fld 2).els).length : Int) 0 a0 0 0) := by kernel_rfl

/-! scrim/find.Those -/
def find_Those_orc : List (Nat × Orc) := []
theorem find_Those_tree (n : Nat) (a0 : D) (b1 : D) (in2 : D) : evFun Try.prog md find_Those_orc n 20 [] [a0, b1, in2] =
 .br (decide (1 < (((a0.fld 1).els).length : Int))) (.ret [D.agg [D.int 0, D.sl [], D.sl []], D.int 5])
 (.call 57 [] [a0.fld 2, b1.fld 2, D.bool in2.toBool] fun yy1 =>
 .call 52 [] [yy1.getD 0 D.nil] fun yy2 =>
 .call 43 [] [a0, b1] fun yy3 =>
 .call 51 [] [yy2.getD 0 D.nil, D.int ((yy3.getD 0 D.nil).toInt)] fun yy4 =>
 .ret [yy4.getD 0 D.nil, D.int 0]) := by kernel_rfl

/-! scrim/find.Union -/
def find_Union_orc : List (Nat × Orc) := []
theorem find_Union_tree (n : Nat) (a0 : D) (b1 : D) : evFun Try.prog md find_Union_orc n 22 [] [a0, b1] =
 .br (decide (1 < (((a0.fld 1).els).length : Int))) (.ret [D.agg [D.int 0, D.sl [], D.sl []], D.int 5])
 (.br (decide (1 < (((b1.fld 1).els).length : Int))) (.ret [D.agg [D.int 0, D.sl [], D.sl []], D.int 5])
 (.call 57 [] [b1.fld 2, a0.fld 2, D.bool false] fun yy1 =>
 .br (decide (2048 < (IntKind.wrap .i64 ((((a0.fld 2).els).length : Int) + (((yy1.getD 0 D.nil).els).length : Int))))) (.ret [D.agg [D.int 0, D.sl [], D.sl []], D.int 7])
 (.br (decide (0 ≤ 0)) (.br (decide (0 ≤ IntKind.wrap .i64 ((((a0.fld 2).els).length : Int) + (((yy1.getD 0 D.nil).els).length : Int)))) (.br (decide (IntKind.wrap .i64 ((((a0.fld 2).els).length : Int) + (((yy1.getD 0 D.nil).els).length : Int)) ≤ bigN)) (.br (decide ((List.replicate (Int.toNat 0) (D.agg [D.int 0, D.int 0, D.agg [D.bool false, D.sl [], D.sl []], D.int 0, D.sl []])).length + ((a0.fld 2).els).length ≤ bigN)) (.br (decide (((List.replicate (Int.toNat 0) (D.agg [D.int 0, D.int 0, D.agg [D.bool false, D.sl [], D.sl []], D.int 0, D.sl []])) ++ ((a0.fld 2).els)).length + ((yy1.getD 0 D.nil).els).length ≤ bigN)) (.call 52 [] [D.sl (((List.replicate (Int.toNat 0) (D.agg [D.int 0, D.int 0, D.agg [D.bool false, D.sl [], D.sl []], D.int 0, D.sl []])) ++ ((a0.fld 2).els)) ++ ((yy1.getD 0 D.nil).els))] fun yy2 =>
 .call 43 [] [a0, b1] fun yy3 =>
 .call 51 [] [yy2.getD 0 D.nil, D.int ((yy3.getD 0 D.nil).toInt)] fun yy4 =>
 .ret [yy4.getD 0 D.nil, D.int 0]) .fail) .fail) .fail) .fail) .fail))) := by kernel_rfl

/-! scrim/find.Iota -/
def find_Iota_orc : List (Nat × Orc) := [(12, ⟨[(1, none), (2, none), (6, none), (39, none), (40, none)], [(1, true), (2, false)], [(.slot 6, 1120, 52)]⟩)]
def find_Iota_ps : List Nat := [26]
def find_Iota_rs : List ResultVar := [.cell 2 26, .tmp 3]
def find_Iota_ts : List Nat := [26, 29]
noncomputable def find_Iota_l12 (n m12 : Nat) (cells6 : List D) (t39 : Int) (t40 : Int) (nn1 : D) (t2_0 : Int) : Tree :=
  evLoop Try.prog md (ev Try.prog md n find_Iota_orc (cAt (bodyOf Try.prog 25) [1, 1, 1, 1, 1, 0, 1, 0, 0])) (orcAt find_Iota_orc 12) m12 ⟨[.undef, .ptr 1 [], .ptr 2 [], .undef, .undef, .undef, .row 1120, .undef, .undef, .undef, .undef, .undef, .undef, .undef, .undef, .undef, .undef, .undef, .undef, .undef, .undef, .undef, .undef, .undef, .undef, .undef, .undef, .undef, .undef, .undef, .undef, .undef, .undef, .undef, .undef, .undef, .undef, .undef, .undef, .i .i64 t39, .i .i64 t40, .undef, .undef, .undef, .undef, .undef, .undef, .undef, .undef, .undef, .undef, .undef, .undef, .undef, .undef], [(1, .var 26 (.d 26 nn1) true), (2, .var 26 (.agg 26 [.i .u64 t2_0, .mt, .mt]) true), (1120, .row 52 cells6 true)], [1, 2, 1120], [], []⟩
   (blockK 1 (seqK (joinE Try.prog md (joinAt find_Iota_orc (cAt (bodyOf Try.prog 25) [1, 1, 1, 1, 1, 1])) (ev Try.prog md n find_Iota_orc (cAt (bodyOf Try.prog 25) [1, 1, 1, 1, 1, 1]))) (retK Try.prog md (md 25) find_Iota_ps find_Iota_rs find_Iota_ts)))
theorem find_Iota_l12_succ (n m12 : Nat) (cells6 : List D) (t39 : Int) (t40 : Int) (nn1 : D) (t2_0 : Int) : find_Iota_l12 n (m12 + 1) cells6 t39 t40 nn1 t2_0 =
 .br (decide (t40 < t39)) (.call 41 [] [D.int (IntKind.wrap .i64 (t40 + 1))] fun yy2 =>
 .br (decide (0 ≤ t40)) (.br (decide (t40 < (cells6.length : Int))) (find_Iota_l12 n m12 (cells6.set (Int.toNat t40) (yy2.getD 0 D.nil)) t39 (IntKind.wrap .i64 (t40 + 1)) nn1 t2_0) .fail) .fail)
 (.call 52 [] [D.sl cells6] fun yy3 =>
 .call 53 [] [nn1] fun yy4 =>
 .call 51 [] [yy3.getD 0 D.nil, D.int ((yy4.getD 0 D.nil).toInt)] fun yy5 =>
 .ret [yy5.getD 0 D.nil, D.int 0]) := by kernel_rfl
theorem find_Iota_tree (n : Nat) (nn0 : D) : evFun Try.prog md find_Iota_orc n 25 [] [nn0] =
 .call 61 [] [nn0] fun yy1 =>
 .br (((yy1.getD 1 D.nil).toInt) != 0) (.ret [D.agg [D.int 0, D.sl [], D.sl []], D.int ((yy1.getD 1 D.nil).toInt)])
 (.br ((((yy1.getD 0 D.nil).els).length : Int) != 1) (.ret [D.agg [D.int 0, D.sl [], D.sl []], D.int 4])
 (.br (decide (0 ≤ 0)) (.br (decide (0 < (((yy1.getD 0 D.nil).els).length : Int))) (.br (decide (((((yy1.getD 0 D.nil).els).getD (Int.toNat 0) D.nil).toInt) < 0)) (.ret [D.agg [D.int 0, D.sl [], D.sl []], D.int 3])
 (.br (decide (0 ≤ 0)) (.br (decide (0 < (((yy1.getD 0 D.nil).els).length : Int))) (.br (decide (2048 < ((((yy1.getD 0 D.nil).els).getD (Int.toNat 0) D.nil).toInt))) (.ret [D.agg [D.int 0, D.sl [], D.sl []], D.int 7])
 (.br (decide (0 ≤ 0)) (.br (decide (0 < (((yy1.getD 0 D.nil).els).length : Int))) (.br (decide (0 ≤ (((yy1.getD 0 D.nil).els).getD (Int.toNat 0) D.nil).toInt)) (.br (decide ((((yy1.getD 0 D.nil).els).getD (Int.toNat 0) D.nil).toInt ≤ (((yy1.getD 0 D.nil).els).getD (Int.toNat 0) D.nil).toInt)) (.br (decide ((((yy1.getD 0 D.nil).els).getD (Int.toNat 0) D.nil).toInt ≤ bigN)) (find_Iota_l12 n n (List.replicate (Int.toNat ((((yy1.getD 0 D.nil).els).getD (Int.toNat 0) D.nil).toInt)) (D.agg [D.int 0, D.int 0, D.agg [D.bool false, D.sl [], D.sl []], D.int 0, D.sl []])) ((List.replicate (Int.toNat ((((yy1.getD 0 D.nil).els).getD (Int.toNat 0) D.nil).toInt)) (D.agg [D.int 0, D.int 0, D.agg [D.bool false, D.sl [], D.sl []], D.int 0, D.sl []])).length : Int) 0 nn0 0) .fail) .fail) .fail) .fail) .fail)) .fail) .fail)) .fail) .fail)) := by kernel_rfl

/-! scrim/find.shaped -/
def find_shaped_orc : List (Nat × Orc) := []
theorem find_shaped_tree (n : Nat) (l0 : D) (s1 : D) (cells2 : D) : evFun Try.prog md find_shaped_orc n 42 [] [l0, s1, cells2] =
 .br (decide (s1.els.length ≤ bigN)) (.ret [D.agg [D.int l0.toInt, D.sl s1.els, cells2]]) .fail := by kernel_rfl

/-! scrim/find.both -/
def find_both_orc : List (Nat × Orc) := []
theorem find_both_tree (n : Nat) (a0 : D) (b1 : D) : evFun Try.prog md find_both_orc n 43 [] [a0, b1] =
 .call 53 [] [a0] fun yy1 =>
 .call 53 [] [b1] fun yy2 =>
 .call 78 [] [D.int ((yy1.getD 0 D.nil).toInt), D.int ((yy2.getD 0 D.nil).toInt)] fun yy3 =>
 .ret [D.int ((yy3.getD 0 D.nil).toInt)] := by kernel_rfl

/-! scrim/find.those -/
def find_those_orc : List (Nat × Orc) := [(4, ⟨[(2, none), (7, some 56), (8, none), (14, some 24), (15, none), (16, none)], [], [(.slot 8, 1040, 52)]⟩)]
def find_those_ps : List Nat := [24, 24, 4]
def find_those_rs : List ResultVar := [.tmp 6]
def find_those_ts : List Nat := [24]
noncomputable def find_those_l4 (n m4 : Nat) (in2 : Bool) (place7 : D) (r8 : List D) (t14 : D) (t15 : Int) (t16 : Int) : Tree :=
  evLoop Try.prog md (ev Try.prog md n find_those_orc (cAt (bodyOf Try.prog 57) [1, 1, 1, 0, 1, 0, 0])) (orcAt find_those_orc 4) m4 ⟨[.undef, .undef, .b in2, .undef, .undef, .undef, .undef, .d 56 place7, .row 1040, .undef, .undef, .undef, .undef, .undef, .d 24 t14, .i .i64 t15, .i .i64 t16, .undef, .undef, .undef, .undef, .undef, .undef, .undef, .undef, .undef, .undef, .undef, .undef, .undef, .undef, .undef], [(1040, .row 52 r8 true)], [1040], [], []⟩
   (blockK 0 (seqK (joinE Try.prog md (joinAt find_those_orc (cAt (bodyOf Try.prog 57) [1, 1, 1, 1])) (ev Try.prog md n find_those_orc (cAt (bodyOf Try.prog 57) [1, 1, 1, 1]))) (retK Try.prog md (md 57) find_those_ps find_those_rs find_those_ts)))
theorem find_those_l4_succ_find_finder_1 (n m4 : Nat) (in2 : Bool) (place7_c0 : D) (place7_c1 : D) (r8 : List D) (t14 : D) (t15 : Int) (t16 : Int) : find_those_l4 n (m4 + 1) in2 (D.fn 83 [.ref 98, .ref 24] [place7_c0, place7_c1]) r8 t14 t15 t16 =
 .br (decide (t16 < t15)) (.br (decide (0 ≤ t16)) (.br (decide (t16 < (t14.els.length : Int))) (.call (D.fn 83 [.ref 98, .ref 24] [place7_c0, place7_c1]).fnId (D.fn 83 [.ref 98, .ref 24] [place7_c0, place7_c1]).fnCts ([t14.els.getD (Int.toNat t16) D.nil] ++ (D.fn 83 [.ref 98, .ref 24] [place7_c0, place7_c1]).fnDs) fun yy2 =>
 .br ((decide (0 ≤ ((yy2.getD 0 D.nil).toInt))) == in2) (.br (decide (r8.length + [t14.els.getD (Int.toNat t16) D.nil].length ≤ bigN)) (find_those_l4 n m4 in2 (D.fn 83 [.ref 98, .ref 24] [place7_c0, place7_c1]) (r8 ++ [t14.els.getD (Int.toNat t16) D.nil]) t14 t15 (IntKind.wrap .i64 (t16 + 1))) .fail)
 (find_those_l4 n m4 in2 (D.fn 83 [.ref 98, .ref 24] [place7_c0, place7_c1]) r8 t14 t15 (IntKind.wrap .i64 (t16 + 1)))) .fail) .fail)
 (.ret [D.sl r8]) := by kernel_rfl
theorem find_those_tree (n : Nat) (l0 : D) (others1 : D) (in2 : D) : evFun Try.prog md find_those_orc n 57 [] [l0, others1, in2] =
 .call 40 [] [others1] fun yy1 =>
 find_those_l4 n n in2.toBool (yy1.getD 0 D.nil) [] l0 (l0.els.length : Int) 0 := by kernel_rfl

/-! scrim/find.mark -/
def find_mark_orc : List (Nat × Orc) := [(5, ⟨[(0, none), (3, none), (31, some 47), (32, none), (33, none)], [(3, true)], []⟩), (10, ⟨[(0, none), (3, none), (44, some 47), (45, none), (46, none)], [(3, true)], []⟩), (15, ⟨[(0, none), (56, some 50), (57, none), (58, none)], [], []⟩), (18, ⟨[(0, none), (10, none), (56, some 50), (57, none), (58, none), (63, some 23), (64, none), (65, none)], [(10, true)], []⟩), (23, ⟨[(0, none), (56, some 50), (57, none), (58, none), (75, some 24), (76, none), (77, none)], [], []⟩)]
def find_mark_ps : List Nat := [22, 52]
def find_mark_rs : List ResultVar := [.tmp 4]
def find_mark_ts : List Nat := [22]
noncomputable def find_mark_l23 (n m15 m23 : Nat) (k0 : Int) (t56 : D) (t57 : Int) (t58 : Int) (t75 : D) (t76 : Int) (t77 : Int) : Tree :=
  evLoop Try.prog md (ev Try.prog md n find_mark_orc (cAt (bodyOf Try.prog 82) [1, 1, 1, 1, 1, 0, 1, 0, 0, 1, 1, 0, 0, 1, 1, 1, 0, 0])) (orcAt find_mark_orc 23) m23 ⟨[.i .u64 k0, .undef, .undef, .undef, .undef, .undef, .undef, .undef, .undef, .undef, .undef, .undef, .undef, .undef, .undef, .undef, .undef, .undef, .undef, .undef, .undef, .undef, .undef, .undef, .undef, .undef, .undef, .undef, .undef, .undef, .undef, .undef, .undef, .undef, .undef, .undef, .undef, .undef, .undef, .undef, .undef, .undef, .undef, .undef, .undef, .undef, .undef, .undef, .undef, .undef, .undef, .undef, .undef, .undef, .undef, .undef, .d 50 t56, .i .i64 t57, .i .i64 t58, .undef, .undef, .undef, .undef, .undef, .undef, .undef, .undef, .undef, .undef, .undef, .undef, .undef, .undef, .undef, .undef, .d 24 t75, .i .i64 t76, .i .i64 t77, .undef, .undef, .undef, .undef, .undef, .undef, .undef, .undef, .undef], [], [], [], []⟩
   (blockK 8 (blockK 5 (seqK (joinE Try.prog md (joinAt find_mark_orc (cAt (bodyOf Try.prog 82) [1, 1, 1, 1, 1, 0, 1, 0, 0, 1, 1, 1])) (ev Try.prog md n find_mark_orc (cAt (bodyOf Try.prog 82) [1, 1, 1, 1, 1, 0, 1, 0, 0, 1, 1, 1]))) (loopK Try.prog md (orcAt find_mark_orc 15) (fun s1 => evLoop Try.prog md (ev Try.prog md n find_mark_orc (cAt (bodyOf Try.prog 82) [1, 1, 1, 1, 1, 0, 1, 0, 0])) (orcAt find_mark_orc 15) m15 s1 (blockK 4 (seqK (joinE Try.prog md (joinAt find_mark_orc (cAt (bodyOf Try.prog 82) [1, 1, 1, 1, 1, 1])) (ev Try.prog md n find_mark_orc (cAt (bodyOf Try.prog 82) [1, 1, 1, 1, 1, 1]))) (retK Try.prog md (md 82) find_mark_ps find_mark_rs find_mark_ts)))) (blockK 4 (seqK (joinE Try.prog md (joinAt find_mark_orc (cAt (bodyOf Try.prog 82) [1, 1, 1, 1, 1, 1])) (ev Try.prog md n find_mark_orc (cAt (bodyOf Try.prog 82) [1, 1, 1, 1, 1, 1]))) (retK Try.prog md (md 82) find_mark_ps find_mark_rs find_mark_ts)))))))
noncomputable def find_mark_l18 (n m15 m18 : Nat) (k0 : Int) (t56 : D) (t57 : Int) (t58 : Int) (t63 : D) (t64 : Int) (t65 : Int) (a10 : D) : Tree :=
  evLoop Try.prog md (ev Try.prog md n find_mark_orc (cAt (bodyOf Try.prog 82) [1, 1, 1, 1, 1, 0, 1, 0, 0, 1, 1, 0, 0, 1, 0, 1, 0, 0])) (orcAt find_mark_orc 18) m18 ⟨[.i .u64 k0, .undef, .undef, .undef, .undef, .undef, .undef, .undef, .undef, .undef, .ptr 10 [], .undef, .undef, .undef, .undef, .undef, .undef, .undef, .undef, .undef, .undef, .undef, .undef, .undef, .undef, .undef, .undef, .undef, .undef, .undef, .undef, .undef, .undef, .undef, .undef, .undef, .undef, .undef, .undef, .undef, .undef, .undef, .undef, .undef, .undef, .undef, .undef, .undef, .undef, .undef, .undef, .undef, .undef, .undef, .undef, .undef, .d 50 t56, .i .i64 t57, .i .i64 t58, .undef, .undef, .undef, .undef, .d 23 t63, .i .i64 t64, .i .i64 t65, .undef, .undef, .undef, .undef, .undef, .undef, .undef, .undef, .undef, .undef, .undef, .undef, .undef, .undef, .undef, .undef, .undef, .undef, .undef, .undef, .undef], [(10, .var 26 (.d 26 a10) true)], [10], [], []⟩
   (blockK 6 (seqK (joinE Try.prog md (joinAt find_mark_orc (cAt (bodyOf Try.prog 82) [1, 1, 1, 1, 1, 0, 1, 0, 0, 1, 1, 0, 0, 1, 1])) (ev Try.prog md n find_mark_orc (cAt (bodyOf Try.prog 82) [1, 1, 1, 1, 1, 0, 1, 0, 0, 1, 1, 0, 0, 1, 1]))) (blockK 5 (seqK (joinE Try.prog md (joinAt find_mark_orc (cAt (bodyOf Try.prog 82) [1, 1, 1, 1, 1, 0, 1, 0, 0, 1, 1, 1])) (ev Try.prog md n find_mark_orc (cAt (bodyOf Try.prog 82) [1, 1, 1, 1, 1, 0, 1, 0, 0, 1, 1, 1]))) (loopK Try.prog md (orcAt find_mark_orc 15) (fun s1 => evLoop Try.prog md (ev Try.prog md n find_mark_orc (cAt (bodyOf Try.prog 82) [1, 1, 1, 1, 1, 0, 1, 0, 0])) (orcAt find_mark_orc 15) m15 s1 (blockK 4 (seqK (joinE Try.prog md (joinAt find_mark_orc (cAt (bodyOf Try.prog 82) [1, 1, 1, 1, 1, 1])) (ev Try.prog md n find_mark_orc (cAt (bodyOf Try.prog 82) [1, 1, 1, 1, 1, 1]))) (retK Try.prog md (md 82) find_mark_ps find_mark_rs find_mark_ts)))) (blockK 4 (seqK (joinE Try.prog md (joinAt find_mark_orc (cAt (bodyOf Try.prog 82) [1, 1, 1, 1, 1, 1])) (ev Try.prog md n find_mark_orc (cAt (bodyOf Try.prog 82) [1, 1, 1, 1, 1, 1]))) (retK Try.prog md (md 82) find_mark_ps find_mark_rs find_mark_ts))))))))
noncomputable def find_mark_l15 (n m15 : Nat) (k0 : Int) (t56 : D) (t57 : Int) (t58 : Int) : Tree :=
  evLoop Try.prog md (ev Try.prog md n find_mark_orc (cAt (bodyOf Try.prog 82) [1, 1, 1, 1, 1, 0, 1, 0, 0])) (orcAt find_mark_orc 15) m15 ⟨[.i .u64 k0, .undef, .undef, .undef, .undef, .undef, .undef, .undef, .undef, .undef, .undef, .undef, .undef, .undef, .undef, .undef, .undef, .undef, .undef, .undef, .undef, .undef, .undef, .undef, .undef, .undef, .undef, .undef, .undef, .undef, .undef, .undef, .undef, .undef, .undef, .undef, .undef, .undef, .undef, .undef, .undef, .undef, .undef, .undef, .undef, .undef, .undef, .undef, .undef, .undef, .undef, .undef, .undef, .undef, .undef, .undef, .d 50 t56, .i .i64 t57, .i .i64 t58, .undef, .undef, .undef, .undef, .undef, .undef, .undef, .undef, .undef, .undef, .undef, .undef, .undef, .undef, .undef, .undef, .undef, .undef, .undef, .undef, .undef, .undef, .undef, .undef, .undef, .undef, .undef, .undef], [], [], [], []⟩
   (blockK 4 (seqK (joinE Try.prog md (joinAt find_mark_orc (cAt (bodyOf Try.prog 82) [1, 1, 1, 1, 1, 1])) (ev Try.prog md n find_mark_orc (cAt (bodyOf Try.prog 82) [1, 1, 1, 1, 1, 1]))) (retK Try.prog md (md 82) find_mark_ps find_mark_rs find_mark_ts)))
noncomputable def find_mark_l10 (n m10 : Nat) (k0 : Int) (t44 : D) (t45 : Int) (t46 : Int) (c3 : D) : Tree :=
  evLoop Try.prog md (ev Try.prog md n find_mark_orc (cAt (bodyOf Try.prog 82) [1, 1, 1, 1, 0, 1, 0, 0])) (orcAt find_mark_orc 10) m10 ⟨[.i .u64 k0, .undef, .undef, .ptr 3 [], .undef, .undef, .undef, .undef, .undef, .undef, .undef, .undef, .undef, .undef, .undef, .undef, .undef, .undef, .undef, .undef, .undef, .undef, .undef, .undef, .undef, .undef, .undef, .undef, .undef, .undef, .undef, .undef, .undef, .undef, .undef, .undef, .undef, .undef, .undef, .undef, .undef, .undef, .undef, .undef, .d 47 t44, .i .i64 t45, .i .i64 t46, .undef, .undef, .undef, .undef, .undef, .undef, .undef, .undef, .undef, .undef, .undef, .undef, .undef, .undef, .undef, .undef, .undef, .undef, .undef, .undef, .undef, .undef, .undef, .undef, .undef, .undef, .undef, .undef, .undef, .undef, .undef, .undef, .undef, .undef, .undef, .undef, .undef, .undef, .undef, .undef], [(3, .var 52 (.d 52 c3) true)], [3], [], []⟩
   (blockK 2 (seqK (joinE Try.prog md (joinAt find_mark_orc (cAt (bodyOf Try.prog 82) [1, 1, 1, 1, 1])) (ev Try.prog md n find_mark_orc (cAt (bodyOf Try.prog 82) [1, 1, 1, 1, 1]))) (retK Try.prog md (md 82) find_mark_ps find_mark_rs find_mark_ts)))
noncomputable def find_mark_l5 (n m5 : Nat) (k0 : Int) (t31 : D) (t32 : Int) (t33 : Int) (c3 : D) : Tree :=
  evLoop Try.prog md (ev Try.prog md n find_mark_orc (cAt (bodyOf Try.prog 82) [1, 1, 1, 0, 1, 0, 0])) (orcAt find_mark_orc 5) m5 ⟨[.i .u64 k0, .undef, .undef, .ptr 3 [], .undef, .undef, .undef, .undef, .undef, .undef, .undef, .undef, .undef, .undef, .undef, .undef, .undef, .undef, .undef, .undef, .undef, .undef, .undef, .undef, .undef, .undef, .undef, .undef, .undef, .undef, .undef, .d 47 t31, .i .i64 t32, .i .i64 t33, .undef, .undef, .undef, .undef, .undef, .undef, .undef, .undef, .undef, .undef, .undef, .undef, .undef, .undef, .undef, .undef, .undef, .undef, .undef, .undef, .undef, .undef, .undef, .undef, .undef, .undef, .undef, .undef, .undef, .undef, .undef, .undef, .undef, .undef, .undef, .undef, .undef, .undef, .undef, .undef, .undef, .undef, .undef, .undef, .undef, .undef, .undef, .undef, .undef, .undef, .undef, .undef, .undef], [(3, .var 52 (.d 52 c3) true)], [3], [], []⟩
   (blockK 0 (seqK (joinE Try.prog md (joinAt find_mark_orc (cAt (bodyOf Try.prog 82) [1, 1, 1, 1])) (ev Try.prog md n find_mark_orc (cAt (bodyOf Try.prog 82) [1, 1, 1, 1]))) (retK Try.prog md (md 82) find_mark_ps find_mark_rs find_mark_ts)))
theorem find_mark_l23_succ (n m15 m23 : Nat) (k0 : Int) (t56 : D) (t57 : Int) (t58 : Int) (t75 : D) (t76 : Int) (t77 : Int) : find_mark_l23 n m15 (m23 + 1) k0 t56 t57 t58 t75 t76 t77 =
 .br (decide (t77 < t76)) (.br (decide (0 ≤ t77)) (.br (decide (t77 < (t75.els.length : Int))) (.call 82 [] [D.int k0, t75.els.getD (Int.toNat t77) D.nil] fun yy7 =>
 find_mark_l23 n m15 m23 ((yy7.getD 0 D.nil).toInt) t56 t57 t58 t75 t76 (IntKind.wrap .i64 (t77 + 1))) .fail) .fail)
 (find_mark_l15 n m15 k0 t56 t57 (IntKind.wrap .i64 (t58 + 1))) := by kernel_rfl
theorem find_mark_l18_succ (n m15 m18 : Nat) (k0 : Int) (t56 : D) (t57 : Int) (t58 : Int) (t63 : D) (t64 : Int) (t65 : Int) (a10 : D) : find_mark_l18 n m15 (m18 + 1) k0 t56 t57 t58 t63 t64 t65 a10 =
 .br (decide (t65 < t64)) (.br (decide (0 ≤ t65)) (.br (decide (t65 < (t63.els.length : Int))) (.call 119 [] [D.int k0, D.int (IntKind.wrap .u64 ((t63.els.getD (Int.toNat t65) D.nil).toInt))] fun yy6 =>
 find_mark_l18 n m15 m18 ((yy6.getD 0 D.nil).toInt) t56 t57 t58 t63 t64 (IntKind.wrap .i64 (t65 + 1)) a10) .fail) .fail)
 (find_mark_l23 n m15 n k0 t56 t57 t58 (a10.fld 2) (((a10.fld 2).els).length : Int) 0) := by kernel_rfl
theorem find_mark_l15_succ (n m15 : Nat) (k0 : Int) (t56 : D) (t57 : Int) (t58 : Int) : find_mark_l15 n (m15 + 1) k0 t56 t57 t58 =
 .br (decide (t58 < t57)) (.br (decide (0 ≤ t58)) (.br (decide (t58 < (t56.els.length : Int))) (find_mark_l18 n m15 n k0 t56 t57 t58 ((t56.els.getD (Int.toNat t58) D.nil).fld 1) ((((t56.els.getD (Int.toNat t58) D.nil).fld 1).els).length : Int) 0 (t56.els.getD (Int.toNat t58) D.nil)) .fail) .fail)
 (.ret [D.int k0]) := by kernel_rfl
theorem find_mark_l10_succ (n m10 : Nat) (k0 : Int) (t44 : D) (t45 : Int) (t46 : Int) (c3 : D) : find_mark_l10 n (m10 + 1) k0 t44 t45 t46 c3 =
 .br (decide (t46 < t45)) (.br (decide (0 ≤ t46)) (.br (decide (t46 < (t44.els.length : Int))) (.call 119 [] [D.int k0, D.int (IntKind.wrap .u64 ((t44.els.getD (Int.toNat t46) D.nil).toInt))] fun yy5 =>
 find_mark_l10 n m10 ((yy5.getD 0 D.nil).toInt) t44 t45 (IntKind.wrap .i64 (t46 + 1)) c3) .fail) .fail)
 (find_mark_l15 n n k0 (c3.fld 4) (((c3.fld 4).els).length : Int) 0) := by kernel_rfl
theorem find_mark_l5_succ (n m5 : Nat) (k0 : Int) (t31 : D) (t32 : Int) (t33 : Int) (c3 : D) : find_mark_l5 n (m5 + 1) k0 t31 t32 t33 c3 =
 .br (decide (t33 < t32)) (.br (decide (0 ≤ t33)) (.br (decide (t33 < (t31.els.length : Int))) (.call 119 [] [D.int k0, D.int (IntKind.wrap .u64 ((t31.els.getD (Int.toNat t33) D.nil).toInt))] fun yy4 =>
 find_mark_l5 n m5 ((yy4.getD 0 D.nil).toInt) t31 t32 (IntKind.wrap .i64 (t33 + 1)) c3) .fail) .fail)
 (find_mark_l10 n n k0 ((c3.fld 2).fld 2) ((((c3.fld 2).fld 2).els).length : Int) 0 c3) := by kernel_rfl
theorem find_mark_tree (n : Nat) (k0 : D) (c1 : D) : evFun Try.prog md find_mark_orc n 82 [] [k0, c1] =
 .call 119 [] [D.int k0.toInt, D.int (IntKind.wrap .u64 ((c1.fld 1).toInt))] fun yy1 =>
 .call 119 [] [D.int ((yy1.getD 0 D.nil).toInt), D.int (IntKind.wrap .u64 ((c1.fld 3).toInt))] fun yy2 =>
 .br (((c1.fld 2).fld 0).toBool) (.call 119 [] [D.int ((yy2.getD 0 D.nil).toInt), D.int 1] fun yy3 =>
 find_mark_l5 n n ((yy3.getD 0 D.nil).toInt) ((c1.fld 2).fld 1) ((((c1.fld 2).fld 1).els).length : Int) 0 c1)
 (find_mark_l5 n n ((yy2.getD 0 D.nil).toInt) ((c1.fld 2).fld 1) ((((c1.fld 2).fld 1).els).length : Int) 0 c1) := by kernel_rfl

/-! scrim/find.finder$1 -/
def find_finder_1_orc : List (Nat × Orc) := [(3, ⟨[(2, none), (5, none), (13, some 23), (14, none), (15, none)], [(5, true)], []⟩)]
def find_finder_1_ps : List Nat := [52]
def find_finder_1_rs : List ResultVar := [.tmp 4]
def find_finder_1_ts : List Nat := [3]
noncomputable def find_finder_1_l3 (n m3 : Nat) (t2 : D) (t13 : D) (t14 : Int) (t15 : Int) (alone5 : D) : Tree :=
  evLoop Try.prog md (ev Try.prog md n find_finder_1_orc (cAt (bodyOf Try.prog 83) [1, 1, 0, 1, 0, 0])) (orcAt find_finder_1_orc 3) m3 ⟨[.undef, .undef, .at_ 24 t2, .undef, .undef, .ptr 5 [], .undef, .undef, .undef, .undef, .undef, .undef, .undef, .d 23 t13, .i .i64 t14, .i .i64 t15, .undef, .undef, .undef, .undef, .undef, .undef, .undef, .undef, .undef, .undef, .undef, .undef], [(5, .var 26 (.d 26 alone5) true)], [5], [], []⟩
   (blockK 0 (seqK (joinE Try.prog md (joinAt find_finder_1_orc (cAt (bodyOf Try.prog 83) [1, 1, 1])) (ev Try.prog md n find_finder_1_orc (cAt (bodyOf Try.prog 83) [1, 1, 1]))) (retK Try.prog md (md 83) find_finder_1_ps find_finder_1_rs find_finder_1_ts)))
theorem find_finder_1_l3_succ (n m3 : Nat) (t2 : D) (t13 : D) (t14 : Int) (t15 : Int) (alone5 : D) : find_finder_1_l3 n (m3 + 1) t2 t13 t14 t15 alone5 =
 .br (decide (t15 < t14)) (.br (decide (0 ≤ t15)) (.br (decide (t15 < (t13.els.length : Int))) (.br (decide (0 ≤ (t13.els.getD (Int.toNat t15) D.nil).toInt)) (.br (decide ((t13.els.getD (Int.toNat t15) D.nil).toInt < (t2.els.length : Int))) (.call 34 [] [t2.els.getD (Int.toNat ((t13.els.getD (Int.toNat t15) D.nil).toInt)) D.nil] fun yy3 =>
 .call 33 [] [alone5, yy3.getD 0 D.nil] fun yy4 =>
 .br ((yy4.getD 0 D.nil).toBool) (.ret [D.int ((t13.els.getD (Int.toNat t15) D.nil).toInt)])
 (find_finder_1_l3 n m3 t2 t13 t14 (IntKind.wrap .i64 (t15 + 1)) alone5)) .fail) .fail) .fail) .fail)
 (.ret [D.int (-1)]) := by kernel_rfl
theorem find_finder_1_tree (n : Nat) (c0 : D) (c1 : D) (c2 : D) : evFun Try.prog md find_finder_1_orc n 83 [.ref 98, .ref 24] [c0, c1, c2] =
 .call 34 [] [c0] fun yy1 =>
 .call 82 [] [D.int 0, c0] fun yy2 =>
 find_finder_1_l3 n n c2.unref (D.sl ((c1.unref.grpI ((yy2.getD 0 D.nil).toInt)).map D.int)) (((c1.unref.grpI ((yy2.getD 0 D.nil).toInt)).map D.int).length : Int) 0 (yy1.getD 0 D.nil) := by kernel_rfl

/-! scrim/find.mix -/
def find_mix_orc : List (Nat × Orc) := []
theorem find_mix_tree (n : Nat) (k0 : D) (nn1 : D) : evFun Try.prog md find_mix_orc n 119 [] [k0, nn1] =
 .br (decide (0 ≤ 29)) (.ret [D.int (bits_ .xor .u64 (IntKind.wrap .u64 ((bits_ .xor .u64 k0.toInt nn1.toInt) * 11400714819323198485)) (Int.fdiv (IntKind.wrap .u64 ((bits_ .xor .u64 k0.toInt nn1.toInt) * 11400714819323198485)) (2 ^ (min (Int.toNat 29) (IntKind.bits .u64)))))]) .fail := by kernel_rfl

end Go.Proofs.Ytcgfpibkajagjaa
set_option maxRecDepth 100000
namespace Go.Proofs.Ytcgfpibkajagjaa

def wU (x : Int) : Int := IntKind.wrap .u64 x
def mixS (k n : Int) : Int := bits_ .xor .u64 (IntKind.wrap .u64 ((bits_ .xor .u64 k n) * 11400714819323198485)) (Int.fdiv (IntKind.wrap .u64 ((bits_ .xor .u64 k n) * 11400714819323198485)) (2 ^ (min (Int.toNat 29) (IntKind.bits .u64))))
theorem mix_sp (k n : Int) : Sp 119 [.int k, .int n] [.int (mixS k n)] := sound_ 0 (find_mix_tree _ _ _) (wp_dec (by decide) (wp_ret rfl))
def markL (k : Int) (l : List Limb) : Int := l.foldl (fun k x => mixS k (wU (x.toNat : Int))) k
def markH (k : Int) (l : List Int) : Int := l.foldl (fun k x => mixS k (wU x)) k
mutual
def markC : Int → CellF Arr → Int
  | k, ⟨_, kd, n, c, inn⟩ => markAs (markL (markL (if n.neg then mixS (mixS (mixS k (wU kd)) (wU c)) 1 else mixS (mixS k (wU kd)) (wU c)) n.top) n.bot) inn
def markAs : Int → List Arr → Int
  | k, [] => k
  | k, a :: as_ => markAs (markA k a) as_
def markA : Int → Arr → Int
  | k, .mk _ sh cs => markCs (markH k sh) cs
def markCs : Int → List (CellF Arr) → Int
  | k, [] => k
  | k, c :: cs => markCs (markC k c) cs
end
theorem markAs_fold : ∀ (as_ : List Arr) (k : Int), markAs k as_ = as_.foldl markA k
  | [], k => by rw [markAs]; rfl
  | a :: as_, k => by rw [markAs, markAs_fold as_]; rfl
theorem markCs_fold : ∀ (cs : List Cell) (k : Int), markCs k cs = cs.foldl markC k
  | [], k => by rw [markCs]; rfl
  | c :: cs, k => by rw [markCs, markCs_fold cs]; rfl
theorem markA_eq (k : Int) (a : Arr) : markA k a = a.cells.foldl markC (markH k a.shape) := by cases a; rw [markA, markCs_fold]; rfl
theorem markC_eq (k : Int) (c : Cell) : markC k c = c.inn.foldl markA (markL (markL (if c.n.neg then mixS (mixS (mixS k (wU c.kind)) (wU c.c)) 1 else mixS (mixS k (wU c.kind)) (wU c.c)) c.n.top) c.n.bot) := by cases c; rw [markC, markAs_fold]
theorem foldl_rel {α : Type} {f : Int → α → Int} {r : α → α} : ∀ {l : List α} {k : Int}, (∀ x ∈ l, ∀ k, f k (r x) = f k x) → (l.map r).foldl f k = l.foldl f k
  | [], _, _ => rfl
  | x :: xs, k, h => by
    simp only [List.map_cons, List.foldl_cons, h x (by simp)]
    exact foldl_rel (fun y hy => h y (List.mem_cons_of_mem _ hy))
theorem markA_rel (g : Lab → Lab) (a : Arr) : ∀ k, markA k (relA g a) = markA k a := by
  induction a using Arr.ind with
  | h s sh cs IH =>
    intro k
    rw [markA_eq, markA_eq, relA_eq]
    simp only [Arr.cells_mk, Arr.shape_mk]
    refine foldl_rel (fun c hc k => ?_)
    rw [markC_eq, markC_eq, relC_eq]
    exact foldl_rel (fun x hx k => IH c hc x hx k)
theorem markC_rel (g : Lab → Lab) (c : Cell) (k : Int) : markC k (relC g c) = markC k c := by
  rw [markC_eq, markC_eq, relC_eq]
  exact foldl_rel (fun x _ k => markA_rel g x k)
/-- The same, labels apart. -/
noncomputable def sameB (x y : Cell) : Bool := eqC (relC (fun _ => 0) x) (relC (fun _ => 0) y)
theorem sameB_iff {x y : Cell} : sameB x y = true ↔ relC (fun _ => 0) x = relC (fun _ => 0) y := eqC_iff
theorem sameB_self (x : Cell) : sameB x x = true := eqC_self _
theorem sameB_comm (x y : Cell) : sameB x y = sameB y x := by
  cases h : sameB y x with
  | true => exact sameB_iff.2 (sameB_iff.1 h).symm
  | false =>
    cases h2 : sameB x y with
    | false => rfl
    | true => rw [sameB_iff.2 (sameB_iff.1 h2).symm] at h; cases h
theorem sameB_mark {x y : Cell} (h : sameB x y = true) (k : Int) : markC k x = markC k y := by
  rw [← markC_rel (fun _ => 0) x, ← markC_rel (fun _ => 0) y, sameB_iff.1 h]
theorem mat_one (x y : Cell) : matA (oneA x) (oneA y) = sameB x y := by
  cases h : sameB x y with
  | true => exact eqA_iff.2 (by unfold eraA oneA; rw [relA_eq, relA_eq]; simp only [Arr.cells_mk, Arr.s_mk, Arr.shape_mk, List.map_cons, List.map_nil, sameB_iff.1 h])
  | false =>
    cases h2 : matA (oneA x) (oneA y) with
    | false => rfl
    | true =>
      have := eqA_iff.1 h2
      unfold eraA oneA at this
      rw [relA_eq, relA_eq, arr_eq] at this
      have h3 := this.2.2
      simp only [Arr.cells_mk, List.map_cons, List.map_nil, List.cons.injEq, and_true] at h3
      rw [sameB_iff.2 h3] at h; cases h
/-- Where a cell stands first. -/
noncomputable def placeS : List Cell → Cell → Nat → Int
  | [], _, _ => -1
  | x :: xs, c, k => if sameB x c then (k : Int) else placeS xs c (k + 1)
theorem placeS_range : ∀ (l : List Cell) (c : Cell) (k : Nat), placeS l c k = -1 ∨ ((k : Int) ≤ placeS l c k ∧ placeS l c k < (k + l.length : Nat))
  | [], c, k => .inl rfl
  | x :: xs, c, k => by
    simp only [placeS]
    split
    · right; simp only [List.length_cons]; omega
    · rcases placeS_range xs c (k + 1) with h | h
      · exact .inl h
      · right; simp only [List.length_cons]; omega
/-- The places of a mark. -/
def idxF : List Cell → Int → Nat → List Int
  | [], _, _ => []
  | x :: xs, n, k => if markC 0 x = n then (k : Int) :: idxF xs n (k + 1) else idxF xs n (k + 1)
theorem idxF_range : ∀ (l : List Cell) (n : Int) (k : Nat), (∀ j ∈ idxF l n k, (k : Int) ≤ j ∧ j < (k + l.length : Nat)) ∧ (idxF l n k).length ≤ l.length
  | [], n, k => by simp [idxF]
  | x :: xs, n, k => by
    obtain ⟨h1, h2⟩ := idxF_range xs n (k + 1)
    simp only [idxF]
    split
    · refine ⟨fun j hj => ?_, by simp only [List.length_cons]; omega⟩
      simp only [List.length_cons]
      rcases List.mem_cons.1 hj with rfl | hj
      · omega
      · have := h1 j hj; omega
    · refine ⟨fun j hj => ?_, by simp only [List.length_cons]; omega⟩
      simp only [List.length_cons]
      have := h1 j hj; omega
noncomputable def fstM (l : List Cell) (c : Cell) : List Int → Int
  | [] => -1
  | j :: js => if sameB c (l.getD j.toNat Cell.none) then j else fstM l c js
theorem fstM_place (l : List Cell) (c : Cell) : ∀ (xs : List Cell) (k : Nat), l.drop k = xs → fstM l c (idxF xs (markC 0 c) k) = placeS xs c k
  | [], k, _ => rfl
  | x :: xs, k, h => by
    obtain ⟨h1, h2, h3⟩ := drop_cons h
    have ih := fstM_place l c xs (k + 1) h3
    have hg : l.getD k Cell.none = x := by rw [List.getD_eq_getElem?_getD, h2]; rfl
    simp only [idxF, placeS]
    by_cases hm : markC 0 x = markC 0 c
    · rw [if_pos hm]
      simp only [fstM, Int.toNat_natCast, hg]
      rw [sameB_comm c x, ih]
    · rw [if_neg hm, if_neg (fun hs => hm (sameB_mark hs 0)), ih]
theorem mark_sp : ∀ (d : Nat) (c : Cell) (k : Int), SmlC d c → Sp 82 [.int k, dC c] [.int (markC k c)] := by
  suffices key : ∀ (d : Nat), (∀ e, d = e + 1 → ∀ (c : Cell) (k : Int), SmlC e c → Sp 82 [.int k, dC c] [.int (markC k c)]) → ∀ (c : Cell) (k : Int), SmlC d c → Sp 82 [.int k, dC c] [.int (markC k c)] by
    intro d
    induction d with
    | zero => exact key 0 (fun e he => by omega)
    | succ d ih => exact key (d + 1) (fun e he => by have : e = d := by omega
                                                     subst this; exact ih)
  intro d IH c k hc
  obtain ⟨c1, c2, c3, c4⟩ := hc
  rw [markC_eq]
  have inn : ∀ k0 : Int, Tw (find_mark_l15 1048577 1048577 k0 (.sl (c.inn.map dA)) (c.inn.length : Int) 0) [.int (c.inn.foldl markA k0)] := by
    intro k0
    have key := loop_list (P := Try.prog) (md := md) c.inn (fun m k (s : Int) => find_mark_l15 1048577 m s (.sl (c.inn.map dA)) (c.inn.length : Int) (k : Int)) (fun rest s => [.int (rest.foldl markA s)]) (fun _ _ => True)
      (fun m k s hk _ => by
        simp only [find_mark_l15_succ]
        exact wp_ndec (by omega) (wp_ret rfl))
      (fun m k s x rest hdr _ ih => by
        obtain ⟨h1, h2, h3⟩ := drop_cons hdr
        have hx := c4 x (List.mem_of_getElem? h2)
        obtain ⟨e, rfl⟩ := hx.succ
        have hxs := hx.1
        have hxc := hx.2.1
        simp only [find_mark_l15_succ, dA_0, dA_1, dA_2, dC_0, dC_1, dC_2, dC_3, dC_4, dN_0, dN_1, dN_2, els_sl, els_dI, els_dL, List.length_map, Int.toNat_natCast, toInt_int, toInt_dB, toBool_bool, getD_c0, getD_c1, int_beq, int_bne, not_dec, dInt_dB, Int.toNat_zero, getD_map h2]
        refine wp_dec (by omega) (wp_dec (by omega) (wp_dec (by omega) ?_))
        have key2 := loop_list (P := Try.prog) (md := md) x.shape (fun m' j (s : Int) => find_mark_l18 1048577 m m' s (.sl (c.inn.map dA)) (c.inn.length : Int) (k : Int) (dI x.shape) (x.shape.length : Int) (j : Int) (dA x)) (fun rest' s => [.int (rest.foldl markA (x.cells.foldl markC (markH s rest')))]) (fun _ _ => True)
          (fun m' j s hj _ => by
            simp only [find_mark_l18_succ, dA_0, dA_1, dA_2, dC_0, dC_1, dC_2, dC_3, dC_4, dN_0, dN_1, dN_2, els_sl, els_dI, els_dL, List.length_map, Int.toNat_natCast, toInt_int, toInt_dB, toBool_bool, getD_c0, getD_c1, int_beq, int_bne, not_dec, dInt_dB, Int.toNat_zero]
            refine wp_ndec (by omega) ?_
            have key3 := loop_list (P := Try.prog) (md := md) x.cells (fun m'' i (s : Int) => find_mark_l23 1048577 m m'' s (.sl (c.inn.map dA)) (c.inn.length : Int) (k : Int) (.sl (x.cells.map dC)) (x.cells.length : Int) (i : Int)) (fun rest'' s => [.int (rest.foldl markA (rest''.foldl markC s))]) (fun _ _ => True)
              (fun m'' i s hi _ => by
                simp only [find_mark_l23_succ, wrap_succ (show k < 9223372036854775807 by omega)]
                exact wp_ndec (by omega) (ih s trivial))
              (fun m'' i s y rest'' hdr'' _ ih'' => by
                obtain ⟨g1, g2, g3⟩ := drop_cons hdr''
                simp only [find_mark_l23_succ, dA_0, dA_1, dA_2, dC_0, dC_1, dC_2, dC_3, dC_4, dN_0, dN_1, dN_2, els_sl, els_dI, els_dL, List.length_map, Int.toNat_natCast, toInt_int, toInt_dB, toBool_bool, getD_c0, getD_c1, int_beq, int_bne, not_dec, dInt_dB, Int.toNat_zero, getD_map g2, wrap_succ (show i < 9223372036854775807 by omega)]
                exact wp_dec (by omega) (wp_dec (by omega) (wp_dec (by omega) (wp_call (IH e rfl y s (hx.cell y (List.mem_of_getElem? g2))) (ih'' _ trivial)))))
              1048577 0 s (by omega) (by omega) trivial
            exact key3)
          (fun m' j s y rest' hdr' _ ih' => by
            obtain ⟨g1, g2, g3⟩ := drop_cons hdr'
            simp only [find_mark_l18_succ, dA_0, dA_1, dA_2, dC_0, dC_1, dC_2, dC_3, dC_4, dN_0, dN_1, dN_2, els_sl, els_dI, els_dL, List.length_map, Int.toNat_natCast, toInt_int, toInt_dB, toBool_bool, getD_c0, getD_c1, int_beq, int_bne, not_dec, dInt_dB, Int.toNat_zero, getD_map g2, wrap_succ (show j < 9223372036854775807 by omega)]
            exact wp_dec (by omega) (wp_dec (by omega) (wp_dec (by omega) (wp_call (mix_sp s (wU y)) (ih' _ trivial)))))
          1048577 0 s (by omega) (by omega) trivial
        rw [List.foldl_cons, markA_eq]
        exact key2)
      1048577 0 k0 (by omega) (by omega) trivial
    exact key
  have bot : ∀ k0 : Int, Tw (find_mark_l10 1048577 1048577 k0 (dL c.n.bot) (c.n.bot.length : Int) 0 (dC c)) [.int (c.inn.foldl markA (markL k0 c.n.bot))] := by
    intro k0
    have key := loop_list (P := Try.prog) (md := md) c.n.bot (fun m k (s : Int) => find_mark_l10 1048577 m s (dL c.n.bot) (c.n.bot.length : Int) (k : Int) (dC c)) (fun rest s => [.int (c.inn.foldl markA (markL s rest))]) (fun _ _ => True)
      (fun m k s hk _ => by
        simp only [find_mark_l10_succ, dA_0, dA_1, dA_2, dC_0, dC_1, dC_2, dC_3, dC_4, dN_0, dN_1, dN_2, els_sl, els_dI, els_dL, List.length_map, Int.toNat_natCast, toInt_int, toInt_dB, toBool_bool, getD_c0, getD_c1, int_beq, int_bne, not_dec, dInt_dB, Int.toNat_zero]
        exact wp_ndec (by omega) (inn s))
      (fun m k s x rest hdr _ ih => by
        obtain ⟨h1, h2, h3⟩ := drop_cons hdr
        simp only [find_mark_l10_succ, els_dL, List.length_map, Int.toNat_natCast, getD_map h2, toInt_dB, wrap_succ (show k < 9223372036854775807 by omega)]
        exact wp_dec (by omega) (wp_dec (by omega) (wp_dec (by omega) (wp_call (mix_sp s (wU (x.toNat : Int))) (ih _ trivial)))))
      1048577 0 k0 (by omega) (by omega) trivial
    exact key
  have top : ∀ k0 : Int, Tw (find_mark_l5 1048577 1048577 k0 (dL c.n.top) (c.n.top.length : Int) 0 (dC c)) [.int (c.inn.foldl markA (markL (markL k0 c.n.top) c.n.bot))] := by
    intro k0
    have key := loop_list (P := Try.prog) (md := md) c.n.top (fun m k (s : Int) => find_mark_l5 1048577 m s (dL c.n.top) (c.n.top.length : Int) (k : Int) (dC c)) (fun rest s => [.int (c.inn.foldl markA (markL (markL s rest) c.n.bot))]) (fun _ _ => True)
      (fun m k s hk _ => by
        simp only [find_mark_l5_succ, dA_0, dA_1, dA_2, dC_0, dC_1, dC_2, dC_3, dC_4, dN_0, dN_1, dN_2, els_sl, els_dI, els_dL, List.length_map, Int.toNat_natCast, toInt_int, toInt_dB, toBool_bool, getD_c0, getD_c1, int_beq, int_bne, not_dec, dInt_dB, Int.toNat_zero]
        exact wp_ndec (by omega) (bot s))
      (fun m k s x rest hdr _ ih => by
        obtain ⟨h1, h2, h3⟩ := drop_cons hdr
        simp only [find_mark_l5_succ, els_dL, List.length_map, Int.toNat_natCast, getD_map h2, toInt_dB, wrap_succ (show k < 9223372036854775807 by omega)]
        exact wp_dec (by omega) (wp_dec (by omega) (wp_dec (by omega) (wp_call (mix_sp s (wU (x.toNat : Int))) (ih _ trivial)))))
      1048577 0 k0 (by omega) (by omega) trivial
    exact key
  refine sound_ 1048577 (find_mark_tree _ _ _) ?_
  simp only [dA_0, dA_1, dA_2, dC_0, dC_1, dC_2, dC_3, dC_4, dN_0, dN_1, dN_2, els_sl, els_dI, els_dL, List.length_map, Int.toNat_natCast, toInt_int, toInt_dB, toBool_bool, getD_c0, getD_c1, int_beq, int_bne, not_dec, dInt_dB, Int.toNat_zero]
  refine wp_call (mix_sp k (wU c.kind)) ?_
  simp only [getD_c0, toInt_int]
  refine wp_call (mix_sp (mixS k (wU c.kind)) (wU c.c)) ?_
  simp only [getD_c0, toInt_int]
  refine wp_br (fun h => ?_) (fun h => ?_)
  · have hn : c.n.neg = true := by simpa using h
    rw [if_pos hn]
    exact wp_call (mix_sp _ 1) (top _)
  · have hn : ¬ c.n.neg = true := by simpa using h
    rw [if_neg hn]
    exact top _
/-- A finder. -/
abbrev fnd (g : List (Int × List Int)) (l : List Cell) : D := D.fn 83 [.ref 98, .ref 24] [.ref (.mp g), .ref (.sl (l.map dC))]
theorem finder1_sp {d e : Nat} (g : List (Int × List Int)) (l : List Cell) (c : Cell) (hg : ∀ n, grp g n = idxF l n 0) (hc : SmlC d c) (hl : ∀ x ∈ l, SmlC e x) (hlen : l.length ≤ 1048576) : Spec Try.prog md 83 [.ref 98, .ref 24] [dC c, .ref (.mp g), .ref (.sl (l.map dC))] [.int (placeS l c 0)] := by
  refine sound_ 1048577 (find_finder_1_tree _ _ _ _) (wp_call (array_Scalar_sp c hc) (wp_call (mark_sp d c 0 hc) ?_))
  have hgm : (D.mp g).grpI (markC 0 c) = idxF l (markC 0 c) 0 := hg _
  simp only [unref_ref, getD_c0, toInt_int, hgm]
  have hr := idxF_range l (markC 0 c) 0
  have hp := fstM_place l c l 0 rfl
  generalize idxF l (markC 0 c) 0 = js at *
  have key := loop_list (P := Try.prog) (md := md) js (fun m k (_ : Unit) => find_finder_1_l3 1048577 m (.sl (l.map dC)) (.sl (js.map D.int)) (((js.map D.int).length : Nat) : Int) (k : Int) (dA (oneA c))) (fun rest _ => [.int (fstM l c rest)]) (fun _ _ => True)
    (fun m k s hk _ => by
      simp only [find_finder_1_l3_succ, List.length_map]
      exact wp_ndec (by omega) (wp_ret rfl))
    (fun m k s j rest hdr _ ih => by
      obtain ⟨h1, h2, h3⟩ := drop_cons hdr
      have hj := hr.1 j (List.mem_of_getElem? h2)
      obtain ⟨J, rfl⟩ : ∃ J : Nat, j = (J : Int) := ⟨j.toNat, by omega⟩
      have hJ : J < l.length := by omega
      have hcell : (l.map dC).getD J D.nil = dC (l.getD J Cell.none) := by
        rw [getD_map (List.getElem?_eq_getElem hJ), List.getD_eq_getElem?_getD, List.getElem?_eq_getElem hJ]; rfl
      have hmem : l.getD J Cell.none ∈ l := by
        rw [List.getD_eq_getElem?_getD, List.getElem?_eq_getElem hJ]; exact List.getElem_mem hJ
      simp only [find_finder_1_l3_succ, dA_0, dA_1, dA_2, dC_0, dC_1, dC_2, dC_3, dC_4, dN_0, dN_1, dN_2, els_sl, els_dI, els_dL, List.length_map, Int.toNat_natCast, toInt_int, toInt_dB, toBool_bool, getD_c0, getD_c1, int_beq, int_bne, not_dec, dInt_dB, Int.toNat_zero, getD_map h2, hcell, wrap_succ (show k < 9223372036854775807 by omega)]
      have hm := array_Match_sp (d := d + 1) (oneA c) (oneA (l.getD J Cell.none)) (Sml.of (by simp [oneA]) (by simp [oneA]) (by simp [oneA]) (fun x hx => by simp [oneA] at hx; subst hx; exact hc))
      rw [mat_one] at hm
      refine wp_dec (by omega) (wp_dec (by omega) (wp_dec (by omega) (wp_dec (by omega) (wp_dec (by omega) (wp_call (array_Scalar_sp _ (hl _ hmem)) (wp_call hm ?_))))))
      simp only [getD_c0, toBool_bool, fstM, Int.toNat_natCast]
      refine wp_br (fun h => wp_ret (by rw [if_pos h])) (fun h => ?_)
      rw [if_neg (by rw [h]; decide)]
      have := ih () trivial
      simp only [List.length_map] at this
      exact this)
    1048577 0 () (by omega) (by omega) trivial
  rw [List.drop_zero, hp] at key
  exact key
end Go.Proofs.Ytcgfpibkajagjaa
set_option maxRecDepth 100000
namespace Go.Proofs.Ytcgfpibkajagjaa
/-! scrim/scrimref16.Index -/
def ref16_Index_orc : List (Nat × Orc) := [(5, ⟨[(2, none), (3, none), (4, none), (6, none), (7, none)], [(2, true), (3, true), (4, false), (6, false)], [(.fld 6 [2], 1050, 52)]⟩)]
def ref16_Index_ps : List Nat := [26, 26]
def ref16_Index_rs : List ResultVar := [.cell 4 26, .tmp 5]
def ref16_Index_ts : List Nat := [26, 3]
noncomputable def ref16_Index_l5 (n m5 : Nat) (i7 : Int) (a2 : D) (b3 : D) (t4_0 : Int) (out6_0 : Int) (out6_1 : D) (out6_2 : List D) : Tree :=
  evLoop Try.prog md (ev Try.prog md n ref16_Index_orc (cAt (bodyOf Try.prog 13) [1, 1, 1, 0, 1, 0, 0])) (orcAt ref16_Index_orc 5) m5 ⟨[.undef, .undef, .ptr 2 [], .ptr 3 [], .ptr 4 [], .undef, .ptr 6 [], .i .i64 i7, .undef, .undef, .undef, .undef, .undef, .undef, .undef, .undef, .undef, .undef, .undef, .undef, .undef, .undef, .undef, .undef, .undef, .undef, .undef, .undef, .undef, .undef, .undef, .undef, .undef, .undef, .undef, .undef, .undef, .undef, .undef, .undef, .undef, .undef, .undef, .undef, .undef, .undef, .undef, .undef, .undef], [(2, .var 26 (.d 26 a2) true), (3, .var 26 (.d 26 b3) true), (4, .var 26 (.agg 26 [.i .u64 t4_0, .mt, .mt]) true), (6, .var 26 (.agg 26 [.i .u64 out6_0, .d 23 out6_1, .row 1050]) true), (1050, .row 52 out6_2 true)], [2, 3, 4, 6, 1050], [], []⟩
   (blockK 0 (seqK (joinE Try.prog md (joinAt ref16_Index_orc (cAt (bodyOf Try.prog 13) [1, 1, 1, 1])) (ev Try.prog md n ref16_Index_orc (cAt (bodyOf Try.prog 13) [1, 1, 1, 1]))) (retK Try.prog md (md 13) ref16_Index_ps ref16_Index_rs ref16_Index_ts)))
theorem ref16_Index_l5_succ (n m5 : Nat) (i7 : Int) (a2 : D) (b3 : D) (t4_0 : Int) (out6_0 : Int) (out6_1 : D) (out6_2 : List D) : ref16_Index_l5 n (m5 + 1) i7 a2 b3 t4_0 out6_0 out6_1 out6_2 =
 .br (decide (i7 < (((b3.fld 2).els).length : Int))) (.br (decide (0 ≤ i7)) (.br (decide (i7 < (((b3.fld 2).els).length : Int))) (.call 45 [] [a2.fld 2, ((b3.fld 2).els).getD (Int.toNat i7) D.nil] fun yy2 =>
 .br (decide (((yy2.getD 0 D.nil).toInt) < 0)) (.call 46 [] [D.int (IntKind.wrap .i64 ((((a2.fld 2).els).length : Int) + 1))] fun yy3 =>
 .br (decide (out6_2.length + [yy3.getD 0 D.nil].length ≤ bigN)) (ref16_Index_l5 n m5 (IntKind.wrap .i64 (i7 + 1)) a2 b3 t4_0 out6_0 out6_1 (out6_2 ++ [yy3.getD 0 D.nil])) .fail)
 (.call 46 [] [D.int (IntKind.wrap .i64 (((yy2.getD 0 D.nil).toInt) + 1))] fun yy4 =>
 .br (decide (out6_2.length + [yy4.getD 0 D.nil].length ≤ bigN)) (ref16_Index_l5 n m5 (IntKind.wrap .i64 (i7 + 1)) a2 b3 t4_0 out6_0 out6_1 (out6_2 ++ [yy4.getD 0 D.nil])) .fail)) .fail) .fail)
 (.ret [D.agg [D.int out6_0, out6_1, D.sl out6_2], D.int 0]) := by kernel_rfl
theorem ref16_Index_tree (n : Nat) (a0 : D) (b1 : D) : evFun Try.prog md ref16_Index_orc n 13 [] [a0, b1] =
 .br ((((a0.fld 1).els).length : Int) != 1) (.ret [D.agg [D.int 0, D.sl [], D.sl []], D.int 5])
 (.call 44 [] [a0, b1] fun yy1 =>
 ref16_Index_l5 n n 0 a0 b1 0 ((yy1.getD 0 D.nil).toInt) (b1.fld 1) []) := by kernel_rfl

/-! scrim/scrimref16.Member -/
def ref16_Member_orc : List (Nat × Orc) := [(3, ⟨[(2, none), (3, none), (4, none), (5, none), (6, none)], [(2, true), (3, true), (4, false), (5, false)], [(.fld 5 [2], 1030, 52)]⟩)]
def ref16_Member_ps : List Nat := [26, 26]
def ref16_Member_rs : List ResultVar := [.cell 4 26]
def ref16_Member_ts : List Nat := [26]
noncomputable def ref16_Member_l3 (n m3 : Nat) (i6 : Int) (a2 : D) (b3 : D) (t4_0 : Int) (out5_0 : Int) (out5_1 : D) (out5_2 : List D) : Tree :=
  evLoop Try.prog md (ev Try.prog md n ref16_Member_orc (cAt (bodyOf Try.prog 17) [1, 1, 0, 1, 0, 0])) (orcAt ref16_Member_orc 3) m3 ⟨[.undef, .undef, .ptr 2 [], .ptr 3 [], .ptr 4 [], .ptr 5 [], .i .i64 i6, .undef, .undef, .undef, .undef, .undef, .undef, .undef, .undef, .undef, .undef, .undef, .undef, .undef, .undef, .undef, .undef, .undef, .undef, .undef, .undef, .undef, .undef, .undef, .undef, .undef, .undef, .undef, .undef, .undef, .undef, .undef, .undef, .undef, .undef, .undef], [(2, .var 26 (.d 26 a2) true), (3, .var 26 (.d 26 b3) true), (4, .var 26 (.agg 26 [.i .u64 t4_0, .mt, .mt]) true), (5, .var 26 (.agg 26 [.i .u64 out5_0, .d 23 out5_1, .row 1030]) true), (1030, .row 52 out5_2 true)], [2, 3, 4, 5, 1030], [], []⟩
   (blockK 0 (seqK (joinE Try.prog md (joinAt ref16_Member_orc (cAt (bodyOf Try.prog 17) [1, 1, 1])) (ev Try.prog md n ref16_Member_orc (cAt (bodyOf Try.prog 17) [1, 1, 1]))) (retK Try.prog md (md 17) ref16_Member_ps ref16_Member_rs ref16_Member_ts)))
theorem ref16_Member_l3_succ (n m3 : Nat) (i6 : Int) (a2 : D) (b3 : D) (t4_0 : Int) (out5_0 : Int) (out5_1 : D) (out5_2 : List D) : ref16_Member_l3 n (m3 + 1) i6 a2 b3 t4_0 out5_0 out5_1 out5_2 =
 .br (decide (i6 < (((a2.fld 2).els).length : Int))) (.br (decide (0 ≤ i6)) (.br (decide (i6 < (((a2.fld 2).els).length : Int))) (.call 45 [] [b3.fld 2, ((a2.fld 2).els).getD (Int.toNat i6) D.nil] fun yy2 =>
 .br (decide (((yy2.getD 0 D.nil).toInt) < 0)) (.call 46 [] [D.int 0] fun yy3 =>
 .br (decide (out5_2.length + [yy3.getD 0 D.nil].length ≤ bigN)) (ref16_Member_l3 n m3 (IntKind.wrap .i64 (i6 + 1)) a2 b3 t4_0 out5_0 out5_1 (out5_2 ++ [yy3.getD 0 D.nil])) .fail)
 (.call 46 [] [D.int 1] fun yy4 =>
 .br (decide (out5_2.length + [yy4.getD 0 D.nil].length ≤ bigN)) (ref16_Member_l3 n m3 (IntKind.wrap .i64 (i6 + 1)) a2 b3 t4_0 out5_0 out5_1 (out5_2 ++ [yy4.getD 0 D.nil])) .fail)) .fail) .fail)
 (.ret [D.agg [D.int out5_0, out5_1, D.sl out5_2]]) := by kernel_rfl
theorem ref16_Member_tree (n : Nat) (a0 : D) (b1 : D) : evFun Try.prog md ref16_Member_orc n 17 [] [a0, b1] =
 .call 44 [] [a0, b1] fun yy1 =>
 ref16_Member_l3 n n 0 a0 b1 0 ((yy1.getD 0 D.nil).toInt) (a0.fld 1) [] := by kernel_rfl

/-! scrim/scrimref16.Unique -/
def ref16_Unique_orc : List (Nat × Orc) := [(5, ⟨[(1, none), (2, none), (4, none), (5, none)], [(1, true), (2, false)], [(.slot 4, 1050, 52)]⟩)]
def ref16_Unique_ps : List Nat := [26]
def ref16_Unique_rs : List ResultVar := [.cell 2 26, .tmp 3]
def ref16_Unique_ts : List Nat := [26, 3]
noncomputable def ref16_Unique_l5 (n m5 : Nat) (out4 : List D) (i5 : Int) (a1 : D) (t2_0 : Int) : Tree :=
  evLoop Try.prog md (ev Try.prog md n ref16_Unique_orc (cAt (bodyOf Try.prog 19) [1, 1, 1, 0, 1, 0, 0])) (orcAt ref16_Unique_orc 5) m5 ⟨[.undef, .ptr 1 [], .ptr 2 [], .undef, .row 1050, .i .i64 i5, .undef, .undef, .undef, .undef, .undef, .undef, .undef, .undef, .undef, .undef, .undef, .undef, .undef, .undef, .undef, .undef, .undef, .undef, .undef, .undef, .undef, .undef, .undef, .undef, .undef, .undef, .undef, .undef, .undef, .undef, .undef, .undef, .undef, .undef, .undef], [(1, .var 26 (.d 26 a1) true), (2, .var 26 (.agg 26 [.i .u64 t2_0, .mt, .mt]) true), (1050, .row 52 out4 true)], [1, 2, 1050], [], []⟩
   (blockK 0 (seqK (joinE Try.prog md (joinAt ref16_Unique_orc (cAt (bodyOf Try.prog 19) [1, 1, 1, 1])) (ev Try.prog md n ref16_Unique_orc (cAt (bodyOf Try.prog 19) [1, 1, 1, 1]))) (retK Try.prog md (md 19) ref16_Unique_ps ref16_Unique_rs ref16_Unique_ts)))
theorem ref16_Unique_l5_succ (n m5 : Nat) (out4 : List D) (i5 : Int) (a1 : D) (t2_0 : Int) : ref16_Unique_l5 n (m5 + 1) out4 i5 a1 t2_0 =
 .br (decide (i5 < (((a1.fld 2).els).length : Int))) (.br (decide (0 ≤ i5)) (.br (decide (i5 ≤ (((a1.fld 2).els).length : Int))) (.br (decide (0 ≤ i5)) (.br (decide (i5 < (((a1.fld 2).els).length : Int))) (.call 45 [] [D.sl (((a1.fld 2).els).take (Int.toNat i5)), ((a1.fld 2).els).getD (Int.toNat i5) D.nil] fun yy1 =>
 .br (decide (((yy1.getD 0 D.nil).toInt) < 0)) (.br (decide (0 ≤ i5)) (.br (decide (i5 < (((a1.fld 2).els).length : Int))) (.br (decide (out4.length + [((a1.fld 2).els).getD (Int.toNat i5) D.nil].length ≤ bigN)) (ref16_Unique_l5 n m5 (out4 ++ [((a1.fld 2).els).getD (Int.toNat i5) D.nil]) (IntKind.wrap .i64 (i5 + 1)) a1 t2_0) .fail) .fail) .fail)
 (ref16_Unique_l5 n m5 out4 (IntKind.wrap .i64 (i5 + 1)) a1 t2_0)) .fail) .fail) .fail) .fail)
 (.call 55 [] [a1] fun yy2 =>
 .call 54 [] [D.sl out4, D.int ((yy2.getD 0 D.nil).toInt)] fun yy3 =>
 .ret [yy3.getD 0 D.nil, D.int 0]) := by kernel_rfl
theorem ref16_Unique_tree (n : Nat) (a0 : D) : evFun Try.prog md ref16_Unique_orc n 19 [] [a0] =
 .br (decide (1 < (((a0.fld 1).els).length : Int))) (.ret [D.agg [D.int 0, D.sl [], D.sl []], D.int 5])
 (ref16_Unique_l5 n n [] 0 a0 0) := by kernel_rfl

/-! scrim/scrimref16.Those -/
def ref16_Those_orc : List (Nat × Orc) := [(5, ⟨[(2, none), (3, none), (4, none), (6, none), (8, none), (9, none)], [(3, true), (4, true), (6, false)], [(.slot 8, 1050, 52)]⟩)]
def ref16_Those_ps : List Nat := [26, 26, 4]
def ref16_Those_rs : List ResultVar := [.cell 6 26, .tmp 7]
def ref16_Those_ts : List Nat := [26, 3]
noncomputable def ref16_Those_l5 (n m5 : Nat) (in2 : Bool) (out8 : List D) (i9 : Int) (a3 : D) (b4 : D) (t6_0 : Int) : Tree :=
  evLoop Try.prog md (ev Try.prog md n ref16_Those_orc (cAt (bodyOf Try.prog 21) [1, 1, 1, 0, 1, 0, 0])) (orcAt ref16_Those_orc 5) m5 ⟨[.undef, .undef, .b in2, .ptr 3 [], .ptr 4 [], .undef, .ptr 6 [], .undef, .row 1050, .i .i64 i9, .undef, .undef, .undef, .undef, .undef, .undef, .undef, .undef, .undef, .undef, .undef, .undef, .undef, .undef, .undef, .undef, .undef, .undef, .undef, .undef, .undef, .undef, .undef, .undef, .undef, .undef, .undef, .undef, .undef, .undef, .undef, .undef, .undef, .undef, .undef, .undef, .undef, .undef], [(3, .var 26 (.d 26 a3) true), (4, .var 26 (.d 26 b4) true), (6, .var 26 (.agg 26 [.i .u64 t6_0, .mt, .mt]) true), (1050, .row 52 out8 true)], [3, 4, 6, 1050], [], []⟩
   (blockK 0 (seqK (joinE Try.prog md (joinAt ref16_Those_orc (cAt (bodyOf Try.prog 21) [1, 1, 1, 1])) (ev Try.prog md n ref16_Those_orc (cAt (bodyOf Try.prog 21) [1, 1, 1, 1]))) (retK Try.prog md (md 21) ref16_Those_ps ref16_Those_rs ref16_Those_ts)))
theorem ref16_Those_l5_succ (n m5 : Nat) (in2 : Bool) (out8 : List D) (i9 : Int) (a3 : D) (b4 : D) (t6_0 : Int) : ref16_Those_l5 n (m5 + 1) in2 out8 i9 a3 b4 t6_0 =
 .br (decide (i9 < (((a3.fld 2).els).length : Int))) (.br (decide (0 ≤ i9)) (.br (decide (i9 < (((a3.fld 2).els).length : Int))) (.call 45 [] [b4.fld 2, ((a3.fld 2).els).getD (Int.toNat i9) D.nil] fun yy1 =>
 .br ((decide (0 ≤ ((yy1.getD 0 D.nil).toInt))) == in2) (.br (decide (0 ≤ i9)) (.br (decide (i9 < (((a3.fld 2).els).length : Int))) (.br (decide (out8.length + [((a3.fld 2).els).getD (Int.toNat i9) D.nil].length ≤ bigN)) (ref16_Those_l5 n m5 in2 (out8 ++ [((a3.fld 2).els).getD (Int.toNat i9) D.nil]) (IntKind.wrap .i64 (i9 + 1)) a3 b4 t6_0) .fail) .fail) .fail)
 (ref16_Those_l5 n m5 in2 out8 (IntKind.wrap .i64 (i9 + 1)) a3 b4 t6_0)) .fail) .fail)
 (.call 44 [] [a3, b4] fun yy2 =>
 .call 54 [] [D.sl out8, D.int ((yy2.getD 0 D.nil).toInt)] fun yy3 =>
 .ret [yy3.getD 0 D.nil, D.int 0]) := by kernel_rfl
theorem ref16_Those_tree (n : Nat) (a0 : D) (b1 : D) (in2 : D) : evFun Try.prog md ref16_Those_orc n 21 [] [a0, b1, in2] =
 .br (decide (1 < (((a0.fld 1).els).length : Int))) (.ret [D.agg [D.int 0, D.sl [], D.sl []], D.int 5])
 (ref16_Those_l5 n n in2.toBool [] 0 a0 b1 0) := by kernel_rfl

/-! scrim/scrimref16.Union -/
def ref16_Union_orc : List (Nat × Orc) := [(6, ⟨[(2, none), (3, none), (4, none), (6, none), (7, none)], [(2, true), (3, true), (4, false)], [(.slot 6, 1060, 52)]⟩)]
def ref16_Union_ps : List Nat := [26, 26]
def ref16_Union_rs : List ResultVar := [.cell 4 26, .tmp 5]
def ref16_Union_ts : List Nat := [26, 3]
noncomputable def ref16_Union_l6 (n m6 : Nat) (out6 : List D) (i7 : Int) (a2 : D) (b3 : D) (t4_0 : Int) : Tree :=
  evLoop Try.prog md (ev Try.prog md n ref16_Union_orc (cAt (bodyOf Try.prog 23) [1, 1, 1, 1, 0, 1, 0, 0])) (orcAt ref16_Union_orc 6) m6 ⟨[.undef, .undef, .ptr 2 [], .ptr 3 [], .ptr 4 [], .undef, .row 1060, .i .i64 i7, .undef, .undef, .undef, .undef, .undef, .undef, .undef, .undef, .undef, .undef, .undef, .undef, .undef, .undef, .undef, .undef, .undef, .undef, .undef, .undef, .undef, .undef, .undef, .undef, .undef, .undef, .undef, .undef, .undef, .undef, .undef, .undef, .undef, .undef, .undef, .undef, .undef, .undef, .undef, .undef, .undef, .undef, .undef, .undef, .undef, .undef, .undef, .undef], [(2, .var 26 (.d 26 a2) true), (3, .var 26 (.d 26 b3) true), (4, .var 26 (.agg 26 [.i .u64 t4_0, .mt, .mt]) true), (1060, .row 52 out6 true)], [2, 3, 4, 1060], [], []⟩
   (blockK 0 (seqK (joinE Try.prog md (joinAt ref16_Union_orc (cAt (bodyOf Try.prog 23) [1, 1, 1, 1, 1])) (ev Try.prog md n ref16_Union_orc (cAt (bodyOf Try.prog 23) [1, 1, 1, 1, 1]))) (retK Try.prog md (md 23) ref16_Union_ps ref16_Union_rs ref16_Union_ts)))
theorem ref16_Union_l6_succ (n m6 : Nat) (out6 : List D) (i7 : Int) (a2 : D) (b3 : D) (t4_0 : Int) : ref16_Union_l6 n (m6 + 1) out6 i7 a2 b3 t4_0 =
 .br (decide (i7 < (((b3.fld 2).els).length : Int))) (.br (decide (0 ≤ i7)) (.br (decide (i7 < (((b3.fld 2).els).length : Int))) (.call 45 [] [a2.fld 2, ((b3.fld 2).els).getD (Int.toNat i7) D.nil] fun yy1 =>
 .br (decide (((yy1.getD 0 D.nil).toInt) < 0)) (.br (decide (0 ≤ i7)) (.br (decide (i7 < (((b3.fld 2).els).length : Int))) (.br (decide (out6.length + [((b3.fld 2).els).getD (Int.toNat i7) D.nil].length ≤ bigN)) (ref16_Union_l6 n m6 (out6 ++ [((b3.fld 2).els).getD (Int.toNat i7) D.nil]) (IntKind.wrap .i64 (i7 + 1)) a2 b3 t4_0) .fail) .fail) .fail)
 (ref16_Union_l6 n m6 out6 (IntKind.wrap .i64 (i7 + 1)) a2 b3 t4_0)) .fail) .fail)
 (.br (decide (2048 < (out6.length : Int))) (.ret [D.agg [D.int 0, D.sl [], D.sl []], D.int 7])
 (.call 44 [] [a2, b3] fun yy2 =>
 .call 54 [] [D.sl out6, D.int ((yy2.getD 0 D.nil).toInt)] fun yy3 =>
 .ret [yy3.getD 0 D.nil, D.int 0])) := by kernel_rfl
theorem ref16_Union_tree (n : Nat) (a0 : D) (b1 : D) : evFun Try.prog md ref16_Union_orc n 23 [] [a0, b1] =
 .br (decide (1 < (((a0.fld 1).els).length : Int))) (.ret [D.agg [D.int 0, D.sl [], D.sl []], D.int 5])
 (.br (decide (1 < (((b1.fld 1).els).length : Int))) (.ret [D.agg [D.int 0, D.sl [], D.sl []], D.int 5])
 (.br (decide (((a0.fld 2).els).length ≤ bigN)) (ref16_Union_l6 n n ((a0.fld 2).els) 0 a0 b1 0) .fail)) := by kernel_rfl

/-! scrim/scrimref16.Iota -/
def ref16_Iota_orc : List (Nat × Orc) := [(12, ⟨[(1, none), (2, none), (4, some 23), (6, none), (7, none)], [(1, true), (2, false)], [(.slot 6, 1120, 3)]⟩)]
def ref16_Iota_ps : List Nat := [26]
def ref16_Iota_rs : List ResultVar := [.cell 2 26, .tmp 3]
def ref16_Iota_ts : List Nat := [26, 3]
noncomputable def ref16_Iota_l12 (n m12 : Nat) (l4 : D) (out6 : List D) (i7 : Int) (nn1 : D) (t2_0 : Int) : Tree :=
  evLoop Try.prog md (ev Try.prog md n ref16_Iota_orc (cAt (bodyOf Try.prog 26) [1, 1, 1, 1, 1, 1, 1, 0, 1, 0, 0])) (orcAt ref16_Iota_orc 12) m12 ⟨[.undef, .ptr 1 [], .ptr 2 [], .undef, .d 23 l4, .undef, .row 1120, .i .i64 i7, .undef, .undef, .undef, .undef, .undef, .undef, .undef, .undef, .undef, .undef, .undef, .undef, .undef, .undef, .undef, .undef, .undef, .undef, .undef, .undef, .undef, .undef, .undef, .undef, .undef, .undef, .undef, .undef, .undef, .undef, .undef, .undef, .undef, .undef, .undef, .undef, .undef, .undef], [(1, .var 26 (.d 26 nn1) true), (2, .var 26 (.agg 26 [.i .u64 t2_0, .mt, .mt]) true), (1120, .row 3 out6 true)], [1, 2, 1120], [], []⟩
   (blockK 0 (seqK (joinE Try.prog md (joinAt ref16_Iota_orc (cAt (bodyOf Try.prog 26) [1, 1, 1, 1, 1, 1, 1, 1])) (ev Try.prog md n ref16_Iota_orc (cAt (bodyOf Try.prog 26) [1, 1, 1, 1, 1, 1, 1, 1]))) (retK Try.prog md (md 26) ref16_Iota_ps ref16_Iota_rs ref16_Iota_ts)))
theorem ref16_Iota_l12_succ (n m12 : Nat) (l4 : D) (out6 : List D) (i7 : Int) (nn1 : D) (t2_0 : Int) : ref16_Iota_l12 n (m12 + 1) l4 out6 i7 nn1 t2_0 =
 .br (decide (0 ≤ 0)) (.br (decide (0 < (l4.els.length : Int))) (.br (decide (i7 ≤ ((l4.els.getD (Int.toNat 0) D.nil).toInt))) (.br (decide (out6.length + [D.int i7].length ≤ bigN)) (ref16_Iota_l12 n m12 l4 (out6 ++ [D.int i7]) (IntKind.wrap .i64 (i7 + 1)) nn1 t2_0) .fail)
 (.call 55 [] [nn1] fun yy2 =>
 .call 38 [] [D.sl out6, D.int ((yy2.getD 0 D.nil).toInt)] fun yy3 =>
 .ret [yy3.getD 0 D.nil, D.int 0])) .fail) .fail := by kernel_rfl
theorem ref16_Iota_tree (n : Nat) (nn0 : D) : evFun Try.prog md ref16_Iota_orc n 26 [] [nn0] =
 .call 62 [] [nn0] fun yy1 =>
 .br (((yy1.getD 1 D.nil).toInt) != 0) (.ret [D.agg [D.int 0, D.sl [], D.sl []], D.int ((yy1.getD 1 D.nil).toInt)])
 (.br ((((yy1.getD 0 D.nil).els).length : Int) != 1) (.ret [D.agg [D.int 0, D.sl [], D.sl []], D.int 4])
 (.br (decide (0 ≤ 0)) (.br (decide (0 < (((yy1.getD 0 D.nil).els).length : Int))) (.br (decide (((((yy1.getD 0 D.nil).els).getD (Int.toNat 0) D.nil).toInt) < 0)) (.ret [D.agg [D.int 0, D.sl [], D.sl []], D.int 3])
 (.br (decide (0 ≤ 0)) (.br (decide (0 < (((yy1.getD 0 D.nil).els).length : Int))) (.br (decide (2048 < ((((yy1.getD 0 D.nil).els).getD (Int.toNat 0) D.nil).toInt))) (.ret [D.agg [D.int 0, D.sl [], D.sl []], D.int 7])
 (ref16_Iota_l12 n n (yy1.getD 0 D.nil) [] 1 nn0 0)) .fail) .fail)) .fail) .fail)) := by kernel_rfl

/-! scrim/scrimref16.both -/
def ref16_both_orc : List (Nat × Orc) := []
theorem ref16_both_tree (n : Nat) (a0 : D) (b1 : D) : evFun Try.prog md ref16_both_orc n 44 [] [a0, b1] =
 .call 55 [] [a0] fun yy1 =>
 .call 55 [] [b1] fun yy2 =>
 .call 85 [] [D.int ((yy1.getD 0 D.nil).toInt), D.int ((yy2.getD 0 D.nil).toInt)] fun yy3 =>
 .ret [D.int ((yy3.getD 0 D.nil).toInt)] := by kernel_rfl

/-! scrim/scrimref16.Place -/
def ref16_Place_orc : List (Nat × Orc) := [(2, ⟨[(0, some 24), (3, none), (5, none)], [(3, true)], []⟩)]
def ref16_Place_ps : List Nat := [24, 52]
def ref16_Place_rs : List ResultVar := [.tmp 4]
def ref16_Place_ts : List Nat := [3]
noncomputable def ref16_Place_l2 (n m2 : Nat) (l0 : D) (i5 : Int) (c3 : D) : Tree :=
  evLoop Try.prog md (ev Try.prog md n ref16_Place_orc (cAt (bodyOf Try.prog 45) [1, 0, 1, 0, 0])) (orcAt ref16_Place_orc 2) m2 ⟨[.d 24 l0, .undef, .undef, .ptr 3 [], .undef, .i .i64 i5, .undef, .undef, .undef, .undef, .undef, .undef, .undef, .undef, .undef, .undef, .undef, .undef, .undef], [(3, .var 52 (.d 52 c3) true)], [3], [], []⟩
   (blockK 0 (seqK (joinE Try.prog md (joinAt ref16_Place_orc (cAt (bodyOf Try.prog 45) [1, 1])) (ev Try.prog md n ref16_Place_orc (cAt (bodyOf Try.prog 45) [1, 1]))) (retK Try.prog md (md 45) ref16_Place_ps ref16_Place_rs ref16_Place_ts)))
theorem ref16_Place_l2_succ (n m2 : Nat) (l0 : D) (i5 : Int) (c3 : D) : ref16_Place_l2 n (m2 + 1) l0 i5 c3 =
 .br (decide (i5 < (l0.els.length : Int))) (.br (decide (0 ≤ i5)) (.br (decide (i5 < (l0.els.length : Int))) (.call 86 [] [l0.els.getD (Int.toNat i5) D.nil, c3] fun yy1 =>
 .br ((yy1.getD 0 D.nil).toBool) (.ret [D.int i5])
 (ref16_Place_l2 n m2 l0 (IntKind.wrap .i64 (i5 + 1)) c3)) .fail) .fail)
 (.ret [D.int (-1)]) := by kernel_rfl
theorem ref16_Place_tree (n : Nat) (l0 : D) (c1 : D) : evFun Try.prog md ref16_Place_orc n 45 [] [l0, c1] =
 ref16_Place_l2 n n l0 0 c1 := by kernel_rfl

/-! scrim/scrimref16.cells -/
def ref16_cells_orc : List (Nat × Orc) := []
theorem ref16_cells_tree (n : Nat) (l0 : D) (s1 : D) : evFun Try.prog md ref16_cells_orc n 54 [] [l0, s1] =
 .ret [D.agg [D.int s1.toInt, D.sl [D.int (l0.els.length : Int)], l0]] := by kernel_rfl

/-! scrim/scrimref16.alike -/
def ref16_alike_orc : List (Nat × Orc) := []
theorem ref16_alike_tree (n : Nat) (x0 : D) (y1 : D) : evFun Try.prog md ref16_alike_orc n 86 [] [x0, y1] =
 .call 123 [] [D.agg [D.int 0, D.sl [], D.sl [x0]], D.agg [D.int 0, D.sl [], D.sl [y1]]] fun yy1 =>
 .ret [D.bool ((yy1.getD 0 D.nil).toBool)] := by kernel_rfl

end Go.Proofs.Ytcgfpibkajagjaa
set_option maxRecDepth 100000
namespace Go.Proofs.Ytcgfpibkajagjaa

def FinderOk : Prop := ∀ (e : Nat) (l : List Cell), (∀ x ∈ l, SmlC e x) → l.length ≤ 2048 → ∃ g, (∀ n, grp g n = idxF l n 0) ∧ Sp 40 [.sl (l.map dC)] [fnd g l]
def bothS (a b : Arr) : Lab := totA a ||| totA b
theorem placeS_in {l : List Cell} {c : Cell} (h : l.length ≤ 2048) : -1 ≤ placeS l c 0 ∧ placeS l c 0 < (l.length : Int) := by
  have := placeS_range l c 0
  omega
noncomputable def idxC (l : List Cell) (c : Cell) : Cell := intC (if placeS l c 0 < 0 then (l.length : Int) + 1 else placeS l c 0 + 1)
noncomputable def indexA (a b : Arr) : Arr × Int := if a.shape.length = 1 then (.mk (bothS a b) b.shape (b.cells.map (idxC a.cells)), 0) else (.none, 5)
noncomputable def memC (l : List Cell) (c : Cell) : Cell := intC (if 0 ≤ placeS l c 0 then 1 else 0)
noncomputable def memberA (a b : Arr) : Arr := .mk (bothS a b) a.shape (a.cells.map (memC b.cells))
/-- Each once. -/
noncomputable def uniqL (l : List Cell) : List Cell → Nat → List Cell
  | [], _ => []
  | c :: cs, k => if placeS (l.take k) c 0 < 0 then c :: uniqL l cs (k + 1) else uniqL l cs (k + 1)
def lstA (s : Lab) (l : List Cell) : Arr := .mk s [(l.length : Int)] l
noncomputable def uniqA (a : Arr) : Arr × Int := if 1 < a.shape.length then (.none, 5) else (lstA (totA a) (uniqL a.cells a.cells 0), 0)
noncomputable def thoseL (l others : List Cell) (in_ : Bool) : List Cell := l.filter (fun c => decide (0 ≤ placeS others c 0) == in_)
noncomputable def thoseA (a b : Arr) (in_ : Bool) : Arr × Int := if 1 < a.shape.length then (.none, 5) else (lstA (bothS a b) (thoseL a.cells b.cells in_), 0)
noncomputable def unionA (a b : Arr) : Arr × Int := if 1 < a.shape.length then (.none, 5) else if 1 < b.shape.length then (.none, 5) else if 2048 < a.cells.length + (thoseL b.cells a.cells false).length then (.none, 7) else (lstA (bothS a b) (a.cells ++ thoseL b.cells a.cells false), 0)
def upTo (k : Nat) : List Int := (List.range k).map (fun (i : Nat) => (i : Int) + 1)
def iotaA (n : Arr) : Arr × Int := if (intsA n).2 = 0 then (match (intsA n).1 with
  | [k] => if k < 0 then (.none, 3) else if 2048 < k then (.none, 7) else (vecA (upTo k.toNat) (totA n), 0)
  | _ => (.none, 4)) else (.none, (intsA n).2)
theorem raise_vect (l : List Cell) (s : Lab) : raiseA (vectA l) s = lstA s l := by simp [raiseA, vectA, lstA]
theorem set_next2 {α : Type} {f : α → D} {z : D} (pre : List α) (x : α) (k : Nat) {i : Nat} (hi : i = pre.length) : ((pre.map f) ++ List.replicate (k + 1) z).set i (f x) = ((pre ++ [x]).map f) ++ List.replicate k z := by
  subst hi; exact set_next pre x k
theorem find_both_sp (a b : Arr) (ha : Fits a) (hb : Fits b) : Sp 43 [dA a, dA b] [dB (bothS a b)] := by
  refine sound_ 0 (find_both_tree _ _ _) (wp_call (array_Total_sp a ha) (wp_call (array_Total_sp b hb) ?_))
  simp only [dA_0, dA_1, dA_2, dC_0, dC_1, dC_2, dC_3, dC_4, dN_0, dN_1, dN_2, els_sl, els_dI, els_dL, List.length_map, Int.toNat_natCast, toInt_int, toInt_dB, toBool_bool, getD_c0, getD_c1, int_beq, int_bne, not_dec, dInt_dB, Int.toNat_zero]
  exact wp_call (label_Join_sp _ _) (wp_ret rfl)
theorem find_shaped_sp (s : Lab) (sh : List Int) (cs : List Cell) (h : sh.length ≤ 1048576) : Sp 42 [dB s, dI sh, .sl (cs.map dC)] [dA (.mk s sh cs)] := by
  refine sound_ 0 (find_shaped_tree _ _ _ _) (wp_dec (by simp only [els_dI, List.length_map, bigN]; omega) (wp_ret ?_))
  rw [dA_eq]; rfl
theorem find_Index_sp (hF : FinderOk) {d : Nat} (a b : Arr) (ha : Sml (d + 1) a) (hb : Sml (d + 1) b) (la : a.cells.length ≤ 2048) (lb : b.cells.length ≤ 2048) : Sp 12 [dA a, dA b] [dA (indexA a b).1, .int (indexA a b).2] := by
  refine sound_ 4096 (find_Index_tree _ _ _) ?_
  unfold indexA
  simp only [dA_0, dA_1, dA_2, dC_0, dC_1, dC_2, dC_3, dC_4, dN_0, dN_1, dN_2, els_sl, els_dI, els_dL, List.length_map, Int.toNat_natCast, toInt_int, toInt_dB, toBool_bool, getD_c0, getD_c1, int_beq, int_bne, not_dec, dInt_dB, Int.toNat_zero, dA_none, dC_none']
  refine wp_decs (fun h => wp_ret (by rw [if_neg (by omega)])) (fun h => ?_)
  rw [if_pos (by omega)]
  obtain ⟨g, hg, hsp⟩ := hF d a.cells ha.cell la
  refine wp_call hsp (wp_dec (by omega) (wp_dec (by omega) (wp_dec (by simp only [bigN]; omega) ?_)))
  have key := loop_list (P := Try.prog) (md := md) b.cells (fun m k (cs : List D) => find_Index_l7 4096 m (fnd g a.cells) cs (.sl (b.cells.map dC)) (b.cells.length : Int) (k : Int) (dA a) (dA b) 0 0) (fun _ _ => [dA (.mk (bothS a b) b.shape (b.cells.map (idxC a.cells))), .int 0])
    (fun rest cs => ∃ pre : List Cell, b.cells = pre ++ rest ∧ cs = (pre.map (idxC a.cells)).map dC ++ List.replicate rest.length (dC Cell.none))
    (fun m k cs hk hI => by
      obtain ⟨pre, h1, rfl⟩ := hI
      rw [List.append_nil] at h1
      simp only [find_Index_l7_succ_find_finder_1, dA_0, dA_1, dA_2, dC_0, dC_1, dC_2, dC_3, dC_4, dN_0, dN_1, dN_2, els_sl, els_dI, els_dL, List.length_map, Int.toNat_natCast, toInt_int, toInt_dB, toBool_bool, getD_c0, getD_c1, int_beq, int_bne, not_dec, dInt_dB, Int.toNat_zero]
      refine wp_ndec (by omega) (wp_call (find_both_sp a b ha.fits hb.fits) ?_)
      simp only [dA_0, dA_1, dA_2, dC_0, dC_1, dC_2, dC_3, dC_4, dN_0, dN_1, dN_2, els_sl, els_dI, els_dL, List.length_map, Int.toNat_natCast, toInt_int, toInt_dB, toBool_bool, getD_c0, getD_c1, int_beq, int_bne, not_dec, dInt_dB, Int.toNat_zero, List.length_nil, List.replicate_zero, List.append_nil]
      exact wp_call (find_shaped_sp (bothS a b) b.shape _ hb.1) (wp_ret (by rw [h1]; rfl)))
    (fun m k cs c rest hdr hI ih => by
      obtain ⟨h1, h2, h3⟩ := drop_cons hdr
      obtain ⟨pre, hp, rfl⟩ := hI
      have hk : k = (pre.map (idxC a.cells)).length := by
        have := congrArg List.length hdr
        rw [hp] at this h1
        simp at this h1 ⊢; omega
      have hcl : ((pre.map (idxC a.cells)).map dC ++ List.replicate (rest.length + 1) (dC Cell.none)).length = b.cells.length := by rw [hp]; simp
      have hpl := placeS_in (c := c) la
      have nxt : Tw (find_Index_l7 4096 m (fnd g a.cells) (((pre.map (idxC a.cells)).map dC ++ List.replicate (rest.length + 1) (dC Cell.none)).set k (dC (idxC a.cells c))) (.sl (b.cells.map dC)) (b.cells.length : Int) ((k + 1 : Nat) : Int) (dA a) (dA b) 0 0) [dA (.mk (bothS a b) b.shape (b.cells.map (idxC a.cells))), .int 0] := by
        rw [set_next2 (f := dC) (z := dC Cell.none) _ _ _ hk]
        exact ih _ ⟨pre ++ [c], by rw [hp]; simp, by simp⟩
      simp only [find_Index_l7_succ_find_finder_1, dA_0, dA_1, dA_2, dC_0, dC_1, dC_2, dC_3, dC_4, dN_0, dN_1, dN_2, els_sl, els_dI, els_dL, List.length_map, Int.toNat_natCast, toInt_int, toInt_dB, toBool_bool, getD_c0, getD_c1, int_beq, int_bne, not_dec, dInt_dB, Int.toNat_zero, getD_map h2, wrap_succ (show k < 9223372036854775807 by omega), fnId_fn, fnCts_fn, fnDs_fn, List.singleton_append, List.length_cons, hcl]
      refine wp_dec (by omega) (wp_dec (by omega) (wp_dec (by omega) (wp_call (finder1_sp g a.cells c hg (hb.cell c (List.mem_of_getElem? h2)) ha.cell (by omega)) ?_)))
      simp only [getD_c0, toInt_int]
      refine wp_decs (fun hlt => ?_) (fun hlt => ?_)
      · have w1 : IntKind.wrap .i64 ((a.cells.length : Int) + 1) = (a.cells.length : Int) + 1 := wrap64 (by omega) (by omega)
        have e1 : idxC a.cells c = intC ((a.cells.length : Int) + 1) := by unfold idxC; rw [if_pos hlt]
        rw [w1]
        rw [e1] at nxt
        refine wp_call (array_Int_sp _ (inR_small (by omega) (by omega))) (wp_dec (by omega) (wp_dec (by omega) nxt))
      · have w1 : IntKind.wrap .i64 (placeS a.cells c 0 + 1) = placeS a.cells c 0 + 1 := wrap64 (by omega) (by omega)
        have e1 : idxC a.cells c = intC (placeS a.cells c 0 + 1) := by unfold idxC; rw [if_neg hlt]
        rw [w1]
        rw [e1] at nxt
        exact wp_call (array_Int_sp _ (inR_small (by omega) (by omega))) (wp_dec (by omega) (wp_dec (by omega) nxt)))
    4096 0 (List.replicate b.cells.length (dC Cell.none)) (by omega) (by omega) ⟨[], by simp, by simp⟩
  exact key
theorem find_Member_sp (hF : FinderOk) {d : Nat} (a b : Arr) (ha : Sml (d + 1) a) (hb : Sml (d + 1) b) (la : a.cells.length ≤ 2048) (lb : b.cells.length ≤ 2048) : Sp 16 [dA a, dA b] [dA (memberA a b)] := by
  refine sound_ 4096 (find_Member_tree _ _ _) ?_
  simp only [dA_0, dA_1, dA_2, dC_0, dC_1, dC_2, dC_3, dC_4, dN_0, dN_1, dN_2, els_sl, els_dI, els_dL, List.length_map, Int.toNat_natCast, toInt_int, toInt_dB, toBool_bool, getD_c0, getD_c1, int_beq, int_bne, not_dec, dInt_dB, Int.toNat_zero, dA_none, dC_none']
  obtain ⟨g, hg, hsp⟩ := hF d b.cells hb.cell lb
  refine wp_call hsp (wp_dec (by omega) (wp_dec (by omega) (wp_dec (by simp only [bigN]; omega) ?_)))
  have key := loop_list (P := Try.prog) (md := md) a.cells (fun m k (cs : List D) => find_Member_l5 4096 m (fnd g b.cells) cs (.sl (a.cells.map dC)) (a.cells.length : Int) (k : Int) (dA a) (dA b) 0) (fun _ _ => [dA (memberA a b)])
    (fun rest cs => ∃ pre : List Cell, a.cells = pre ++ rest ∧ cs = (pre.map (memC b.cells)).map dC ++ List.replicate rest.length (dC Cell.none))
    (fun m k cs hk hI => by
      obtain ⟨pre, h1, rfl⟩ := hI
      rw [List.append_nil] at h1
      simp only [find_Member_l5_succ_find_finder_1, dA_0, dA_1, dA_2, dC_0, dC_1, dC_2, dC_3, dC_4, dN_0, dN_1, dN_2, els_sl, els_dI, els_dL, List.length_map, Int.toNat_natCast, toInt_int, toInt_dB, toBool_bool, getD_c0, getD_c1, int_beq, int_bne, not_dec, dInt_dB, Int.toNat_zero]
      refine wp_ndec (by omega) (wp_call (find_both_sp a b ha.fits hb.fits) ?_)
      simp only [dA_0, dA_1, dA_2, dC_0, dC_1, dC_2, dC_3, dC_4, dN_0, dN_1, dN_2, els_sl, els_dI, els_dL, List.length_map, Int.toNat_natCast, toInt_int, toInt_dB, toBool_bool, getD_c0, getD_c1, int_beq, int_bne, not_dec, dInt_dB, Int.toNat_zero, List.length_nil, List.replicate_zero, List.append_nil]
      exact wp_call (find_shaped_sp (bothS a b) a.shape _ ha.1) (wp_ret (by unfold memberA; rw [h1]; rfl)))
    (fun m k cs c rest hdr hI ih => by
      obtain ⟨h1, h2, h3⟩ := drop_cons hdr
      obtain ⟨pre, hp, rfl⟩ := hI
      have hk : k = (pre.map (memC b.cells)).length := by
        have := congrArg List.length hdr
        rw [hp] at this h1
        simp at this h1 ⊢; omega
      have hcl : ((pre.map (memC b.cells)).map dC ++ List.replicate (rest.length + 1) (dC Cell.none)).length = a.cells.length := by rw [hp]; simp
      have nxt : Tw (find_Member_l5 4096 m (fnd g b.cells) (((pre.map (memC b.cells)).map dC ++ List.replicate (rest.length + 1) (dC Cell.none)).set k (dC (memC b.cells c))) (.sl (a.cells.map dC)) (a.cells.length : Int) ((k + 1 : Nat) : Int) (dA a) (dA b) 0) [dA (memberA a b)] := by
        rw [set_next2 (f := dC) (z := dC Cell.none) _ _ _ hk]
        exact ih _ ⟨pre ++ [c], by rw [hp]; simp, by simp⟩
      simp only [find_Member_l5_succ_find_finder_1, dA_0, dA_1, dA_2, dC_0, dC_1, dC_2, dC_3, dC_4, dN_0, dN_1, dN_2, els_sl, els_dI, els_dL, List.length_map, Int.toNat_natCast, toInt_int, toInt_dB, toBool_bool, getD_c0, getD_c1, int_beq, int_bne, not_dec, dInt_dB, Int.toNat_zero, getD_map h2, wrap_succ (show k < 9223372036854775807 by omega), fnId_fn, fnCts_fn, fnDs_fn, List.singleton_append, List.length_cons, hcl]
      refine wp_dec (by omega) (wp_dec (by omega) (wp_dec (by omega) (wp_call (finder1_sp g b.cells c hg (ha.cell c (List.mem_of_getElem? h2)) hb.cell (by omega)) ?_)))
      simp only [getD_c0, toInt_int]
      refine wp_decs (fun hlt => ?_) (fun hlt => ?_)
      · have e1 : memC b.cells c = intC 1 := by unfold memC; rw [if_pos hlt]
        rw [e1] at nxt
        exact wp_call (array_Int_sp _ (inR_small (by omega) (by omega))) (wp_dec (by omega) (wp_dec (by omega) nxt))
      · have e1 : memC b.cells c = intC 0 := by unfold memC; rw [if_neg hlt]
        rw [e1] at nxt
        exact wp_call (array_Int_sp _ (inR_small (by omega) (by omega))) (wp_dec (by omega) (wp_dec (by omega) nxt)))
    4096 0 (List.replicate a.cells.length (dC Cell.none)) (by omega) (by omega) ⟨[], by simp, by simp⟩
  exact key
theorem placeS_take : ∀ (l : List Cell) (c : Cell) (k i : Nat), l[i]? = some c → (placeS l c k = ((k + i : Nat) : Int) ↔ placeS (l.take i) c k < 0)
  | [], c, k, i, h => by simp at h
  | x :: xs, c, k, 0, h => by
    simp at h
    subst h
    simp [placeS, sameB_self]
  | x :: xs, c, k, i + 1, h => by
    simp only [List.take_succ_cons, placeS]
    have ih := placeS_take xs c (k + 1) i (by simpa using h)
    split
    · constructor <;> intro hh <;> omega
    · rw [← ih, show k + 1 + i = k + (i + 1) by omega]
theorem uniqL_sub : ∀ {l cs : List Cell} {k : Nat}, ∀ c ∈ uniqL l cs k, c ∈ cs
  | l, [], k, c, h => by simp [uniqL] at h
  | l, x :: xs, k, c, h => by
    simp only [uniqL] at h
    split at h
    · rcases List.mem_cons.1 h with rfl | h
      · simp
      · exact List.mem_cons_of_mem _ (uniqL_sub c h)
    · exact List.mem_cons_of_mem _ (uniqL_sub c h)
theorem uniqL_len : ∀ {l cs : List Cell} {k : Nat}, (uniqL l cs k).length ≤ cs.length
  | l, [], k => by simp [uniqL]
  | l, x :: xs, k => by
    simp only [uniqL]
    split
    · simp only [List.length_cons]; have := uniqL_len (l := l) (cs := xs) (k := k + 1); omega
    · simp only [List.length_cons]; have := uniqL_len (l := l) (cs := xs) (k := k + 1); omega
theorem smlC_vec {d : Nat} {l : List Cell} (h : ∀ c ∈ l, SmlC d c) (hl : l.length ≤ 100000) {s : Lab} : Sml (d + 1) (lstA s l) := Sml.of (by simp [lstA]) (by simp only [lstA, Arr.cells_mk]; omega) (fun x hx => by simp [lstA] at hx; subst hx; exact inR_small (by omega) (by omega)) h
theorem find_Unique_sp (hF : FinderOk) {d : Nat} (a : Arr) (ha : Sml (d + 1) a) (la : a.cells.length ≤ 2048) : Sp 18 [dA a] [dA (uniqA a).1, .int (uniqA a).2] := by
  refine sound_ 4096 (find_Unique_tree _ _) ?_
  unfold uniqA
  simp only [dA_0, dA_1, dA_2, dC_0, dC_1, dC_2, dC_3, dC_4, dN_0, dN_1, dN_2, els_sl, els_dI, els_dL, List.length_map, Int.toNat_natCast, toInt_int, toInt_dB, toBool_bool, getD_c0, getD_c1, int_beq, int_bne, not_dec, dInt_dB, Int.toNat_zero, dA_none, dC_none']
  refine wp_decs (fun h => wp_ret (by rw [if_pos (by omega)])) (fun h => ?_)
  rw [if_neg (by omega)]
  obtain ⟨g, hg, hsp⟩ := hF d a.cells ha.cell la
  refine wp_call hsp ?_
  have key := loop_list (P := Try.prog) (md := md) a.cells (fun m k (out : List Cell) => find_Unique_l7 4096 m (fnd g a.cells) (out.map dC) (.sl (a.cells.map dC)) (a.cells.length : Int) (k : Int) (dA a) 0 0) (fun rest out => [dA (lstA (totA a) (out ++ uniqL a.cells rest (a.cells.length - rest.length))), .int 0])
    (fun rest out => out.length + rest.length ≤ 2048 ∧ ∀ c ∈ out, SmlC d c)
    (fun m k out hk hI => by
      simp only [find_Unique_l7_succ_find_finder_1, dA_0, dA_1, dA_2, dC_0, dC_1, dC_2, dC_3, dC_4, dN_0, dN_1, dN_2, els_sl, els_dI, els_dL, List.length_map, Int.toNat_natCast, toInt_int, toInt_dB, toBool_bool, getD_c0, getD_c1, int_beq, int_bne, not_dec, dInt_dB, Int.toNat_zero]
      refine wp_ndec (by omega) (wp_call (array_Vector_sp out hI.2 (by have := hI.1; omega)) (wp_call (array_Total_sp a ha.fits) ?_))
      simp only [dA_0, dA_1, dA_2, dC_0, dC_1, dC_2, dC_3, dC_4, dN_0, dN_1, dN_2, els_sl, els_dI, els_dL, List.length_map, Int.toNat_natCast, toInt_int, toInt_dB, toBool_bool, getD_c0, getD_c1, int_beq, int_bne, not_dec, dInt_dB, Int.toNat_zero]
      refine wp_call (array_Raise_sp (vectA out) (totA a)) (wp_ret ?_)
      simp only [uniqL, List.append_nil, getD_c0]
      rw [raise_vect])
    (fun m k out c rest hdr hI ih => by
      obtain ⟨h1, h2, h3⟩ := drop_cons hdr
      have hle := congrArg List.length hdr
      rw [List.length_drop, List.length_cons] at hle
      have hk : a.cells.length - (c :: rest).length = k := by rw [List.length_cons]; omega
      have hk' : a.cells.length - rest.length = k + 1 := by omega
      have hcm := List.mem_of_getElem? h2
      have hpt := placeS_take a.cells c 0 k h2
      rw [Nat.zero_add] at hpt
      have hI1 := hI.1
      rw [List.length_cons] at hI1
      simp only [find_Unique_l7_succ_find_finder_1, dA_0, dA_1, dA_2, dC_0, dC_1, dC_2, dC_3, dC_4, dN_0, dN_1, dN_2, els_sl, els_dI, els_dL, List.length_map, Int.toNat_natCast, toInt_int, toInt_dB, toBool_bool, getD_c0, getD_c1, int_beq, int_bne, not_dec, dInt_dB, Int.toNat_zero, getD_map h2, wrap_succ (show k < 9223372036854775807 by omega), fnId_fn, fnCts_fn, fnDs_fn, List.singleton_append]
      refine wp_dec (by omega) (wp_dec (by omega) (wp_dec (by omega) (wp_call (finder1_sp g a.cells c hg (ha.cell c hcm) ha.cell (by omega)) ?_)))
      simp only [getD_c0, toInt_int, hk, uniqL]
      refine wp_decs (fun he => wp_dec (by simp only [List.length_cons, List.length_nil, bigN]; omega) ?_) (fun he => ?_)
      · have := ih (out ++ [c]) ⟨by simp; omega, fun x hx => by rcases List.mem_append.1 hx with hx | hx; exact hI.2 x hx; simp at hx; subst hx; exact ha.cell _ hcm⟩
        rw [List.map_append, hk'] at this
        rw [if_pos (hpt.1 he)]
        refine Tree.wp_mono this (fun ys hy => hy.trans ?_)
        simp
      · have := ih out ⟨by omega, hI.2⟩
        rw [hk'] at this
        rw [if_neg (fun hh => he (hpt.2 hh))]
        exact this)
    4096 0 [] (by omega) (by omega) ⟨by simpa using la, by simp⟩
  simpa using key
theorem thoseL_sub {l o : List Cell} {i : Bool} : ∀ c ∈ thoseL l o i, c ∈ l := fun c h => (List.mem_filter.1 h).1
theorem thoseL_len {l o : List Cell} {i : Bool} : (thoseL l o i).length ≤ l.length := List.length_filter_le _ _
theorem thoseL_pos {l o : List Cell} {c : Cell} {i : Bool} (h : (decide (0 ≤ placeS o c 0) == i) = true) : thoseL (c :: l) o i = c :: thoseL l o i := List.filter_cons_of_pos h
theorem thoseL_neg {l o : List Cell} {c : Cell} {i : Bool} (h : (decide (0 ≤ placeS o c 0) == i) = false) : thoseL (c :: l) o i = thoseL l o i := List.filter_cons_of_neg (by rw [h]; decide)
theorem find_those_sp (hF : FinderOk) {d e : Nat} (l o : List Cell) (in_ : Bool) (hl : ∀ x ∈ l, SmlC d x) (ho : ∀ x ∈ o, SmlC e x) (ll : l.length ≤ 2048) (lo : o.length ≤ 2048) : Sp 57 [.sl (l.map dC), .sl (o.map dC), .bool in_] [.sl ((thoseL l o in_).map dC)] := by
  refine sound_ 4096 (find_those_tree _ _ _ _) ?_
  simp only [dA_0, dA_1, dA_2, dC_0, dC_1, dC_2, dC_3, dC_4, dN_0, dN_1, dN_2, els_sl, els_dI, els_dL, List.length_map, Int.toNat_natCast, toInt_int, toInt_dB, toBool_bool, getD_c0, getD_c1, int_beq, int_bne, not_dec, dInt_dB, Int.toNat_zero]
  obtain ⟨g, hg, hsp⟩ := hF e o ho lo
  refine wp_call hsp ?_
  have key := loop_list (P := Try.prog) (md := md) l (fun m k (out : List Cell) => find_those_l4 4096 m in_ (fnd g o) (out.map dC) (.sl (l.map dC)) (l.length : Int) (k : Int)) (fun rest out => [.sl ((out ++ thoseL rest o in_).map dC)]) (fun rest out => out.length + rest.length ≤ 2048)
    (fun m k out hk hI => by
      simp only [find_those_l4_succ_find_finder_1]
      exact wp_ndec (by omega) (wp_ret (by simp [thoseL])))
    (fun m k out c rest hdr hI ih => by
      obtain ⟨h1, h2, h3⟩ := drop_cons hdr
      rw [List.length_cons] at hI
      simp only [find_those_l4_succ_find_finder_1, dA_0, dA_1, dA_2, dC_0, dC_1, dC_2, dC_3, dC_4, dN_0, dN_1, dN_2, els_sl, els_dI, els_dL, List.length_map, Int.toNat_natCast, toInt_int, toInt_dB, toBool_bool, getD_c0, getD_c1, int_beq, int_bne, not_dec, dInt_dB, Int.toNat_zero, getD_map h2, wrap_succ (show k < 9223372036854775807 by omega), fnId_fn, fnCts_fn, fnDs_fn, List.singleton_append]
      refine wp_dec (by omega) (wp_dec (by omega) (wp_dec (by omega) (wp_call (finder1_sp g o c hg (hl c (List.mem_of_getElem? h2)) ho (by omega)) ?_)))
      simp only [getD_c0, toInt_int]
      refine wp_br (fun hb => wp_dec (by simp only [List.length_cons, List.length_nil, bigN]; omega) ?_) (fun hb => ?_)
      · have := ih (out ++ [c]) (by simp; omega)
        rw [List.map_append] at this
        refine Tree.wp_mono this (fun ys hy => hy.trans ?_)
        rw [thoseL_pos hb]
        simp
      · have := ih out (by omega)
        refine Tree.wp_mono this (fun ys hy => hy.trans ?_)
        rw [thoseL_neg hb])
    4096 0 [] (by omega) (by omega) (by simpa using ll)
  simpa using key
theorem find_Those_sp (hF : FinderOk) {d e : Nat} (a b : Arr) (in_ : Bool) (ha : Sml (d + 1) a) (hb : Sml (e + 1) b) (la : a.cells.length ≤ 2048) (lb : b.cells.length ≤ 2048) : Sp 20 [dA a, dA b, .bool in_] [dA (thoseA a b in_).1, .int (thoseA a b in_).2] := by
  refine sound_ 0 (find_Those_tree _ _ _ _) ?_
  unfold thoseA
  simp only [dA_0, dA_1, dA_2, dC_0, dC_1, dC_2, dC_3, dC_4, dN_0, dN_1, dN_2, els_sl, els_dI, els_dL, List.length_map, Int.toNat_natCast, toInt_int, toInt_dB, toBool_bool, getD_c0, getD_c1, int_beq, int_bne, not_dec, dInt_dB, Int.toNat_zero, dA_none]
  refine wp_decs (fun h => wp_ret (by rw [if_pos (by omega)])) (fun h => ?_)
  rw [if_neg (by omega)]
  have hs := thoseL_len (l := a.cells) (o := b.cells) (i := in_)
  refine wp_call (find_those_sp hF a.cells b.cells in_ ha.cell hb.cell la lb) (wp_call (array_Vector_sp _ (fun c hc => ha.cell c (thoseL_sub c hc)) (by omega)) (wp_call (find_both_sp a b ha.fits hb.fits) ?_))
  simp only [dA_0, dA_1, dA_2, dC_0, dC_1, dC_2, dC_3, dC_4, dN_0, dN_1, dN_2, els_sl, els_dI, els_dL, List.length_map, Int.toNat_natCast, toInt_int, toInt_dB, toBool_bool, getD_c0, getD_c1, int_beq, int_bne, not_dec, dInt_dB, Int.toNat_zero]
  refine wp_call (array_Raise_sp _ (bothS a b)) (wp_ret ?_)
  rw [getD_c0, raise_vect]
theorem find_Union_sp (hF : FinderOk) {d : Nat} (a b : Arr) (ha : Sml (d + 1) a) (hb : Sml (d + 1) b) (la : a.cells.length ≤ 2048) (lb : b.cells.length ≤ 2048) : Sp 22 [dA a, dA b] [dA (unionA a b).1, .int (unionA a b).2] := by
  refine sound_ 0 (find_Union_tree _ _ _) ?_
  unfold unionA
  simp only [dA_0, dA_1, dA_2, dC_0, dC_1, dC_2, dC_3, dC_4, dN_0, dN_1, dN_2, els_sl, els_dI, els_dL, List.length_map, Int.toNat_natCast, toInt_int, toInt_dB, toBool_bool, getD_c0, getD_c1, int_beq, int_bne, not_dec, dInt_dB, Int.toNat_zero, dA_none, dC_none', List.replicate_zero, List.nil_append, List.length_nil]
  refine wp_decs (fun h => wp_ret (by rw [if_pos (by omega)])) (fun h => ?_)
  rw [if_neg (by omega)]
  refine wp_decs (fun h => wp_ret (by rw [if_pos (by omega)])) (fun h => ?_)
  rw [if_neg (by omega)]
  have hs := thoseL_len (l := b.cells) (o := a.cells) (i := false)
  refine wp_call (find_those_sp hF b.cells a.cells false hb.cell ha.cell lb la) ?_
  simp only [dA_0, dA_1, dA_2, dC_0, dC_1, dC_2, dC_3, dC_4, dN_0, dN_1, dN_2, els_sl, els_dI, els_dL, List.length_map, Int.toNat_natCast, toInt_int, toInt_dB, toBool_bool, getD_c0, getD_c1, int_beq, int_bne, not_dec, dInt_dB, Int.toNat_zero]
  have w1 : IntKind.wrap .i64 ((a.cells.length : Int) + ((thoseL b.cells a.cells false).length : Int)) = (a.cells.length : Int) + ((thoseL b.cells a.cells false).length : Int) := wrap64 (by omega) (by omega)
  simp only [w1]
  refine wp_decs (fun h => wp_ret (by rw [if_pos (by omega)])) (fun h => ?_)
  rw [if_neg (by omega)]
  refine wp_dec (by omega) (wp_dec (by omega) (wp_dec (by simp only [bigN]; omega) (wp_dec (by simp only [bigN]; omega) (wp_dec (by simp only [List.length_map, bigN]; omega) ?_))))
  rw [← List.map_append]
  refine wp_call (array_Vector_sp _ (fun c hc => by
    rcases List.mem_append.1 hc with hc | hc
    · exact ha.cell c hc
    · exact hb.cell c (thoseL_sub c hc)) (by rw [List.length_append]; omega)) (wp_call (find_both_sp a b ha.fits hb.fits) ?_)
  simp only [dA_0, dA_1, dA_2, dC_0, dC_1, dC_2, dC_3, dC_4, dN_0, dN_1, dN_2, els_sl, els_dI, els_dL, List.length_map, Int.toNat_natCast, toInt_int, toInt_dB, toBool_bool, getD_c0, getD_c1, int_beq, int_bne, not_dec, dInt_dB, Int.toNat_zero]
  refine wp_call (array_Raise_sp _ (bothS a b)) (wp_ret ?_)
  rw [getD_c0, raise_vect]
theorem upTo_succ (k : Nat) : upTo (k + 1) = upTo k ++ [(k : Int) + 1] := by simp [upTo, List.range_succ]
theorem upTo_len (k : Nat) : (upTo k).length = k := by simp [upTo]
theorem upTo_in {k : Nat} (h : k ≤ 2048) : ∀ x ∈ upTo k, inR x := fun x hx => by
  simp only [upTo, List.mem_map, List.mem_range] at hx
  obtain ⟨i, hi, rfl⟩ := hx
  exact inR_small (by omega) (by omega)
theorem raise_vec (l : List Int) (s : Lab) : raiseA (vectA (l.map intC)) s = vecA l s := by simp [raiseA, vectA, vecA]
theorem ints_len {n : Arr} {m : Nat} (h : n.cells.length ≤ m) : (intsA n).1.length ≤ m := by
  unfold intsA
  split
  · simp
  · split
    · rename_i l hl; have := (intsCs_inR hl).1; simp only; omega
    · simp
theorem iota_one {n : Arr} (h : ¬ (intsA n).1.length = 1) (h0 : (intsA n).2 = 0) : iotaA n = (.none, 4) := by
  unfold iotaA
  rw [if_pos h0]
  split
  · rename_i k hk; rw [hk] at h; exact absurd rfl h
  · rfl
theorem find_Iota_sp (n : Arr) (hn : Fits n) (hnl : n.cells.length ≤ 2048) (hnt : ∀ c ∈ n.cells, c.n.top.length ≤ 32) : Sp 25 [dA n] [dA (iotaA n).1, .int (iotaA n).2] := by
  refine sound_ 4096 (find_Iota_tree _ _) (wp_call (array_Ints_sp n hnl hnt) ?_)
  simp only [dA_0, dA_1, dA_2, dC_0, dC_1, dC_2, dC_3, dC_4, dN_0, dN_1, dN_2, els_sl, els_dI, els_dL, List.length_map, Int.toNat_natCast, toInt_int, toInt_dB, toBool_bool, getD_c0, getD_c1, int_beq, int_bne, not_dec, dInt_dB, Int.toNat_zero, dA_none, dC_none']
  refine wp_decs (fun h => wp_ret (by unfold iotaA; rw [if_neg h])) (fun h => ?_)
  have h0 : (intsA n).2 = 0 := Classical.not_not.1 h
  refine wp_decs (fun h1 => wp_ret (by rw [iota_one (by omega) h0])) (fun h1 => ?_)
  obtain ⟨k, hk⟩ := len_one (l := (intsA n).1) (by omega)
  unfold iotaA
  rw [if_pos h0, hk]
  simp only [List.map_cons, List.map_nil, List.length_cons, List.length_nil, getD_c0, toInt_int]
  refine wp_dec (by omega) (wp_dec (by omega) (wp_decs (fun h2 => wp_ret (by rw [if_pos h2])) (fun h2 => ?_)))
  rw [if_neg h2]
  refine wp_dec (by omega) (wp_dec (by omega) (wp_decs (fun h3 => wp_ret (by rw [if_pos h3])) (fun h3 => ?_)))
  rw [if_neg h3]
  refine wp_dec (by omega) (wp_dec (by omega) (wp_dec (by omega) (wp_dec (by omega) (wp_dec (by simp only [bigN]; omega) ?_))))
  obtain ⟨K, rfl⟩ : ∃ K : Nat, k = (K : Int) := ⟨k.toNat, by omega⟩
  simp only [Int.toNat_natCast, List.length_replicate]
  have key := loop_up (P := Try.prog) (md := md) K (fun m k (cs : List D) => find_Iota_l12 4096 m cs (K : Int) (k : Int) (dA n) 0) (fun _ _ => [dA (vecA (upTo K) (totA n)), .int 0])
    (fun k cs => cs = ((upTo k).map intC).map dC ++ List.replicate (K - k) (dC Cell.none))
    (fun m cs hI => by
      simp only [find_Iota_l12_succ]
      rw [hI, Nat.sub_self, List.replicate_zero, List.append_nil]
      refine wp_ndec (by omega) (wp_call (array_Vector_sp (d := 0) _ (fun c hc => by
        obtain ⟨z, hz, rfl⟩ := List.mem_map.1 hc
        exact smlC_int (upTo_in (by omega) z hz) 0) (by rw [List.length_map, upTo_len]; omega)) (wp_call (array_Total_sp n hn) ?_))
      simp only [dA_0, dA_1, dA_2, dC_0, dC_1, dC_2, dC_3, dC_4, dN_0, dN_1, dN_2, els_sl, els_dI, els_dL, List.length_map, Int.toNat_natCast, toInt_int, toInt_dB, toBool_bool, getD_c0, getD_c1, int_beq, int_bne, not_dec, dInt_dB, Int.toNat_zero]
      refine wp_call (array_Raise_sp _ (totA n)) (wp_ret ?_)
      rw [getD_c0, raise_vec])
    (fun m k cs hkK hI ih => by
      have hcl : cs.length = K := by rw [hI]; simp [upTo_len]; omega
      have w1 := wrap_succ (show k < 9223372036854775807 by omega)
      simp only [find_Iota_l12_succ, hcl, w1, Int.toNat_natCast]
      refine wp_dec (by omega) (wp_call (array_Int_sp _ (inR_small (by omega) (by omega))) (wp_dec (by omega) (wp_dec (by omega) ?_)))
      refine ih _ ?_
      rw [hI, show K - k = (K - (k + 1)) + 1 by omega, getD_c0, set_next2 (f := dC) (z := dC Cell.none) ((upTo k).map intC) (intC ((k + 1 : Nat) : Int)) (K - (k + 1)) (by simp [upTo_len]), upTo_succ]
      simp)
    4096 0 (List.replicate K (dC Cell.none)) (by omega) (by omega) (by simp [upTo])
  exact key
theorem ref16_alike_sp {d e : Nat} (x y : Cell) (hx : SmlC d x) (hy : SmlC e y) : Sp 86 [dC x, dC y] [.bool (sameB x y)] := by
  have s : ∀ {d : Nat} {x : Cell}, SmlC d x → Sml (d + 1) (oneA x) := fun hx => Sml.of (by simp [oneA]) (by simp [oneA]) (by simp [oneA]) (fun z hz => by simp [oneA] at hz; subst hz; exact hx)
  have e1 : ∀ x : Cell, D.agg [D.int 0, D.sl [], D.sl [dC x]] = dA (oneA x) := fun x => by rw [dA_eq]; rfl
  refine sound_ 0 (ref16_alike_tree _ _ _) ?_
  rw [e1, e1]
  have hm := ref08_Match_sp (oneA x) (oneA y) (s hx) (s hy)
  rw [mat_one] at hm
  exact wp_call hm (wp_ret rfl)
theorem ref16_Place_sp {d e : Nat} (l : List Cell) (c : Cell) (hl : ∀ x ∈ l, SmlC d x) (hc : SmlC e c) (ll : l.length ≤ 2048) : Sp 45 [.sl (l.map dC), dC c] [.int (placeS l c 0)] := by
  refine sound_ 4096 (ref16_Place_tree _ _ _) ?_
  have key := loop_list (P := Try.prog) (md := md) l (fun m k (_ : Unit) => ref16_Place_l2 4096 m (.sl (l.map dC)) (k : Int) (dC c)) (fun rest _ => [.int (placeS rest c (l.length - rest.length))]) (fun _ _ => True)
    (fun m k s hk _ => by
      simp only [ref16_Place_l2_succ, dA_0, dA_1, dA_2, dC_0, dC_1, dC_2, dC_3, dC_4, dN_0, dN_1, dN_2, els_sl, els_dI, els_dL, List.length_map, Int.toNat_natCast, toInt_int, toInt_dB, toBool_bool, getD_c0, getD_c1, int_beq, int_bne, not_dec, dInt_dB, Int.toNat_zero]
      exact wp_ndec (by omega) (wp_ret rfl))
    (fun m k s x rest hdr _ ih => by
      obtain ⟨h1, h2, h3⟩ := drop_cons hdr
      have hle := congrArg List.length hdr
      rw [List.length_drop, List.length_cons] at hle
      have hk : l.length - (x :: rest).length = k := by rw [List.length_cons]; omega
      have hk' : l.length - rest.length = k + 1 := by omega
      simp only [ref16_Place_l2_succ, dA_0, dA_1, dA_2, dC_0, dC_1, dC_2, dC_3, dC_4, dN_0, dN_1, dN_2, els_sl, els_dI, els_dL, List.length_map, Int.toNat_natCast, toInt_int, toInt_dB, toBool_bool, getD_c0, getD_c1, int_beq, int_bne, not_dec, dInt_dB, Int.toNat_zero, getD_map h2, wrap_succ (show k < 9223372036854775807 by omega)]
      refine wp_dec (by omega) (wp_dec (by omega) (wp_dec (by omega) (wp_call (ref16_alike_sp x c (hl x (List.mem_of_getElem? h2)) hc) ?_)))
      simp only [getD_c0, toBool_bool, hk, placeS]
      refine wp_br (fun h => wp_ret (by rw [if_pos h])) (fun h => ?_)
      rw [if_neg (by simp [h])]
      have := ih () trivial
      rw [hk'] at this
      exact this)
    4096 0 () (by omega) (by omega) trivial
  simpa using key
theorem ref16_both_sp (a b : Arr) (ha : Fits a) (hb : Fits b) : Sp 44 [dA a, dA b] [dB (bothS a b)] := by
  refine sound_ 0 (ref16_both_tree _ _ _) (wp_call (ref08_Total_sp a ha) (wp_call (ref08_Total_sp b hb) ?_))
  simp only [dA_0, dA_1, dA_2, dC_0, dC_1, dC_2, dC_3, dC_4, dN_0, dN_1, dN_2, els_sl, els_dI, els_dL, List.length_map, Int.toNat_natCast, toInt_int, toInt_dB, toBool_bool, getD_c0, getD_c1, int_beq, int_bne, not_dec, dInt_dB, Int.toNat_zero]
  exact wp_call (ref01_Join_sp _ _) (wp_ret rfl)
theorem ref16_cells_sp (l : List Cell) (s : Lab) : Sp 54 [.sl (l.map dC), dB s] [dA (lstA s l)] := by
  refine sound_ 0 (ref16_cells_tree _ _ _) (wp_ret ?_)
  rw [dA_eq]
  simp [lstA, dI, dInt_dB]
theorem ref16_Index_sp {d e : Nat} (a b : Arr) (ha : Sml (d + 1) a) (hb : Sml (e + 1) b) (la : a.cells.length ≤ 2048) (lb : b.cells.length ≤ 2048) : Sp 13 [dA a, dA b] [dA (indexA a b).1, .int (indexA a b).2] := by
  refine sound_ 4096 (ref16_Index_tree _ _ _) ?_
  unfold indexA
  simp only [dA_0, dA_1, dA_2, dC_0, dC_1, dC_2, dC_3, dC_4, dN_0, dN_1, dN_2, els_sl, els_dI, els_dL, List.length_map, Int.toNat_natCast, toInt_int, toInt_dB, toBool_bool, getD_c0, getD_c1, int_beq, int_bne, not_dec, dInt_dB, Int.toNat_zero, dA_none]
  refine wp_decs (fun h => wp_ret (by rw [if_neg (by omega)])) (fun h => ?_)
  rw [if_pos (by omega)]
  refine wp_call (ref16_both_sp a b ha.fits hb.fits) ?_
  have key := loop_list (P := Try.prog) (md := md) b.cells (fun m k (out : List Cell) => ref16_Index_l5 4096 m (k : Int) (dA a) (dA b) 0 ((bothS a b).toNat : Int) (dI b.shape) (out.map dC)) (fun rest out => [dA (.mk (bothS a b) b.shape (out ++ rest.map (idxC a.cells))), .int 0]) (fun rest out => out.length + rest.length ≤ 2048)
    (fun m k out hk hI => by
      simp only [ref16_Index_l5_succ, dA_0, dA_1, dA_2, dC_0, dC_1, dC_2, dC_3, dC_4, dN_0, dN_1, dN_2, els_sl, els_dI, els_dL, List.length_map, Int.toNat_natCast, toInt_int, toInt_dB, toBool_bool, getD_c0, getD_c1, int_beq, int_bne, not_dec, dInt_dB, Int.toNat_zero]
      refine wp_ndec (by omega) (wp_ret ?_)
      rw [dA_eq]; simp)
    (fun m k out c rest hdr hI ih => by
      obtain ⟨h1, h2, h3⟩ := drop_cons hdr
      rw [List.length_cons] at hI
      have hpl := placeS_in (c := c) la
      have nxt : Tw (ref16_Index_l5 4096 m ((k + 1 : Nat) : Int) (dA a) (dA b) 0 ((bothS a b).toNat : Int) (dI b.shape) (out.map dC ++ [dC (idxC a.cells c)])) [dA (.mk (bothS a b) b.shape (out ++ (c :: rest).map (idxC a.cells))), .int 0] := by
        have := ih (out ++ [idxC a.cells c]) (by simp; omega)
        rw [List.map_append] at this
        refine Tree.wp_mono this (fun ys hy => hy.trans ?_)
        simp
      simp only [ref16_Index_l5_succ, dA_0, dA_1, dA_2, dC_0, dC_1, dC_2, dC_3, dC_4, dN_0, dN_1, dN_2, els_sl, els_dI, els_dL, List.length_map, Int.toNat_natCast, toInt_int, toInt_dB, toBool_bool, getD_c0, getD_c1, int_beq, int_bne, not_dec, dInt_dB, Int.toNat_zero, getD_map h2, wrap_succ (show k < 9223372036854775807 by omega)]
      refine wp_dec (by omega) (wp_dec (by omega) (wp_dec (by omega) (wp_call (ref16_Place_sp a.cells c ha.cell (hb.cell c (List.mem_of_getElem? h2)) la) ?_)))
      simp only [getD_c0, toInt_int]
      refine wp_decs (fun hlt => ?_) (fun hlt => ?_)
      · have w1 : IntKind.wrap .i64 ((a.cells.length : Int) + 1) = (a.cells.length : Int) + 1 := wrap64 (by omega) (by omega)
        have e1 : idxC a.cells c = intC ((a.cells.length : Int) + 1) := by unfold idxC; rw [if_pos hlt]
        rw [w1]
        rw [e1] at nxt
        exact wp_call (ref08_Int_sp _ (inR_small (by omega) (by omega))) (wp_dec (by simp only [List.length_cons, List.length_nil, bigN]; omega) nxt)
      · have w1 : IntKind.wrap .i64 (placeS a.cells c 0 + 1) = placeS a.cells c 0 + 1 := wrap64 (by omega) (by omega)
        have e1 : idxC a.cells c = intC (placeS a.cells c 0 + 1) := by unfold idxC; rw [if_neg hlt]
        rw [w1]
        rw [e1] at nxt
        exact wp_call (ref08_Int_sp _ (inR_small (by omega) (by omega))) (wp_dec (by simp only [List.length_cons, List.length_nil, bigN]; omega) nxt))
    4096 0 [] (by omega) (by omega) (by simpa using lb)
  simpa using key
theorem ref16_Member_sp {d e : Nat} (a b : Arr) (ha : Sml (d + 1) a) (hb : Sml (e + 1) b) (la : a.cells.length ≤ 2048) (lb : b.cells.length ≤ 2048) : Sp 17 [dA a, dA b] [dA (memberA a b)] := by
  refine sound_ 4096 (ref16_Member_tree _ _ _) (wp_call (ref16_both_sp a b ha.fits hb.fits) ?_)
  unfold memberA
  simp only [dA_0, dA_1, dA_2, dC_0, dC_1, dC_2, dC_3, dC_4, dN_0, dN_1, dN_2, els_sl, els_dI, els_dL, List.length_map, Int.toNat_natCast, toInt_int, toInt_dB, toBool_bool, getD_c0, getD_c1, int_beq, int_bne, not_dec, dInt_dB, Int.toNat_zero]
  have key := loop_list (P := Try.prog) (md := md) a.cells (fun m k (out : List Cell) => ref16_Member_l3 4096 m (k : Int) (dA a) (dA b) 0 ((bothS a b).toNat : Int) (dI a.shape) (out.map dC)) (fun rest out => [dA (.mk (bothS a b) a.shape (out ++ rest.map (memC b.cells)))]) (fun rest out => out.length + rest.length ≤ 2048)
    (fun m k out hk hI => by
      simp only [ref16_Member_l3_succ, dA_0, dA_1, dA_2, dC_0, dC_1, dC_2, dC_3, dC_4, dN_0, dN_1, dN_2, els_sl, els_dI, els_dL, List.length_map, Int.toNat_natCast, toInt_int, toInt_dB, toBool_bool, getD_c0, getD_c1, int_beq, int_bne, not_dec, dInt_dB, Int.toNat_zero]
      refine wp_ndec (by omega) (wp_ret ?_)
      rw [dA_eq]; simp)
    (fun m k out c rest hdr hI ih => by
      obtain ⟨h1, h2, h3⟩ := drop_cons hdr
      rw [List.length_cons] at hI
      have nxt : Tw (ref16_Member_l3 4096 m ((k + 1 : Nat) : Int) (dA a) (dA b) 0 ((bothS a b).toNat : Int) (dI a.shape) (out.map dC ++ [dC (memC b.cells c)])) [dA (.mk (bothS a b) a.shape (out ++ (c :: rest).map (memC b.cells)))] := by
        have := ih (out ++ [memC b.cells c]) (by simp; omega)
        rw [List.map_append] at this
        refine Tree.wp_mono this (fun ys hy => hy.trans ?_)
        simp
      simp only [ref16_Member_l3_succ, dA_0, dA_1, dA_2, dC_0, dC_1, dC_2, dC_3, dC_4, dN_0, dN_1, dN_2, els_sl, els_dI, els_dL, List.length_map, Int.toNat_natCast, toInt_int, toInt_dB, toBool_bool, getD_c0, getD_c1, int_beq, int_bne, not_dec, dInt_dB, Int.toNat_zero, getD_map h2, wrap_succ (show k < 9223372036854775807 by omega)]
      refine wp_dec (by omega) (wp_dec (by omega) (wp_dec (by omega) (wp_call (ref16_Place_sp b.cells c hb.cell (ha.cell c (List.mem_of_getElem? h2)) lb) ?_)))
      simp only [getD_c0, toInt_int]
      refine wp_decs (fun hlt => ?_) (fun hlt => ?_)
      · have e1 : memC b.cells c = intC 0 := by unfold memC; rw [if_neg (by omega)]
        rw [e1] at nxt
        exact wp_call (ref08_Int_sp _ inR0) (wp_dec (by simp only [List.length_cons, List.length_nil, bigN]; omega) nxt)
      · have e1 : memC b.cells c = intC 1 := by unfold memC; rw [if_pos (by omega)]
        rw [e1] at nxt
        exact wp_call (ref08_Int_sp _ (inR_small (by omega) (by omega))) (wp_dec (by simp only [List.length_cons, List.length_nil, bigN]; omega) nxt))
    4096 0 [] (by omega) (by omega) (by simpa using la)
  simpa using key
theorem ref16_Unique_sp {d : Nat} (a : Arr) (ha : Sml (d + 1) a) (la : a.cells.length ≤ 2048) : Sp 19 [dA a] [dA (uniqA a).1, .int (uniqA a).2] := by
  refine sound_ 4096 (ref16_Unique_tree _ _) ?_
  unfold uniqA
  simp only [dA_0, dA_1, dA_2, dC_0, dC_1, dC_2, dC_3, dC_4, dN_0, dN_1, dN_2, els_sl, els_dI, els_dL, List.length_map, Int.toNat_natCast, toInt_int, toInt_dB, toBool_bool, getD_c0, getD_c1, int_beq, int_bne, not_dec, dInt_dB, Int.toNat_zero, dA_none]
  refine wp_decs (fun h => wp_ret (by rw [if_pos (by omega)])) (fun h => ?_)
  rw [if_neg (by omega)]
  have key := loop_list (P := Try.prog) (md := md) a.cells (fun m k (out : List Cell) => ref16_Unique_l5 4096 m (out.map dC) (k : Int) (dA a) 0) (fun rest out => [dA (lstA (totA a) (out ++ uniqL a.cells rest (a.cells.length - rest.length))), .int 0]) (fun rest out => out.length + rest.length ≤ 2048)
    (fun m k out hk hI => by
      simp only [ref16_Unique_l5_succ, dA_0, dA_1, dA_2, dC_0, dC_1, dC_2, dC_3, dC_4, dN_0, dN_1, dN_2, els_sl, els_dI, els_dL, List.length_map, Int.toNat_natCast, toInt_int, toInt_dB, toBool_bool, getD_c0, getD_c1, int_beq, int_bne, not_dec, dInt_dB, Int.toNat_zero]
      refine wp_ndec (by omega) (wp_call (ref08_Total_sp a ha.fits) ?_)
      simp only [dA_0, dA_1, dA_2, dC_0, dC_1, dC_2, dC_3, dC_4, dN_0, dN_1, dN_2, els_sl, els_dI, els_dL, List.length_map, Int.toNat_natCast, toInt_int, toInt_dB, toBool_bool, getD_c0, getD_c1, int_beq, int_bne, not_dec, dInt_dB, Int.toNat_zero]
      refine wp_call (ref16_cells_sp out (totA a)) (wp_ret ?_)
      simp [uniqL])
    (fun m k out c rest hdr hI ih => by
      obtain ⟨h1, h2, h3⟩ := drop_cons hdr
      have hle := congrArg List.length hdr
      rw [List.length_drop, List.length_cons] at hle
      have hk : a.cells.length - (c :: rest).length = k := by rw [List.length_cons]; omega
      have hk' : a.cells.length - rest.length = k + 1 := by omega
      have hcm := List.mem_of_getElem? h2
      rw [List.length_cons] at hI
      simp only [ref16_Unique_l5_succ, dA_0, dA_1, dA_2, dC_0, dC_1, dC_2, dC_3, dC_4, dN_0, dN_1, dN_2, els_sl, els_dI, els_dL, List.length_map, Int.toNat_natCast, toInt_int, toInt_dB, toBool_bool, getD_c0, getD_c1, int_beq, int_bne, not_dec, dInt_dB, Int.toNat_zero, getD_map h2, wrap_succ (show k < 9223372036854775807 by omega), ← List.map_take]
      refine wp_dec (by omega) (wp_dec (by omega) (wp_dec (by omega) (wp_dec (by omega) (wp_dec (by omega) (wp_call (ref16_Place_sp (a.cells.take k) c (fun x hx => ha.cell x (List.mem_of_mem_take hx)) (ha.cell c hcm) (by rw [List.length_take]; omega)) ?_)))))
      simp only [getD_c0, toInt_int, hk, uniqL]
      refine wp_decs (fun he => wp_dec (by omega) (wp_dec (by omega) (wp_dec (by simp only [List.length_cons, List.length_nil, bigN]; omega) ?_))) (fun he => ?_)
      · have := ih (out ++ [c]) (by simp; omega)
        rw [List.map_append, hk'] at this
        rw [if_pos he]
        refine Tree.wp_mono this (fun ys hy => hy.trans ?_)
        simp
      · have := ih out (by omega)
        rw [hk'] at this
        rw [if_neg he]
        exact this)
    4096 0 [] (by omega) (by omega) (by simpa using la)
  simpa using key
theorem ref16_Those_sp {d e : Nat} (a b : Arr) (in_ : Bool) (ha : Sml (d + 1) a) (hb : Sml (e + 1) b) (la : a.cells.length ≤ 2048) (lb : b.cells.length ≤ 2048) : Sp 21 [dA a, dA b, .bool in_] [dA (thoseA a b in_).1, .int (thoseA a b in_).2] := by
  refine sound_ 4096 (ref16_Those_tree _ _ _ _) ?_
  unfold thoseA
  simp only [dA_0, dA_1, dA_2, dC_0, dC_1, dC_2, dC_3, dC_4, dN_0, dN_1, dN_2, els_sl, els_dI, els_dL, List.length_map, Int.toNat_natCast, toInt_int, toInt_dB, toBool_bool, getD_c0, getD_c1, int_beq, int_bne, not_dec, dInt_dB, Int.toNat_zero, dA_none]
  refine wp_decs (fun h => wp_ret (by rw [if_pos (by omega)])) (fun h => ?_)
  rw [if_neg (by omega)]
  have key := loop_list (P := Try.prog) (md := md) a.cells (fun m k (out : List Cell) => ref16_Those_l5 4096 m in_ (out.map dC) (k : Int) (dA a) (dA b) 0) (fun rest out => [dA (lstA (bothS a b) (out ++ thoseL rest b.cells in_)), .int 0]) (fun rest out => out.length + rest.length ≤ 2048)
    (fun m k out hk hI => by
      simp only [ref16_Those_l5_succ, dA_0, dA_1, dA_2, dC_0, dC_1, dC_2, dC_3, dC_4, dN_0, dN_1, dN_2, els_sl, els_dI, els_dL, List.length_map, Int.toNat_natCast, toInt_int, toInt_dB, toBool_bool, getD_c0, getD_c1, int_beq, int_bne, not_dec, dInt_dB, Int.toNat_zero]
      refine wp_ndec (by omega) (wp_call (ref16_both_sp a b ha.fits hb.fits) ?_)
      simp only [dA_0, dA_1, dA_2, dC_0, dC_1, dC_2, dC_3, dC_4, dN_0, dN_1, dN_2, els_sl, els_dI, els_dL, List.length_map, Int.toNat_natCast, toInt_int, toInt_dB, toBool_bool, getD_c0, getD_c1, int_beq, int_bne, not_dec, dInt_dB, Int.toNat_zero]
      refine wp_call (ref16_cells_sp out (bothS a b)) (wp_ret ?_)
      simp [thoseL])
    (fun m k out c rest hdr hI ih => by
      obtain ⟨h1, h2, h3⟩ := drop_cons hdr
      rw [List.length_cons] at hI
      simp only [ref16_Those_l5_succ, dA_0, dA_1, dA_2, dC_0, dC_1, dC_2, dC_3, dC_4, dN_0, dN_1, dN_2, els_sl, els_dI, els_dL, List.length_map, Int.toNat_natCast, toInt_int, toInt_dB, toBool_bool, getD_c0, getD_c1, int_beq, int_bne, not_dec, dInt_dB, Int.toNat_zero, getD_map h2, wrap_succ (show k < 9223372036854775807 by omega)]
      refine wp_dec (by omega) (wp_dec (by omega) (wp_dec (by omega) (wp_call (ref16_Place_sp b.cells c hb.cell (ha.cell c (List.mem_of_getElem? h2)) lb) ?_)))
      simp only [getD_c0, toInt_int]
      refine wp_br (fun hb => wp_dec (by omega) (wp_dec (by omega) (wp_dec (by simp only [List.length_cons, List.length_nil, bigN]; omega) ?_))) (fun hb => ?_)
      · have := ih (out ++ [c]) (by simp; omega)
        rw [List.map_append] at this
        refine Tree.wp_mono this (fun ys hy => hy.trans ?_)
        rw [thoseL_pos hb]
        simp
      · have := ih out (by omega)
        refine Tree.wp_mono this (fun ys hy => hy.trans ?_)
        rw [thoseL_neg hb])
    4096 0 [] (by omega) (by omega) (by simpa using la)
  simpa using key
theorem ref16_Union_sp {d e : Nat} (a b : Arr) (ha : Sml (d + 1) a) (hb : Sml (e + 1) b) (la : a.cells.length ≤ 2048) (lb : b.cells.length ≤ 2048) : Sp 23 [dA a, dA b] [dA (unionA a b).1, .int (unionA a b).2] := by
  refine sound_ 4096 (ref16_Union_tree _ _ _) ?_
  unfold unionA
  simp only [dA_0, dA_1, dA_2, dC_0, dC_1, dC_2, dC_3, dC_4, dN_0, dN_1, dN_2, els_sl, els_dI, els_dL, List.length_map, Int.toNat_natCast, toInt_int, toInt_dB, toBool_bool, getD_c0, getD_c1, int_beq, int_bne, not_dec, dInt_dB, Int.toNat_zero, dA_none]
  refine wp_decs (fun h => wp_ret (by rw [if_pos (by omega)])) (fun h => ?_)
  rw [if_neg (by omega)]
  refine wp_decs (fun h => wp_ret (by rw [if_pos (by omega)])) (fun h => wp_dec (by simp only [bigN]; omega) ?_)
  rw [if_neg (by omega)]
  have key := loop_list (P := Try.prog) (md := md) b.cells (fun m k (out : List Cell) => ref16_Union_l6 4096 m (out.map dC) (k : Int) (dA a) (dA b) 0) (fun rest out => if 2048 < out.length + (thoseL rest a.cells false).length then [dA Arr.none, .int 7] else [dA (lstA (bothS a b) (out ++ thoseL rest a.cells false)), .int 0]) (fun rest out => out.length + rest.length ≤ 4096)
    (fun m k out hk hI => by
      simp only [ref16_Union_l6_succ, dA_0, dA_1, dA_2, dC_0, dC_1, dC_2, dC_3, dC_4, dN_0, dN_1, dN_2, els_sl, els_dI, els_dL, List.length_map, Int.toNat_natCast, toInt_int, toInt_dB, toBool_bool, getD_c0, getD_c1, int_beq, int_bne, not_dec, dInt_dB, Int.toNat_zero, dA_none]
      refine wp_ndec (by omega) (wp_decs (fun h => wp_ret (by rw [if_pos (by simp [thoseL]; omega)])) (fun h => wp_call (ref16_both_sp a b ha.fits hb.fits) ?_))
      simp only [dA_0, dA_1, dA_2, dC_0, dC_1, dC_2, dC_3, dC_4, dN_0, dN_1, dN_2, els_sl, els_dI, els_dL, List.length_map, Int.toNat_natCast, toInt_int, toInt_dB, toBool_bool, getD_c0, getD_c1, int_beq, int_bne, not_dec, dInt_dB, Int.toNat_zero]
      refine wp_call (ref16_cells_sp out (bothS a b)) (wp_ret ?_)
      rw [if_neg (by simp [thoseL]; omega)]
      simp [thoseL])
    (fun m k out c rest hdr hI ih => by
      obtain ⟨h1, h2, h3⟩ := drop_cons hdr
      rw [List.length_cons] at hI
      simp only [ref16_Union_l6_succ, dA_0, dA_1, dA_2, dC_0, dC_1, dC_2, dC_3, dC_4, dN_0, dN_1, dN_2, els_sl, els_dI, els_dL, List.length_map, Int.toNat_natCast, toInt_int, toInt_dB, toBool_bool, getD_c0, getD_c1, int_beq, int_bne, not_dec, dInt_dB, Int.toNat_zero, getD_map h2, wrap_succ (show k < 9223372036854775807 by omega), dA_none]
      refine wp_dec (by omega) (wp_dec (by omega) (wp_dec (by omega) (wp_call (ref16_Place_sp a.cells c ha.cell (hb.cell c (List.mem_of_getElem? h2)) la) ?_)))
      simp only [getD_c0, toInt_int]
      have hf : thoseL (c :: rest) a.cells false = if placeS a.cells c 0 < 0 then c :: thoseL rest a.cells false else thoseL rest a.cells false := by
        unfold thoseL
        rw [List.filter_cons]
        by_cases h : placeS a.cells c 0 < 0
        · rw [if_pos h, if_pos (by simp; omega)]
        · rw [if_neg h, if_neg (by simp; omega)]
      rw [hf]
      refine wp_decs (fun hlt => wp_dec (by omega) (wp_dec (by omega) (wp_dec (by simp only [List.length_cons, List.length_nil, bigN]; omega) ?_))) (fun hlt => ?_)
      · rw [if_pos hlt]
        have := ih (out ++ [c]) (by simp; omega)
        rw [List.map_append] at this
        refine Tree.wp_mono this (fun ys hy => hy.trans ?_)
        simp only [List.length_append, List.length_cons, List.length_nil, List.append_assoc, List.singleton_append]
        rw [show out.length + (0 + 1) + (thoseL rest a.cells false).length = out.length + ((thoseL rest a.cells false).length + 1) by omega]
      · rw [if_neg hlt]
        exact ih out (by omega))
    4096 0 a.cells (by omega) (by omega) (by simp; omega)
  refine Tree.wp_mono key (fun ys hy => hy.trans ?_)
  rw [List.drop_zero]
  by_cases h5 : 2048 < a.cells.length + (thoseL b.cells a.cells false).length
  · rw [if_pos h5, if_pos h5]
  · rw [if_neg h5, if_neg h5]
theorem ref16_Iota_sp (n : Arr) (hn : Fits n) (hnl : n.cells.length ≤ 2048) (hnt : ∀ c ∈ n.cells, c.n.top.length ≤ 32) : Sp 26 [dA n] [dA (iotaA n).1, .int (iotaA n).2] := by
  refine sound_ 4096 (ref16_Iota_tree _ _) (wp_call (ref08_Ints_sp n hnl hnt) ?_)
  simp only [dA_0, dA_1, dA_2, dC_0, dC_1, dC_2, dC_3, dC_4, dN_0, dN_1, dN_2, els_sl, els_dI, els_dL, List.length_map, Int.toNat_natCast, toInt_int, toInt_dB, toBool_bool, getD_c0, getD_c1, int_beq, int_bne, not_dec, dInt_dB, Int.toNat_zero, dA_none]
  refine wp_decs (fun h => wp_ret (by unfold iotaA; rw [if_neg h])) (fun h => ?_)
  have h0 : (intsA n).2 = 0 := Classical.not_not.1 h
  refine wp_decs (fun h1 => wp_ret (by rw [iota_one (by omega) h0])) (fun h1 => ?_)
  obtain ⟨k, hk⟩ := len_one (l := (intsA n).1) (by omega)
  unfold iotaA
  rw [if_pos h0, hk]
  simp only [List.map_cons, List.map_nil, List.length_cons, List.length_nil, getD_c0, toInt_int, dsl_dI]
  refine wp_dec (by omega) (wp_dec (by omega) (wp_decs (fun h2 => wp_ret (by rw [if_pos h2])) (fun h2 => ?_)))
  rw [if_neg h2]
  refine wp_dec (by omega) (wp_dec (by omega) (wp_decs (fun h3 => wp_ret (by rw [if_pos h3])) (fun h3 => ?_)))
  rw [if_neg h3]
  obtain ⟨K, rfl⟩ : ∃ K : Nat, k = (K : Int) := ⟨k.toNat, by omega⟩
  simp only [Int.toNat_natCast]
  have key := loop_up (P := Try.prog) (md := md) K (fun m k (_ : Unit) => ref16_Iota_l12 4096 m (dI [(K : Int)]) ((upTo k).map D.int) ((k + 1 : Nat) : Int) (dA n) 0) (fun _ _ => [dA (vecA (upTo K) (totA n)), .int 0]) (fun _ _ => True)
    (fun m s _ => by
      simp only [ref16_Iota_l12_succ, els_dI, List.map_cons, List.map_nil, List.length_cons, List.length_nil, Int.toNat_zero, getD_c0, toInt_int]
      refine wp_dec (by omega) (wp_dec (by omega) (wp_ndec (by omega) (wp_call (ref08_Total_sp n hn) ?_)))
      simp only [dA_0, dA_1, dA_2, dC_0, dC_1, dC_2, dC_3, dC_4, dN_0, dN_1, dN_2, els_sl, els_dI, els_dL, List.length_map, Int.toNat_natCast, toInt_int, toInt_dB, toBool_bool, getD_c0, getD_c1, int_beq, int_bne, not_dec, dInt_dB, Int.toNat_zero, dsl_dI]
      exact wp_call (ref11_Vector_sp (upTo K) (totA n) (by rw [upTo_len]; omega) (upTo_in (by omega))) (wp_ret rfl))
    (fun m k s hkK _ ih => by
      simp only [ref16_Iota_l12_succ, els_dI, List.map_cons, List.map_nil, List.length_cons, List.length_nil, Int.toNat_zero, getD_c0, toInt_int]
      refine wp_dec (by omega) (wp_dec (by omega) (wp_dec (by omega) (wp_dec (by simp only [List.length_map, upTo_len, List.length_cons, List.length_nil, bigN]; omega) ?_)))
      have := ih () trivial
      rw [upTo_succ, List.map_append] at this
      rw [wrap_succ (show k + 1 < 9223372036854775807 by omega)]
      exact this)
    4096 0 () (by omega) (by omega) trivial
  exact key
end Go.Proofs.Ytcgfpibkajagjaa
