/- Proved: for all four arrays and any label, the law MoldBlind returns true and changes nothing. No condition. -/
import Derived.Test.YtfnmaeniekggeaaRows
import Derived.WalkKit
import Derived.WalkSpells
import Derived.WalkLawsBesides
import Derived.Lib.Hide
import Derived.Laws.CopyOwn
import Derived.Deep.QuietTactic
import Derived.BigQuiet
import Derived.Orders
import Derived.Defers
import Derived.Recover
import Derived.Test.YtfnmaeniekggeaaProg
import Derived.KernelRfl
import Derived.ProofKit
import Derived.OpenShut
import Derived.Test.YtfnmaeniekggeaaZ7d8fe5c4
set_option linter.unusedSimpArgs false
set_option linter.unusedVariables false
set_option maxRecDepth 100000
namespace Go.Proofs.Ytfnmaeniekggeaa
/-! scrim/scrimlaw11.MoldBoxes -/
def law11_MoldBoxes_orc : List (Nat × Orc) := []
theorem law11_MoldBoxes_tree (n : Nat) (a0 : D) : evFun Try.prog md law11_MoldBoxes_orc n 4 [] [a0] =
 .call 12 [] [a0] fun yy1 =>
 .br (!((yy1.getD 0 D.nil).toBool)) (.call 13 [] [] fun yy2 =>
 .ret [D.bool ((yy2.getD 0 D.nil).toBool)])
 (.call 18 [] [a0] fun yy3 =>
 .call 19 [] [a0] fun yy4 =>
 .call 20 [] [a0] fun yy5 =>
 .call 21 [] [a0] fun yy6 =>
 .call 22 [] [a0] fun yy7 =>
 .call 16 [] [yy3.getD 0 D.nil, D.int ((yy3.getD 1 D.nil).toInt), yy4.getD 0 D.nil, D.int ((yy4.getD 1 D.nil).toInt)] fun yy8 =>
 .br (!((yy8.getD 0 D.nil).toBool)) (.ret [D.bool false])
 (.call 16 [] [yy5.getD 0 D.nil, D.int ((yy5.getD 1 D.nil).toInt), yy6.getD 0 D.nil, D.int ((yy6.getD 1 D.nil).toInt)] fun yy9 =>
 .br (!((yy9.getD 0 D.nil).toBool)) (.ret [D.bool false])
 (.call 24 [] [a0] fun yy10 =>
 .call 23 [] [yy7.getD 0 D.nil, yy10.getD 0 D.nil] fun yy11 =>
 .br (!((yy11.getD 0 D.nil).toBool)) (.ret [D.bool false])
 (.br (((yy3.getD 1 D.nil).toInt) != 0) (.br (((yy5.getD 1 D.nil).toInt) != 0) (.call 17 [] [yy7.getD 0 D.nil, D.int 8] fun yy12 =>
 .br ((yy12.getD 0 D.nil).toBool) (.call 13 [] [] fun yy13 =>
 .ret [D.bool ((yy13.getD 0 D.nil).toBool)])
 (.ret [D.bool false]))
 (.call 17 [] [yy5.getD 0 D.nil, D.int 8] fun yy14 =>
 .br ((yy14.getD 0 D.nil).toBool) (.call 17 [] [yy7.getD 0 D.nil, D.int 8] fun yy15 =>
 .br ((yy15.getD 0 D.nil).toBool) (.call 13 [] [] fun yy16 =>
 .ret [D.bool ((yy16.getD 0 D.nil).toBool)])
 (.ret [D.bool false]))
 (.ret [D.bool false])))
 (.call 17 [] [yy3.getD 0 D.nil, D.int 8] fun yy17 =>
 .br ((yy17.getD 0 D.nil).toBool) (.br (((yy5.getD 1 D.nil).toInt) != 0) (.call 17 [] [yy7.getD 0 D.nil, D.int 8] fun yy18 =>
 .br ((yy18.getD 0 D.nil).toBool) (.call 13 [] [] fun yy19 =>
 .ret [D.bool ((yy19.getD 0 D.nil).toBool)])
 (.ret [D.bool false]))
 (.call 17 [] [yy5.getD 0 D.nil, D.int 8] fun yy20 =>
 .br ((yy20.getD 0 D.nil).toBool) (.call 17 [] [yy7.getD 0 D.nil, D.int 8] fun yy21 =>
 .br ((yy21.getD 0 D.nil).toBool) (.call 13 [] [] fun yy22 =>
 .ret [D.bool ((yy22.getD 0 D.nil).toBool)])
 (.ret [D.bool false]))
 (.ret [D.bool false])))
 (.ret [D.bool false])))))) := by kernel_rfl

/-! scrim/scrimlaw11.MoldTells -/
def law11_MoldTells_orc : List (Nat × Orc) := []
theorem law11_MoldTells_tree (n : Nat) (a0 : D) (b1 : D) (same2 : D) : evFun Try.prog md law11_MoldTells_orc n 5 [] [a0, b1, same2] =
 .call 12 [] [a0] fun yy1 =>
 .br (!((yy1.getD 0 D.nil).toBool)) (.call 13 [] [] fun yy2 =>
 .ret [D.bool ((yy2.getD 0 D.nil).toBool)])
 (.call 12 [] [b1] fun yy3 =>
 .br (!((yy3.getD 0 D.nil).toBool)) (.call 13 [] [] fun yy4 =>
 .ret [D.bool ((yy4.getD 0 D.nil).toBool)])
 (.call 25 [] [a0] fun yy5 =>
 .call 26 [] [a0] fun yy6 =>
 .call 23 [] [yy5.getD 0 D.nil, yy6.getD 0 D.nil] fun yy7 =>
 .br ((yy7.getD 0 D.nil).toBool) (.call 27 [] [a0] fun yy8 =>
 .call 28 [] [a0] fun yy9 =>
 .call 23 [] [yy8.getD 0 D.nil, yy9.getD 0 D.nil] fun yy10 =>
 .br ((yy10.getD 0 D.nil).toBool) (.call 29 [] [a0] fun yy11 =>
 .call 30 [] [a0] fun yy12 =>
 .call 23 [] [yy11.getD 0 D.nil, yy12.getD 0 D.nil] fun yy13 =>
 .br ((yy13.getD 0 D.nil).toBool) (.call 31 [] [a0] fun yy14 =>
 .call 33 [] [a0] fun yy15 =>
 .call 34 [] [a0] fun yy16 =>
 .call 32 [] [D.int ((yy15.getD 0 D.nil).toInt), D.int ((yy16.getD 0 D.nil).toInt)] fun yy17 =>
 .call 23 [] [yy14.getD 0 D.nil, yy17.getD 0 D.nil] fun yy18 =>
 .br ((yy18.getD 0 D.nil).toBool) (.call 35 [] [a0, b1, D.bool same2.toBool] fun yy19 =>
 .call 36 [] [a0, b1, D.bool same2.toBool] fun yy20 =>
 .call 23 [] [yy19.getD 0 D.nil, yy20.getD 0 D.nil] fun yy21 =>
 .br ((yy21.getD 0 D.nil).toBool) (.call 13 [] [] fun yy22 =>
 .ret [D.bool ((yy22.getD 0 D.nil).toBool)])
 (.ret [D.bool false]))
 (.ret [D.bool false]))
 (.ret [D.bool false]))
 (.ret [D.bool false]))
 (.ret [D.bool false]))) := by kernel_rfl

/-! scrim/scrimlaw11.MoldBack -/
def law11_MoldBack_orc : List (Nat × Orc) := []
theorem law11_MoldBack_tree (n : Nat) (a0 : D) : evFun Try.prog md law11_MoldBack_orc n 6 [] [a0] =
 .call 12 [] [a0] fun yy1 =>
 .br (!((yy1.getD 0 D.nil).toBool)) (.call 13 [] [] fun yy2 =>
 .ret [D.bool ((yy2.getD 0 D.nil).toBool)])
 (.call 18 [] [a0] fun yy3 =>
 .br (((yy3.getD 1 D.nil).toInt) == 0) (.call 22 [] [yy3.getD 0 D.nil] fun yy4 =>
 .call 37 [] [yy4.getD 0 D.nil, a0] fun yy5 =>
 .br (!((yy5.getD 0 D.nil).toBool)) (.ret [D.bool false])
 (.call 34 [] [a0] fun yy6 =>
 .call 34 [] [yy4.getD 0 D.nil] fun yy7 =>
 .call 38 [] [D.int ((yy6.getD 0 D.nil).toInt), D.int ((yy7.getD 0 D.nil).toInt)] fun yy8 =>
 .br (!((yy8.getD 0 D.nil).toBool)) (.ret [D.bool false])
 (.call 25 [] [a0] fun yy9 =>
 .call 27 [] [a0] fun yy10 =>
 .call 14 [] [yy9.getD 0 D.nil, yy10.getD 0 D.nil] fun yy11 =>
 .br (((yy11.getD 1 D.nil).toInt) == 0) (.call 23 [] [yy11.getD 0 D.nil, a0] fun yy12 =>
 .br ((yy12.getD 0 D.nil).toBool) (.call 13 [] [] fun yy13 =>
 .ret [D.bool ((yy13.getD 0 D.nil).toBool)])
 (.ret [D.bool false]))
 (.ret [D.bool false]))))
 (.call 25 [] [a0] fun yy14 =>
 .call 27 [] [a0] fun yy15 =>
 .call 14 [] [yy14.getD 0 D.nil, yy15.getD 0 D.nil] fun yy16 =>
 .br (((yy16.getD 1 D.nil).toInt) == 0) (.call 23 [] [yy16.getD 0 D.nil, a0] fun yy17 =>
 .br ((yy17.getD 0 D.nil).toBool) (.call 13 [] [] fun yy18 =>
 .ret [D.bool ((yy18.getD 0 D.nil).toBool)])
 (.ret [D.bool false]))
 (.ret [D.bool false]))) := by kernel_rfl

/-! scrim/scrimlaw11.MoldBlind -/
def law11_MoldBlind_orc : List (Nat × Orc) := []
theorem law11_MoldBlind_tree (n : Nat) (a0 : D) (b1 : D) (n2 : D) (m3 : D) (o4 : D) : evFun Try.prog md law11_MoldBlind_orc n 7 [] [a0, b1, n2, m3, o4] =
 .call 12 [] [a0] fun yy1 =>
 .br (!((yy1.getD 0 D.nil).toBool)) (.call 13 [] [] fun yy2 =>
 .ret [D.bool ((yy2.getD 0 D.nil).toBool)])
 (.call 12 [] [b1] fun yy3 =>
 .br (!((yy3.getD 0 D.nil).toBool)) (.call 13 [] [] fun yy4 =>
 .ret [D.bool ((yy4.getD 0 D.nil).toBool)])
 (.call 12 [] [n2] fun yy5 =>
 .br (!((yy5.getD 0 D.nil).toBool)) (.call 13 [] [] fun yy6 =>
 .ret [D.bool ((yy6.getD 0 D.nil).toBool)])
 (.call 12 [] [m3] fun yy7 =>
 .br (!((yy7.getD 0 D.nil).toBool)) (.call 13 [] [] fun yy8 =>
 .ret [D.bool ((yy8.getD 0 D.nil).toBool)])
 (.call 39 [] [a0, b1, D.int o4.toInt] fun yy9 =>
 .br (!((yy9.getD 0 D.nil).toBool)) (.call 13 [] [] fun yy10 =>
 .ret [D.bool ((yy10.getD 0 D.nil).toBool)])
 (.call 39 [] [n2, m3, D.int o4.toInt] fun yy11 =>
 .br (!((yy11.getD 0 D.nil).toBool)) (.call 13 [] [] fun yy12 =>
 .ret [D.bool ((yy12.getD 0 D.nil).toBool)])
 (.call 25 [] [a0] fun yy13 =>
 .call 25 [] [b1] fun yy14 =>
 .call 39 [] [yy13.getD 0 D.nil, yy14.getD 0 D.nil, D.int o4.toInt] fun yy15 =>
 .br (!((yy15.getD 0 D.nil).toBool)) (.ret [D.bool false])
 (.call 27 [] [a0] fun yy16 =>
 .call 27 [] [b1] fun yy17 =>
 .call 39 [] [yy16.getD 0 D.nil, yy17.getD 0 D.nil, D.int o4.toInt] fun yy18 =>
 .br (!((yy18.getD 0 D.nil).toBool)) (.ret [D.bool false])
 (.call 29 [] [a0] fun yy19 =>
 .call 29 [] [b1] fun yy20 =>
 .call 39 [] [yy19.getD 0 D.nil, yy20.getD 0 D.nil, D.int o4.toInt] fun yy21 =>
 .br (!((yy21.getD 0 D.nil).toBool)) (.ret [D.bool false])
 (.call 31 [] [a0] fun yy22 =>
 .call 31 [] [b1] fun yy23 =>
 .call 39 [] [yy22.getD 0 D.nil, yy23.getD 0 D.nil, D.int o4.toInt] fun yy24 =>
 .br (!((yy24.getD 0 D.nil).toBool)) (.ret [D.bool false])
 (.call 22 [] [a0] fun yy25 =>
 .call 22 [] [b1] fun yy26 =>
 .call 39 [] [yy25.getD 0 D.nil, yy26.getD 0 D.nil, D.int o4.toInt] fun yy27 =>
 .br (!((yy27.getD 0 D.nil).toBool)) (.ret [D.bool false])
 (.call 35 [] [a0, n2, D.bool true] fun yy28 =>
 .call 35 [] [b1, m3, D.bool true] fun yy29 =>
 .call 39 [] [yy28.getD 0 D.nil, yy29.getD 0 D.nil, D.int o4.toInt] fun yy30 =>
 .br (!((yy30.getD 0 D.nil).toBool)) (.ret [D.bool false])
 (.call 14 [] [n2, a0] fun yy31 =>
 .call 14 [] [m3, b1] fun yy32 =>
 .br (((yy31.getD 1 D.nil).toInt) == 0) (.br (((yy32.getD 1 D.nil).toInt) == 0) (.call 39 [] [yy31.getD 0 D.nil, yy32.getD 0 D.nil, D.int o4.toInt] fun yy33 =>
 .br (!((yy33.getD 0 D.nil).toBool)) (.ret [D.bool false])
 (.call 18 [] [a0] fun yy34 =>
 .call 18 [] [b1] fun yy35 =>
 .br (((yy34.getD 1 D.nil).toInt) == 0) (.br (((yy35.getD 1 D.nil).toInt) == 0) (.call 39 [] [yy34.getD 0 D.nil, yy35.getD 0 D.nil, D.int o4.toInt] fun yy36 =>
 .br (!((yy36.getD 0 D.nil).toBool)) (.ret [D.bool false])
 (.call 20 [] [a0] fun yy37 =>
 .call 20 [] [b1] fun yy38 =>
 .br (((yy37.getD 1 D.nil).toInt) != 0) (.call 13 [] [] fun yy39 =>
 .ret [D.bool ((yy39.getD 0 D.nil).toBool)])
 (.br (((yy38.getD 1 D.nil).toInt) != 0) (.call 13 [] [] fun yy40 =>
 .ret [D.bool ((yy40.getD 0 D.nil).toBool)])
 (.call 39 [] [yy37.getD 0 D.nil, yy38.getD 0 D.nil, D.int o4.toInt] fun yy41 =>
 .br ((yy41.getD 0 D.nil).toBool) (.call 13 [] [] fun yy42 =>
 .ret [D.bool ((yy42.getD 0 D.nil).toBool)])
 (.ret [D.bool false])))))
 (.call 20 [] [a0] fun yy43 =>
 .call 20 [] [b1] fun yy44 =>
 .br (((yy43.getD 1 D.nil).toInt) != 0) (.call 13 [] [] fun yy45 =>
 .ret [D.bool ((yy45.getD 0 D.nil).toBool)])
 (.br (((yy44.getD 1 D.nil).toInt) != 0) (.call 13 [] [] fun yy46 =>
 .ret [D.bool ((yy46.getD 0 D.nil).toBool)])
 (.call 39 [] [yy43.getD 0 D.nil, yy44.getD 0 D.nil, D.int o4.toInt] fun yy47 =>
 .br ((yy47.getD 0 D.nil).toBool) (.call 13 [] [] fun yy48 =>
 .ret [D.bool ((yy48.getD 0 D.nil).toBool)])
 (.ret [D.bool false])))))
 (.call 20 [] [a0] fun yy49 =>
 .call 20 [] [b1] fun yy50 =>
 .br (((yy49.getD 1 D.nil).toInt) != 0) (.call 13 [] [] fun yy51 =>
 .ret [D.bool ((yy51.getD 0 D.nil).toBool)])
 (.br (((yy50.getD 1 D.nil).toInt) != 0) (.call 13 [] [] fun yy52 =>
 .ret [D.bool ((yy52.getD 0 D.nil).toBool)])
 (.call 39 [] [yy49.getD 0 D.nil, yy50.getD 0 D.nil, D.int o4.toInt] fun yy53 =>
 .br ((yy53.getD 0 D.nil).toBool) (.call 13 [] [] fun yy54 =>
 .ret [D.bool ((yy54.getD 0 D.nil).toBool)])
 (.ret [D.bool false]))))))
 (.call 18 [] [a0] fun yy55 =>
 .call 18 [] [b1] fun yy56 =>
 .br (((yy55.getD 1 D.nil).toInt) == 0) (.br (((yy56.getD 1 D.nil).toInt) == 0) (.call 39 [] [yy55.getD 0 D.nil, yy56.getD 0 D.nil, D.int o4.toInt] fun yy57 =>
 .br (!((yy57.getD 0 D.nil).toBool)) (.ret [D.bool false])
 (.call 20 [] [a0] fun yy58 =>
 .call 20 [] [b1] fun yy59 =>
 .br (((yy58.getD 1 D.nil).toInt) != 0) (.call 13 [] [] fun yy60 =>
 .ret [D.bool ((yy60.getD 0 D.nil).toBool)])
 (.br (((yy59.getD 1 D.nil).toInt) != 0) (.call 13 [] [] fun yy61 =>
 .ret [D.bool ((yy61.getD 0 D.nil).toBool)])
 (.call 39 [] [yy58.getD 0 D.nil, yy59.getD 0 D.nil, D.int o4.toInt] fun yy62 =>
 .br ((yy62.getD 0 D.nil).toBool) (.call 13 [] [] fun yy63 =>
 .ret [D.bool ((yy63.getD 0 D.nil).toBool)])
 (.ret [D.bool false])))))
 (.call 20 [] [a0] fun yy64 =>
 .call 20 [] [b1] fun yy65 =>
 .br (((yy64.getD 1 D.nil).toInt) != 0) (.call 13 [] [] fun yy66 =>
 .ret [D.bool ((yy66.getD 0 D.nil).toBool)])
 (.br (((yy65.getD 1 D.nil).toInt) != 0) (.call 13 [] [] fun yy67 =>
 .ret [D.bool ((yy67.getD 0 D.nil).toBool)])
 (.call 39 [] [yy64.getD 0 D.nil, yy65.getD 0 D.nil, D.int o4.toInt] fun yy68 =>
 .br ((yy68.getD 0 D.nil).toBool) (.call 13 [] [] fun yy69 =>
 .ret [D.bool ((yy69.getD 0 D.nil).toBool)])
 (.ret [D.bool false])))))
 (.call 20 [] [a0] fun yy70 =>
 .call 20 [] [b1] fun yy71 =>
 .br (((yy70.getD 1 D.nil).toInt) != 0) (.call 13 [] [] fun yy72 =>
 .ret [D.bool ((yy72.getD 0 D.nil).toBool)])
 (.br (((yy71.getD 1 D.nil).toInt) != 0) (.call 13 [] [] fun yy73 =>
 .ret [D.bool ((yy73.getD 0 D.nil).toBool)])
 (.call 39 [] [yy70.getD 0 D.nil, yy71.getD 0 D.nil, D.int o4.toInt] fun yy74 =>
 .br ((yy74.getD 0 D.nil).toBool) (.call 13 [] [] fun yy75 =>
 .ret [D.bool ((yy75.getD 0 D.nil).toBool)])
 (.ret [D.bool false]))))))
 (.call 18 [] [a0] fun yy76 =>
 .call 18 [] [b1] fun yy77 =>
 .br (((yy76.getD 1 D.nil).toInt) == 0) (.br (((yy77.getD 1 D.nil).toInt) == 0) (.call 39 [] [yy76.getD 0 D.nil, yy77.getD 0 D.nil, D.int o4.toInt] fun yy78 =>
 .br (!((yy78.getD 0 D.nil).toBool)) (.ret [D.bool false])
 (.call 20 [] [a0] fun yy79 =>
 .call 20 [] [b1] fun yy80 =>
 .br (((yy79.getD 1 D.nil).toInt) != 0) (.call 13 [] [] fun yy81 =>
 .ret [D.bool ((yy81.getD 0 D.nil).toBool)])
 (.br (((yy80.getD 1 D.nil).toInt) != 0) (.call 13 [] [] fun yy82 =>
 .ret [D.bool ((yy82.getD 0 D.nil).toBool)])
 (.call 39 [] [yy79.getD 0 D.nil, yy80.getD 0 D.nil, D.int o4.toInt] fun yy83 =>
 .br ((yy83.getD 0 D.nil).toBool) (.call 13 [] [] fun yy84 =>
 .ret [D.bool ((yy84.getD 0 D.nil).toBool)])
 (.ret [D.bool false])))))
 (.call 20 [] [a0] fun yy85 =>
 .call 20 [] [b1] fun yy86 =>
 .br (((yy85.getD 1 D.nil).toInt) != 0) (.call 13 [] [] fun yy87 =>
 .ret [D.bool ((yy87.getD 0 D.nil).toBool)])
 (.br (((yy86.getD 1 D.nil).toInt) != 0) (.call 13 [] [] fun yy88 =>
 .ret [D.bool ((yy88.getD 0 D.nil).toBool)])
 (.call 39 [] [yy85.getD 0 D.nil, yy86.getD 0 D.nil, D.int o4.toInt] fun yy89 =>
 .br ((yy89.getD 0 D.nil).toBool) (.call 13 [] [] fun yy90 =>
 .ret [D.bool ((yy90.getD 0 D.nil).toBool)])
 (.ret [D.bool false])))))
 (.call 20 [] [a0] fun yy91 =>
 .call 20 [] [b1] fun yy92 =>
 .br (((yy91.getD 1 D.nil).toInt) != 0) (.call 13 [] [] fun yy93 =>
 .ret [D.bool ((yy93.getD 0 D.nil).toBool)])
 (.br (((yy92.getD 1 D.nil).toInt) != 0) (.call 13 [] [] fun yy94 =>
 .ret [D.bool ((yy94.getD 0 D.nil).toBool)])
 (.call 39 [] [yy91.getD 0 D.nil, yy92.getD 0 D.nil, D.int o4.toInt] fun yy95 =>
 .br ((yy95.getD 0 D.nil).toBool) (.call 13 [] [] fun yy96 =>
 .ret [D.bool ((yy96.getD 0 D.nil).toBool)])
 (.ret [D.bool false]))))))))))))))))) := by kernel_rfl

/-! scrim/scrimlaw11.awake -/
def law11_awake_orc : List (Nat × Orc) := []
theorem law11_awake_tree (n : Nat)  : evFun Try.prog md law11_awake_orc n 13 [] [] =
 .call 65 [] [D.sl [D.int 2, D.int 3], D.int 0] fun yy1 =>
 .call 65 [] [D.sl [D.int 1, D.int 2, D.int 3, D.int 4], D.int 0] fun yy2 =>
 .call 14 [] [yy1.getD 0 D.nil, yy2.getD 0 D.nil] fun yy3 =>
 .call 65 [] [D.sl [D.int 1, D.int 2, D.int 3, D.int 4, D.int 1, D.int 2], D.int 0] fun yy4 =>
 .br (((yy3.getD 1 D.nil).toInt) == 0) (.call 23 [] [yy3.getD 0 D.nil, D.agg [D.int (((yy4.getD 0 D.nil).fld 0).toInt), D.sl [D.int 2, D.int 3], (yy4.getD 0 D.nil).fld 2]] fun yy5 =>
 .ret [D.bool ((yy5.getD 0 D.nil).toBool)])
 (.ret [D.bool false]) := by kernel_rfl

end Go.Proofs.Ytfnmaeniekggeaa
set_option maxRecDepth 100000
namespace Go.Proofs.Ytfnmaeniekggeaa

theorem intsCs_vec : ∀ {l : List Int}, (∀ x ∈ l, inR x) → intsCs (l.map intC) = some l
  | [], _ => rfl
  | x :: xs, h => by
    simp only [List.map_cons, intsCs]
    rw [if_pos (show (intC x).kind = 0 from rfl), show (intC x).n = ofZ x from rfl, smallN_ofZ (h x (by simp)), intsCs_vec (fun y hy => h y (by simp [hy]))]
    rfl
theorem totA_vec (l : List Int) (s : Lab) : totA (vecA l s) = s := by
  rw [totA_eq]
  unfold vecA
  simp only [Arr.cells_mk, Arr.s_mk]
  induction l with
  | nil => rfl
  | cons x xs ih =>
    rw [List.map_cons, List.foldl_cons, totC_eq]
    have e0 : s ||| (0 : Lab) = s := by simp
    rw [show (intC x).inn = [] from rfl, show (intC x).l = 0 from rfl, e0, List.foldl_nil]
    exact ih
theorem reshA_fits {n a : Arr} (ha : Fits a) : Fits (reshA n a).1 := by
  unfold reshA
  split
  · split
    · rename_i h1 h2
      have h3 := countS_len h2
      have h4 := countS_le (intsA n).1
      refine Fits.of (by omega) (by rw [cyc_len]; omega) (fun x hx => inR_small (by have := h3.2 x hx; omega) (by have := h3.2 x hx; omega)) (fun c hc => ?_)
      rcases cyc_mem hc with h | rfl
      · exact ha.cell c h
      · exact fitsC_int inR0
    · exact fits_none
  · exact fits_none
theorem reshA_right {n a : Arr} {d : Nat} (ha : ∀ c ∈ a.cells, rightC d c = true) (h : (reshA n a).2 = 0) : rightA d (reshA n a).1 = true := by
  unfold reshA at h ⊢
  split at h
  · rename_i h1
    rw [if_pos h1]
    split at h
    · rename_i h2
      rw [if_pos h2]
      have h4 := countS_le (intsA n).1
      refine rightA_of ?_ ?_
      · simp only [Arr.shape_mk, Arr.cells_mk, cyc_len]
        exact Prod.ext (by simp only; omega) h2
      · intro c hc
        rcases cyc_mem hc with h | rfl
        · exact ha c h
        · exact rightC_int d inR0
    · rename_i h2; exact absurd h h2
  · rename_i h1; exact absurd h h1
theorem aw_in (l : List Int) (h : l.all (fun x => decide (-100000 ≤ x ∧ x ≤ 100000)) = true) : ∀ x ∈ l, inR x := fun x hx => by
  have := of_decide_eq_true (List.all_eq_true.1 h x hx)
  exact inR_small this.1 this.2
theorem law11_awake_sp : Sp 13 [] [.bool true] := by
  refine sound_ 0 (law11_awake_tree _) ?_
  refine wp_call (ref11_Vector_sp [2, 3] 0 (by decide) (aw_in _ (by decide))) (wp_call (ref11_Vector_sp [1, 2, 3, 4] 0 (by decide) (aw_in _ (by decide))) ?_)
  have f1 : Fits (vecA [2, 3] 0) := fits_vec (by decide) (aw_in _ (by decide))
  have f2 : Fits (vecA [1, 2, 3, 4] 0) := fits_vec (by decide) (aw_in _ (by decide))
  have e : reshA (vecA [2, 3] 0) (vecA [1, 2, 3, 4] 0) = (.mk 0 [2, 3] ([1, 2, 3, 4, 1, 2].map intC), 0) := by
    have e1 : intsA (vecA [2, 3] 0) = ([2, 3], 0) := by
      unfold intsA vecA
      simp only [Arr.shape_mk, Arr.cells_mk, intsCs_vec (aw_in [2, 3] (by decide))]
      rfl
    unfold reshA
    rw [e1, totA_vec]
    have e2 : countS [2, 3] = (6, 0) := by decide
    simp only [e2]
    rfl
  have ht : ∀ c ∈ (vecA [2, 3] 0).cells, c.n.top.length ≤ 32 := fun c hc => by
    obtain ⟨z, hz, rfl⟩ := List.mem_map.1 hc
    exact (rightN_len (rightN_ofZ (aw_in [2, 3] (by decide) z hz))).1
  have sp := mold_Reshape_sp (vecA [2, 3] 0) (vecA [1, 2, 3, 4] 0) f1 (by decide) (by decide) ht
  rw [e] at sp
  refine wp_call sp (wp_call (ref11_Vector_sp [1, 2, 3, 4, 1, 2] 0 (by decide) (aw_in _ (by decide))) (wp_tt rfl ?_))
  have f3 : Fits (.mk 0 [2, 3] ([1, 2, 3, 4, 1, 2].map intC)) := by
    have := reshA_fits (n := vecA [2, 3] 0) f2
    rw [e] at this; exact this
  have sp2 := ref08_Same_sp _ f3 (.mk 0 [2, 3] ([1, 2, 3, 4, 1, 2].map intC))
  rw [eqA_self] at sp2
  rw [getD_c0, getD_c0]
  simp only [dA_0, dA_2, toInt_dB, dInt_dB]
  have e3 : D.agg [dB (vecA [1, 2, 3, 4, 1, 2] 0).s, D.sl [D.int 2, D.int 3], D.sl ((vecA [1, 2, 3, 4, 1, 2] 0).cells.map dC)] = dA (.mk 0 [2, 3] ([1, 2, 3, 4, 1, 2].map intC)) := by rw [dA_eq]; rfl
  rw [e3]
  exact wp_call sp2 (wp_ret rfl)
theorem awake_ret : Tw (.call 13 [] [] fun y => .ret [D.bool ((y.getD 0 D.nil).toBool)]) [.bool true] := wp_call law11_awake_sp (wp_ret rfl)
end Go.Proofs.Ytfnmaeniekggeaa
set_option maxRecDepth 100000
namespace Go.Proofs.Ytfnmaeniekggeaa

theorem countS_nil : countS [] = (1, 0) := by decide
theorem prodS_one {n : Nat} (h : n ≤ 2048) : prodS [(n : Int)] 1 = (n : Int) := by
  simp only [prodS]; rw [if_neg (by omega)]; omega
theorem countS_one {n : Nat} (h : n ≤ 2048) : countS [(n : Int)] = ((n : Int), 0) := by
  unfold countS
  rw [prodS_one h]
  simp only [List.length_cons, List.length_nil, List.any_cons, List.any_nil, Bool.or_false]
  by_cases h0 : n = 0
  · subst h0; rfl
  · rw [if_neg (by omega), if_neg (by simp), if_neg (by simp; omega), if_neg (by simp; omega), if_neg (by omega)]
theorem cellR_kind {c : Cell} (h : ¬ c.kind = 2) (k k' : Bool) (r r' : Arr → Bool) : cellR k r c = cellR k' r' c := by
  unfold cellR
  split
  · rfl
  split
  · rfl
  · rw [decide_eq_false (fun hh => h hh.1)]; rfl
theorem rightC_kind {c : Cell} (h : ¬ c.kind = 2) {d e : Nat} (hc : rightC d c = true) : rightC e c = true := by
  have : rightC e c = rightC d c := by cases d <;> cases e <;> exact cellR_kind h _ _ _ _
  rw [this]; exact hc
theorem rightC_box {d : Nat} {x : Arr} {l : Lab} (hs : simpleA x = false) (hr : rightA d x = true) : rightC (d + 1) ⟨l, 2, .zero, 0, [x]⟩ = true := by
  show cellR true (rightA d) _ = true
  unfold cellR boxOK
  simp [hs, hr]
/-- Cells that are boxes. -/
theorem rightC_two {d : Nat} {c : Cell} (hk : c.kind = 2) (h : rightC d c = true) : ∃ e x, d = e + 1 ∧ c = ⟨c.l, 2, .zero, 0, [x]⟩ ∧ simpleA x = false ∧ rightA e x = true := by
  have key : ∀ k r, cellR k r c = true → k = true ∧ ∃ x, c.inn = [x] ∧ simpleA x = false ∧ r x = true ∧ c.n = .zero ∧ c.c = 0 := by
    intro k r hh
    unfold cellR at hh
    rw [if_neg (by omega), if_neg (by omega)] at hh
    simp only [Bool.and_eq_true, decide_eq_true_eq] at hh
    obtain ⟨h1, h2, h3⟩ := hh
    unfold boxOK at h3
    split at h3
    · rename_i x hx
      simp only [Bool.and_eq_true, Bool.not_eq_true'] at h3
      exact ⟨h2, x, hx, h3.1, h3.2, h1.2.1, h1.2.2⟩
    · cases h3
  cases d with
  | zero => exact absurd (key _ _ h).1 (by simp)
  | succ d =>
    obtain ⟨_, x, h1, h2, h3, h4, h5⟩ := key _ _ h
    refine ⟨d, x, rfl, ?_, h2, h3⟩
    cases c; simp only at hk h1 h4 h5; subst hk; subst h1; subst h4; subst h5; rfl
theorem rightA_up : ∀ {d : Nat} {a : Arr}, rightA d a = true → rightA (d + 1) a = true := by
  intro d
  induction d with
  | zero =>
    intro a h
    obtain ⟨h1, h2⟩ := rightA_cells h
    refine rightA_of h1 (fun c hc => ?_)
    by_cases hk : c.kind = 2
    · obtain ⟨e, x, he, _⟩ := rightC_two hk (h2 c hc); omega
    · exact rightC_kind hk (h2 c hc)
  | succ d ih =>
    intro a h
    obtain ⟨h1, h2⟩ := rightA_cells h
    refine rightA_of h1 (fun c hc => ?_)
    by_cases hk : c.kind = 2
    · obtain ⟨e, x, he, hx, hs, hr⟩ := rightC_two hk (h2 c hc)
      have : e = d := by omega
      subst this
      rw [hx]; exact rightC_box hs (ih hr)
    · exact rightC_kind hk (h2 c hc)
theorem simple_dep {a : Arr} (h : depA a = 0) : simpleA a = true := by
  rw [depA_eq] at h
  split at h
  · assumption
  · omega
/-- An array that is not so deep is right with fewer boxes. -/
theorem rightA_down : ∀ {d n : Nat} {a : Arr}, rightA n a = true → depA a ≤ d + 1 → simpleA a = false → rightA d a = true := by
  intro d
  induction d with
  | zero =>
    intro n a h hd hs
    obtain ⟨h1, h2⟩ := rightA_cells h
    refine rightA_of h1 (fun c hc => ?_)
    by_cases hk : c.kind = 2
    · obtain ⟨e, x, he, hx, hsx, hr⟩ := rightC_two hk (h2 c hc)
      rw [depA_eq, if_neg (by simp [hs])] at hd
      have h3 := depC_mem hc
      rw [depC_eq] at h3
      have h4 : depA x ≤ depAs c.inn := depA_mem (by rw [hx]; simp)
      have := simple_dep (show depA x = 0 by omega)
      rw [hsx] at this; cases this
    · exact rightC_kind hk (h2 c hc)
  | succ d ih =>
    intro n a h hd hs
    obtain ⟨h1, h2⟩ := rightA_cells h
    refine rightA_of h1 (fun c hc => ?_)
    by_cases hk : c.kind = 2
    · obtain ⟨e, x, he, hx, hsx, hr⟩ := rightC_two hk (h2 c hc)
      rw [depA_eq, if_neg (by simp [hs])] at hd
      have h3 := depC_mem hc
      rw [depC_eq] at h3
      have h4 : depA x ≤ depAs c.inn := depA_mem (by rw [hx]; simp)
      rw [hx]; exact rightC_box hsx (ih hr (by omega) hsx)
    · exact rightC_kind hk (h2 c hc)
theorem enclA_right {a : Arr} (h : rightA 8 a = true) (h0 : (enclA a).2 = 0) : rightA 8 (enclA a).1 = true := by
  unfold enclA at h0 ⊢
  split
  · exact h
  · rename_i hs
    rw [if_neg hs] at h0
    split
    · rename_i h8; rw [if_pos h8] at h0; cases h0
    · rename_i h8
      refine rightA_of countS_nil (fun c hc => ?_)
      have : c = ⟨boxL a, 2, .zero, 0, [a]⟩ := by simpa [boxA] using hc
      subst this
      exact rightC_box (by simpa using hs) (rightA_down h (by omega) (by simpa using hs))
theorem rightA_raise {d : Nat} {a : Arr} {l : Lab} (h : rightA d a = true) : rightA d (raiseA a l) = true := by rw [rightA_eq] at h ⊢; exact h
theorem rightA_one {d : Nat} {c : Cell} {l : Lab} (h : rightC d c = true) : rightA d (.mk l [] [c]) = true := rightA_of countS_nil (fun x hx => by simp at hx; subst hx; exact h)
theorem unpC_right {d : Nat} {c : Cell} (h : rightC (d + 1) c = true) : rightA (d + 1) (unpC c) = true := by
  by_cases hk : c.kind = 2
  · obtain ⟨e, x, he, hx, hs, hr⟩ := rightC_two hk h
    have : e = d := by omega
    subst this
    rw [unpC_pos hk (by rw [hx])]
    exact rightA_raise (rightA_up hr)
  · rw [unpC_neg (fun hh => hk hh.1)]
    exact rightA_one h
theorem firstA_right {a : Arr} (h : rightA 8 a = true) : rightA 8 (firstA a) = true := by
  unfold firstA
  split
  · exact rightA_one (rightC_int 8 inR0)
  · rename_i c cs hc
    exact rightA_raise (unpC_right ((rightA_cells h).2 c (by rw [hc]; simp)))
theorem flatA_mem : ∀ {d : Nat} {a : Arr}, rightA d a = true → ∀ c ∈ flatA a, ¬ c.kind = 2 ∧ ∃ e, rightC e c = true := by
  have keyAs : ∀ {as_ : List Arr} {P : Cell → Prop}, (∀ x ∈ as_, ∀ c ∈ flatA x, P c) → ∀ c ∈ flatAs as_, P c := by
    intro as_ P
    induction as_ with
    | nil => intro _ c hc; rw [flatAs] at hc; cases hc
    | cons a as_ ih =>
      intro h c hc
      rw [flatAs] at hc
      rcases List.mem_append.1 hc with hc | hc
      · exact h a (by simp) c hc
      · exact ih (fun x hx => h x (List.mem_cons_of_mem _ hx)) c hc
  have keyCs : ∀ {cs : List Cell} {P : Cell → Prop}, (∀ x ∈ cs, ∀ c ∈ flatC x, P c) → ∀ c ∈ flatCs cs, P c := by
    intro cs P
    induction cs with
    | nil => intro _ c hc; rw [flatCs] at hc; cases hc
    | cons a cs ih =>
      intro h c hc
      rw [flatCs] at hc
      rcases List.mem_append.1 hc with hc | hc
      · exact h a (by simp) c hc
      · exact ih (fun x hx => h x (List.mem_cons_of_mem _ hx)) c hc
  intro d
  induction d with
  | zero =>
    intro a h
    rw [flatA_eq]
    refine keyCs (fun x hx c hc => ?_)
    have hr := (rightA_cells h).2 x hx
    rw [flatC_eq] at hc
    split at hc
    · rename_i hk; obtain ⟨e, y, he, _⟩ := rightC_two hk hr; omega
    · rename_i hk; simp at hc; subst hc; exact ⟨hk, _, hr⟩
  | succ d ih =>
    intro a h
    rw [flatA_eq]
    refine keyCs (fun x hx c hc => ?_)
    have hr := (rightA_cells h).2 x hx
    rw [flatC_eq] at hc
    split at hc
    · rename_i hk
      obtain ⟨e, y, he, hy, hs, hry⟩ := rightC_two hk hr
      have : e = d := by omega
      subst this
      rw [hy] at hc
      exact keyAs (fun z hz => by simp at hz; subst hz; exact ih hry) c hc
    · rename_i hk; simp at hc; subst hc; exact ⟨hk, _, hr⟩
theorem enlA_right {a : Arr} (h : rightA 8 a = true) (h0 : (enlA a).2 = 0) : rightA 8 (enlA a).1 = true := by
  unfold enlA at h0 ⊢
  split
  · rename_i hl
    refine rightA_of (by simpa using countS_one hl) (fun c hc => ?_)
    obtain ⟨hk, e, he⟩ := flatA_mem h c hc
    exact rightC_kind hk he
  · rename_i hl; rw [if_neg hl] at h0; cases h0
theorem rightA_nonempty {d : Nat} {a : Arr} (h : rightA d a = true) (hs : a.shape = []) : a.cells ≠ [] := by
  have := (rightA_cells h).1
  rw [hs, countS_nil] at this
  intro hc
  rw [hc] at this
  simp at this
theorem enclA_fits {d : Nat} {a : Arr} (h : Sml d a) : Sml (d + 1) (enclA a).1 := by
  unfold enclA
  split
  · exact h.mono (by omega)
  · split
    · exact ⟨by simp [Arr.none], by simp [Arr.none], by simp [Arr.none], by simp [Arr.none]⟩
    · refine ⟨by simp [boxA], by simp [boxA], by simp [boxA], fun c hc => ?_⟩
      have : c = ⟨boxL a, 2, .zero, 0, [a]⟩ := by simpa [boxA] using hc
      subst this
      exact ⟨by simp [Num.zero], by simp [Num.zero], by simp, fun x hx => by simp at hx; subst hx; exact h⟩
theorem enlA_sml {a : Arr} (h : rightA 8 a = true) : Sml 9 (enlA a).1 := by
  by_cases h0 : (enlA a).2 = 0
  · exact rightA_sml (enlA_right h h0)
  · unfold enlA at h0 ⊢
    split
    · rename_i hl; rw [if_pos hl] at h0; exact absurd rfl h0
    · exact ⟨by simp [Arr.none], by simp [Arr.none], by simp [Arr.none], by simp [Arr.none]⟩
theorem tw_awake_br {b : Bool} {t : Tree} (h1 : b = true) (h : Tw t [.bool true]) : Tw (.br b t (.ret [D.bool false])) [.bool true] := wp_tt h1 h
theorem moldTells_sp (a b : Arr) (same : Bool) (ha : Fits a) (hb : Fits b) : Sp 5 [dA a, dA b, .bool same] [.bool true] := by
  refine sound_ 0 (law11_MoldTells_tree _ _ _ _) (wp_call (ref08_Good_sp a ha) (wp_br (fun _ => awake_ret) (fun e1 => wp_call (ref08_Good_sp b hb) (wp_br (fun _ => awake_ret) (fun e2 => ?_)))))
  have g1 := goodA_right (by simpa using e1)
  have g2 := goodA_right (by simpa using e2)
  have s1 := rightA_sml g1
  have s2 := rightA_sml g2
  have hl := rightA_len g1
  have al : ∀ (n : Int) (s : Lab), inR n → Fits (aloneA n s) := fun n s h => Fits.of (by simp) (by simp) (by simp) (fun c hc => by simp at hc; subst hc; exact fitsC_int h)
  refine wp_call (mold_Shape_sp a s1) (wp_call (ref11_Shape_sp a s1 (by omega)) (wp_call (ref08_Same_sp (shapeA a) (fits_vec (by omega) s1.2.2.1) _) (wp_tt (eqA_self _) ?_)))
  refine wp_call (mold_Ravel_sp a s1) (wp_call (ref11_Ravel_sp a) (wp_call (ref08_Same_sp (ravA a) (Fits.of (by simp) (by omega) (fun x hx => by simp at hx; subst hx; exact inR_small (by omega) (by omega)) ha.cell) _) (wp_tt (eqA_self _) ?_)))
  have ht : inR (a.shape.headD 1) := by
    match hs : a.shape with
    | [] => exact inR_small (by decide) (by decide)
    | x :: xs => exact ha.shR x (by rw [hs]; simp)
  refine wp_call (mold_Tally_sp a s1) (wp_call (ref11_Tally_sp a s1) (wp_call (ref08_Same_sp (tallyA a) (al _ _ ht) _) (wp_tt (eqA_self _) ?_)))
  have hd := depA_sml s1
  have hin : inR (depA a : Int) := inR_small (by omega) (by omega)
  refine wp_call (mold_Depth_sp a s1 (by decide)) (wp_call (ref08_Depth_sp 9 a (by decide) s1) (wp_call (ref08_Total_sp a ha) (wp_call (ref11_Alone_sp _ _ hin) (wp_call (ref08_Same_sp (mdepA a) (al _ _ hin) _) (wp_tt (eqA_self _) ?_)))))
  have hm : inR (if matA a b = same then 1 else 0) := by split <;> exact inR_small (by decide) (by decide)
  exact wp_call (mold_Match_sp a b same s1 s2) (wp_call (ref11_Match_sp a b same s1 s2) (wp_call (ref08_Same_sp (mmatA a b same) (al _ _ hm) _) (wp_tt (eqA_self _) awake_ret)))
theorem moldBoxes_sp (a : Arr) (ha : Fits a) : Sp 4 [dA a] [.bool true] := by
  refine sound_ 0 (law11_MoldBoxes_tree _ _) (wp_call (ref08_Good_sp a ha) (wp_br (fun _ => awake_ret) (fun e1 => ?_)))
  have hg : goodA a = true := by simpa using e1
  have g1 := goodA_right hg
  have s1 := rightA_sml g1
  have hf := few_flat s1 (by unfold goodA at hg; simp at hg; exact hg.1.1)
  have fe := (enclA_fits s1).fits
  have fl := (enlA_sml g1).fits
  have hfr := firstA_right g1
  have ff := (rightA_sml hfr).fits
  have r1 := enclA_right g1
  have r2 := enlA_right g1
  refine wp_call (mold_Enclose_sp a s1 (by decide)) (wp_call (ref11_Enclose_sp a s1 (by decide) (rightA_nonempty g1)) (wp_call (mold_Enlist_sp a s1) (wp_call (ref11_Enlist_sp a g1 hf) (wp_call (mold_First_sp a s1) ?_))))
  generalize enclA a = x at *
  generalize enlA a = y at *
  simp only [getD_c0, getD_c1, toInt_int, int_bne]
  refine wp_call (ref10_Same_sp x.1 x.1 x.2 x.2 fe) (wp_ff (by rw [eqA_self]; simp) (wp_call (ref10_Same_sp y.1 y.1 y.2 y.2 fl) (wp_ff (by rw [eqA_self]; simp) (wp_call (ref11_First_sp a) (wp_call (ref08_Same_sp _ ff _) (wp_ff (by rw [getD_c0, eqA_self]; rfl) ?_))))))
  have f8 : Tw (.call 17 [] [dA (firstA a), D.int 8] fun yy => .br ((yy.getD 0 D.nil).toBool) (.call 13 [] [] fun yy2 => .ret [D.bool ((yy2.getD 0 D.nil).toBool)]) (.ret [D.bool false])) [.bool true] := wp_call (ref08_Right_sp _ ff) (wp_tt hfr awake_ret)
  refine wp_decs (fun _ => wp_decs (fun _ => f8) (fun hy => wp_call (ref08_Right_sp y.1 fl) (wp_tt (r2 (Classical.not_not.1 hy)) f8))) (fun hx => wp_call (ref08_Right_sp x.1 fe) (wp_tt (r1 (Classical.not_not.1 hx)) (wp_decs (fun _ => f8) (fun hy => wp_call (ref08_Right_sp y.1 fl) (wp_tt (r2 (Classical.not_not.1 hy)) f8)))))
end Go.Proofs.Ytfnmaeniekggeaa
set_option maxRecDepth 100000
namespace Go.Proofs.Ytfnmaeniekggeaa

theorem era_raise (a : Arr) (l : Lab) : eraA (raiseA a l) = eraA a := by unfold eraA; rw [relA_eq, relA_eq]; rfl
theorem mat_raise (a : Arr) (l : Lab) : matA (raiseA a l) a = true := by unfold matA; rw [era_raise]; exact eqA_self _
theorem flows_raise (a : Arr) (l : Lab) : flows (totA a) (totA (raiseA a l)) = true := by rw [totA_raise]; exact flows_iff.2 fun t h => by simp [h]
theorem simple_form {a : Arr} (h : simpleA a = true) : ∃ c, a = .mk a.s [] [c] ∧ ¬ c.kind = 2 := by
  unfold simpleA at h
  split at h
  · rename_i c hs hc
    refine ⟨c, ?_, by simpa using h⟩
    rw [← hs, ← hc]; exact Arr.eta a
  · cases h
/-- What was enclosed, taken out again. -/
theorem first_encl {a : Arr} (h0 : (enclA a).2 = 0) : ∃ l, firstA (enclA a).1 = raiseA a l := by
  unfold enclA at h0 ⊢
  split
  · rename_i hs
    obtain ⟨c, hc, hk⟩ := simple_form hs
    refine ⟨c.l, ?_⟩
    rw [hc]
    show raiseA (unpC c) a.s = _
    rw [unpC_neg (fun hh => hk hh.1)]
    show Arr.mk (c.l ||| a.s) [] [c] = .mk (a.s ||| c.l) [] [c]
    rw [BitVec.or_comm]
  · rename_i hs
    rw [if_neg hs] at h0
    split
    · rename_i h8; rw [if_pos h8] at h0; cases h0
    · refine ⟨boxL a ||| a.s, ?_⟩
      show raiseA (unpC ⟨boxL a, 2, .zero, 0, [a]⟩) a.s = _
      rw [unpC_pos rfl rfl]
      show Arr.mk (a.s ||| boxL a ||| a.s) _ _ = .mk (a.s ||| (boxL a ||| a.s)) _ _
      rw [BitVec.or_assoc]; rfl
theorem cyc_self (l : List Cell) : cyc l l.length = l := by
  unfold cyc
  apply List.ext_getElem
  · simp
  · intro i h1 h2
    simp only [List.getElem_map, List.getElem_range]
    rw [Nat.mod_eq_of_lt h2, List.getD_eq_getElem?_getD, List.getElem?_eq_getElem h2]; rfl
theorem resh_back {a : Arr} (h : rightA 8 a = true) : reshA (shapeA a) (ravA a) = (a, 0) := by
  have hs := (rightA_sml h).2.2.1
  have hc := (rightA_cells h).1
  have e1 : intsA (shapeA a) = (a.shape, 0) := by
    unfold intsA shapeA vecA
    simp only [Arr.shape_mk, Arr.cells_mk, intsCs_vec hs]; rfl
  unfold reshA
  rw [e1]
  simp only [hc, if_true]
  rw [shapeA, totA_vec]
  show (Arr.mk (a.s ||| a.s) a.shape (cyc a.cells (Int.toNat (a.cells.length : Int))), (0 : Int)) = _
  rw [BitVec.or_self, Int.toNat_natCast, cyc_self, ← Arr.eta]
theorem shapeA_fits {d : Nat} {a : Arr} (h : Sml d a) (hl : a.shape.length ≤ 100000) : Fits (shapeA a) := by
  obtain ⟨e, rfl⟩ := h.succ
  exact fits_vec hl h.2.2.1
theorem moldBack_sp (a : Arr) (ha : Fits a) : Sp 6 [dA a] [.bool true] := by
  refine sound_ 0 (law11_MoldBack_tree _ _) (wp_call (ref08_Good_sp a ha) (wp_br (fun _ => awake_ret) (fun e1 => ?_)))
  have g1 := goodA_right (by simpa using e1)
  have s1 := rightA_sml g1
  have hl := rightA_len g1
  have se := enclA_fits s1
  have hfe := first_encl (a := a)
  refine wp_call (mold_Enclose_sp a s1 (by decide)) ?_
  have resh := mold_Reshape_sp (shapeA a) (ravA a) (shapeA_fits s1 (by omega)) (by simpa [ravA] using hl.1) (by simp only [shapeA, vecA, Arr.cells_mk, List.length_map]; omega) (fun c hc => by
    obtain ⟨z, hz, rfl⟩ := List.mem_map.1 hc
    exact (rightN_len (rightN_ofZ (s1.2.2.1 z hz))).1)
  rw [resh_back g1] at resh
  simp only [getD_c0, getD_c1, toInt_int, int_beq]
  refine wp_decs (fun h0 => ?_) (fun _ => ?_)
  · obtain ⟨l, hf⟩ := hfe h0
    refine wp_call (mold_First_sp _ se) ?_
    rw [hf, getD_c0]
    have sr : Sml 9 (raiseA a l) := s1
    refine wp_call (array_Match_sp _ a sr) (wp_ff (by rw [mat_raise]; rfl) (wp_call (ref08_Total_sp a ha) (wp_call (ref08_Total_sp _ sr.fits) (wp_call (ref01_Flows_sp (totA a) (totA (raiseA a l))) (wp_ff (by rw [flows_raise]; rfl) ?_)))))
    exact wp_call (mold_Shape_sp a s1) (wp_call (mold_Ravel_sp a s1) (wp_call resh (wp_dec rfl (wp_call (ref08_Same_sp a ha a) (wp_tt (eqA_self a) awake_ret)))))
  · exact wp_call (mold_Shape_sp a s1) (wp_call (mold_Ravel_sp a s1) (wp_call resh (wp_dec rfl (wp_call (ref08_Same_sp a ha a) (wp_tt (eqA_self a) awake_ret)))))
section
variable {o : Lab} {a b n m : Arr}
theorem shape_alike (h : hidA o a = hidA o b) : hidA o (shapeA a) = hidA o (shapeA b) := by
  rcases alike_cases h with ⟨h1, h2⟩ | ⟨_, _, h3, h4, _⟩
  · exact alike_hid h1 h2
  · unfold shapeA; rw [h3, h4]
theorem rav_alike (h : hidA o a = hidA o b) : hidA o (ravA a) = hidA o (ravA b) := by
  rcases alike_cases h with ⟨h1, h2⟩ | ⟨_, _, h3, _, h5⟩
  · exact alike_hid h1 h2
  · have hl : a.cells.length = b.cells.length := by have := congrArg List.length h5; simpa using this
    exact alike_vis h3 (by show [(a.cells.length : Int)] = [(b.cells.length : Int)]; rw [hl]) h5
theorem tally_alike (h : hidA o a = hidA o b) : hidA o (tallyA a) = hidA o (tallyA b) := by
  rcases alike_cases h with ⟨h1, h2⟩ | ⟨_, _, h3, h4, _⟩
  · exact alike_hid h1 h2
  · unfold tallyA; rw [h3, h4]
theorem mdep_alike (h : hidA o a = hidA o b) : hidA o (mdepA a) = hidA o (mdepA b) := by
  rcases alike_totals h with rfl | ⟨h1, h2⟩
  · rfl
  · exact alike_hid h1 h2
theorem first_alike (h : hidA o a = hidA o b) : hidA o (firstA a) = hidA o (firstA b) := by
  have hs : ∀ x : Arr, flows x.s o = false → flows (firstA x).s o = false := fun x hx => by
    unfold firstA
    split
    · exact hx
    · show flows (_ ||| x.s) o = false; rw [flows_or, hx, Bool.and_false]
  rcases alike_cases h with ⟨h1, h2⟩ | ⟨_, _, h3, _, h5⟩
  · exact alike_hid (hs a h1) (hs b h2)
  · unfold firstA
    match ha : a.cells, hb : b.cells with
    | [], [] => rw [h3]
    | [], c :: cs => rw [ha, hb] at h5; simp at h5
    | c :: cs, [] => rw [ha, hb] at h5; simp at h5
    | c :: cs, d :: ds =>
      rw [ha, hb] at h5
      simp only [List.map_cons, List.cons.injEq] at h5
      show hidA o (raiseA (unpC c) a.s) = hidA o (raiseA (unpC d) b.s)
      rw [h3]; exact raise_alike (unpC_alike h5.1)
theorem mmat_alike (h : hidA o a = hidA o b) (h' : hidA o n = hidA o m) (s : Bool) : hidA o (mmatA a n s) = hidA o (mmatA b m s) := by
  have hid : ∀ x y : Arr, (flows (totA x) o && flows (totA y) o) = false → flows (mmatA x y s).s o = false := fun x y hh => by show flows (totA x ||| totA y) o = false; rw [flows_or]; exact hh
  rcases alike_totals h with rfl | ⟨h1, h2⟩
  · rcases alike_totals h' with rfl | ⟨h3, h4⟩
    · rfl
    · exact alike_hid (hid _ _ (by rw [h3, Bool.and_false])) (hid _ _ (by rw [h4, Bool.and_false]))
  · exact alike_hid (hid _ _ (by rw [h1]; rfl)) (hid _ _ (by rw [h2]; rfl))
theorem map_getD {α β : Type} {f : α → β} {l m : List α} (h : l.map f = m.map f) (i : Nat) (z : α) : f (l.getD i z) = f (m.getD i z) := by
  have hi : (l.map f)[i]? = (m.map f)[i]? := by rw [h]
  simp only [List.getElem?_map] at hi
  rw [List.getD_eq_getElem?_getD, List.getD_eq_getElem?_getD]
  cases h1 : l[i]? <;> cases h2 : m[i]? <;> rw [h1, h2] at hi <;> simp at hi ⊢
  exact hi
theorem resh_alike (h' : hidA o n = hidA o m) (h : hidA o a = hidA o b) (e1 : (reshA n a).2 = 0) (e2 : (reshA m b).2 = 0) : hidA o (reshA n a).1 = hidA o (reshA m b).1 := by
  have form : ∀ x y : Arr, (reshA x y).2 = 0 → (reshA x y).1 = .mk (y.s ||| totA x) (intsA x).1 (cyc y.cells (countS (intsA x).1).1.toNat) := fun x y hh => by
    unfold reshA at hh ⊢
    split
    · rename_i g1
      rw [if_pos g1] at hh
      split
      · rfl
      · rename_i g2; rw [if_neg g2] at hh; exact absurd hh g2
    · rename_i g1; rw [if_neg g1] at hh; exact absurd hh g1
  rw [form n a e1, form m b e2]
  rcases alike_totals h' with rfl | ⟨h3, h4⟩
  · rcases alike_cases h with ⟨h1, h2⟩ | ⟨_, _, h3, _, h5⟩
    · exact alike_hid (by show flows (a.s ||| _) o = false; rw [flows_or, h1]; rfl) (by show flows (b.s ||| _) o = false; rw [flows_or, h2]; rfl)
    · refine alike_vis (by show a.s ||| _ = b.s ||| _; rw [h3]) rfl ?_
      have hl : a.cells.length = b.cells.length := by have := congrArg List.length h5; simpa using this
      show (cyc a.cells _).map (hidC o) = (cyc b.cells _).map (hidC o)
      unfold cyc
      rw [List.map_map, List.map_map]
      refine List.map_congr_left (fun i _ => ?_)
      show hidC o (a.cells.getD (i % a.cells.length) (intC 0)) = hidC o (b.cells.getD (i % b.cells.length) (intC 0))
      rw [hl]; exact map_getD h5 _ _
  · exact alike_hid (by show flows (_ ||| totA n) o = false; rw [flows_or, h3, Bool.and_false]) (by show flows (_ ||| totA m) o = false; rw [flows_or, h4, Bool.and_false])
theorem encl_alike (ra : rightA 8 a = true) (rb : rightA 8 b = true) (h : hidA o a = hidA o b) (e1 : (enclA a).2 = 0) (e2 : (enclA b).2 = 0) : hidA o (enclA a).1 = hidA o (enclA b).1 := by
  have form : ∀ x : Arr, (enclA x).2 = 0 → (enclA x).1 = if simpleA x then x else boxA x := fun x hh => by
    unfold enclA at hh ⊢
    split
    · rfl
    · rename_i g1
      rw [if_neg g1] at hh
      split
      · rename_i g2; rw [if_pos g2] at hh; cases hh
      · rfl
  have hs : ∀ x : Arr, (if simpleA x then x else boxA x).s = x.s := fun x => by split <;> rfl
  rw [form a e1, form b e2]
  rcases alike_cases h with ⟨h1, h2⟩ | ⟨h1, h2, h3, h4, h5⟩
  · exact alike_hid (by rw [hs]; exact h1) (by rw [hs]; exact h2)
  · by_cases hsh : a.shape = []
    · have la : a.cells.length = 1 := by have := (rightA_cells ra).1; rw [hsh, countS_nil] at this; have := congrArg Prod.fst this; simp at this; omega
      have lb : b.cells.length = 1 := by have := congrArg List.length h5; simp at this; omega
      obtain ⟨c, hc⟩ := len_one la
      obtain ⟨d, hd⟩ := len_one lb
      have hcd : hidC o c = hidC o d := by rw [hc, hd] at h5; simpa using h5
      have sa : simpleA a = decide (¬ c.kind = 2) := by unfold simpleA; rw [hsh, hc]
      have sb : simpleA b = decide (¬ d.kind = 2) := by unfold simpleA; rw [← h4, hsh, hd]
      have ba : boxL a = c.l := by unfold boxL; rw [hsh, hc]
      have bb : boxL b = d.l := by unfold boxL; rw [← h4, hsh, hd]
      have one : ∀ x : Arr, ∀ y : Cell, x.shape = [] → x.cells = [y] → boxL x = y.l → ∃ z : Cell, (if simpleA x then x else boxA x) = .mk x.s [] [z] ∧ z.l = y.l := fun x y hx hy hb => by
        split
        · exact ⟨y, by rw [← hx, ← hy]; exact Arr.eta x, rfl⟩
        · exact ⟨_, rfl, hb⟩
      rcases alikeC_cases hcd with ⟨g1, g2⟩ | ⟨g1, g2, g3, g4, _⟩
      · obtain ⟨z, hz, hzl⟩ := one a c hsh hc ba
        obtain ⟨w, hw, hwl⟩ := one b d (h4 ▸ hsh) hd bb
        rw [hz, hw]
        exact alike_vis h3 rfl (by simp only [Arr.cells_mk, List.map_cons, List.map_nil, List.cons.injEq, and_true]; exact alikeC_hid (hzl ▸ g1) (hwl ▸ g2))
      · have : simpleA a = simpleA b := by rw [sa, sb, g4]
        rw [this]
        split
        · exact h
        · exact alike_vis h3 rfl (by simp only [boxA, Arr.cells_mk, List.map_cons, List.map_nil, List.cons.injEq, and_true]; exact alikeC_vis (by rw [ba, bb, g3]) rfl rfl rfl (by simpa using h))
    · have sa : ∀ x : Arr, x.shape ≠ [] → simpleA x = false ∧ boxL x = 0 := fun x hx => by
        unfold simpleA boxL
        match hh : x.shape with
        | [] => exact absurd hh hx
        | y :: ys => exact ⟨rfl, rfl⟩
      have a1 := sa a hsh
      have b1 := sa b (h4 ▸ hsh)
      rw [a1.1, b1.1]
      exact alike_vis h3 rfl (by simp only [boxA, Bool.false_eq_true, if_false, Arr.cells_mk, List.map_cons, List.map_nil, List.cons.injEq, and_true]; exact alikeC_vis (by rw [a1.2, b1.2]) rfl rfl rfl (by simpa using h))
theorem enl_alike (h : hidA o a = hidA o b) (e1 : (enlA a).2 = 0) (e2 : (enlA b).2 = 0) : hidA o (enlA a).1 = hidA o (enlA b).1 := by
  have form : ∀ x : Arr, (enlA x).2 = 0 → (enlA x).1.s = totA x := fun x hh => by
    unfold enlA at hh ⊢
    split
    · rfl
    · rename_i g; rw [if_neg g] at hh; cases hh
  rcases alike_totals h with rfl | ⟨h1, h2⟩
  · rfl
  · exact alike_hid (by rw [form a e1]; exact h1) (by rw [form b e2]; exact h2)
end
theorem alike_sp {o : Lab} {d : Nat} {a b : Arr} (h : Sml d a) (hh : hidA o a = hidA o b) : Sp 39 [dA a, dA b, dB o] [.bool true] := by
  have := ref09_Alike_sp o d a b h
  rwa [alk_iff.2 hh] at this
theorem sml_alone {n : Int} {s : Lab} (h : inR n) : Sml 1 (aloneA n s) := ⟨by simp [aloneA], by simp [aloneA], by simp [aloneA], fun c hc => by simp [aloneA] at hc; subst hc; exact smlC_int h 0⟩
theorem moldBlind_sp (a b n m : Arr) (o : Lab) (ha : Fits a) (hb : Fits b) (hn : Fits n) (hm : Fits m) : Sp 7 [dA a, dA b, dA n, dA m, dB o] [.bool true] := by
  refine sound_ 0 (law11_MoldBlind_tree _ _ _ _ _ _) (wp_call (ref08_Good_sp a ha) (wp_br (fun _ => awake_ret) (fun e1 => wp_call (ref08_Good_sp b hb) (wp_br (fun _ => awake_ret) (fun e2 => wp_call (ref08_Good_sp n hn) (wp_br (fun _ => awake_ret) (fun e3 => wp_call (ref08_Good_sp m hm) (wp_br (fun _ => awake_ret) (fun e4 => ?_)))))))))
  have g1 := goodA_right (by simpa using e1)
  have g2 := goodA_right (by simpa using e2)
  have g3 := goodA_right (by simpa using e3)
  have g4 := goodA_right (by simpa using e4)
  have s1 := rightA_sml g1
  have s2 := rightA_sml g2
  have s3 := rightA_sml g3
  have s4 := rightA_sml g4
  simp only [toInt_dB, dInt_dB]
  refine wp_call (ref09_Alike_sp o 9 a b s1) (wp_br (fun _ => awake_ret) (fun e5 => wp_call (ref09_Alike_sp o 9 n m s3) (wp_br (fun _ => awake_ret) (fun e6 => ?_))))
  have h1 : hidA o a = hidA o b := alk_iff.1 (by simpa using e5)
  have h2 : hidA o n = hidA o m := alk_iff.1 (by simpa using e6)
  have l1 := rightA_len g1
  have l2 := rightA_len g2
  have l3 := rightA_len g3
  have l4 := rightA_len g4
  have sv : Sml 1 (shapeA a) := ⟨by simp [shapeA, vecA], by simp only [shapeA, vecA, Arr.cells_mk, List.length_map]; omega, by simp only [shapeA, vecA, Arr.shape_mk, List.mem_singleton]; rintro x rfl; exact inR_small (by omega) (by omega), fun c hc => by
    obtain ⟨z, hz, rfl⟩ := List.mem_map.1 hc
    exact smlC_int (s1.2.2.1 z hz) 0⟩
  have sr : Sml 9 (ravA a) := ⟨by simp [ravA], s1.2.1, by simp only [ravA, Arr.shape_mk, List.mem_singleton]; rintro x rfl; exact inR_small (by omega) (by omega), s1.2.2.2⟩
  have ht : inR (a.shape.headD 1) := by
    match hs : a.shape with
    | [] => exact inR_small (by decide) (by decide)
    | x :: xs => exact ha.shR x (by rw [hs]; simp)
  have hd := depA_sml s1
  have hmi : inR (if matA a n = true then 1 else 0) := by split <;> exact inR_small (by decide) (by decide)
  refine wp_call (mold_Shape_sp a s1) (wp_call (mold_Shape_sp b s2) (wp_call (alike_sp sv (shape_alike h1)) (wp_ff rfl ?_)))
  refine wp_call (mold_Ravel_sp a s1) (wp_call (mold_Ravel_sp b s2) (wp_call (alike_sp sr (rav_alike h1)) (wp_ff rfl ?_)))
  refine wp_call (mold_Tally_sp a s1) (wp_call (mold_Tally_sp b s2) (wp_call (alike_sp (sml_alone ht) (tally_alike h1)) (wp_ff rfl ?_)))
  refine wp_call (mold_Depth_sp a s1 (by decide)) (wp_call (mold_Depth_sp b s2 (by decide)) (wp_call (alike_sp (sml_alone (inR_small (by omega) (by omega))) (mdep_alike h1)) (wp_ff rfl ?_)))
  refine wp_call (mold_First_sp a s1) (wp_call (mold_First_sp b s2) (wp_call (alike_sp (rightA_sml (firstA_right g1)) (first_alike h1)) (wp_ff rfl ?_)))
  refine wp_call (mold_Match_sp a n true s1 s3) (wp_call (mold_Match_sp b m true s2 s4) (wp_call (alike_sp (sml_alone hmi) (mmat_alike h1 h2 true)) (wp_ff rfl ?_)))
  refine wp_call (mold_Reshape_sp n a hn l1.1 l3.1 (rightA_top g3)) (wp_call (mold_Reshape_sp m b hm l2.1 l4.1 (rightA_top g4)) ?_)
  have q1 := resh_alike h2 h1
  have q2 := encl_alike g1 g2 h1
  have q3 := enl_alike h1
  have t1 : (reshA n a).2 = 0 → Sml 9 (reshA n a).1 := fun h => rightA_sml (reshA_right (rightA_cells g1).2 h)
  have t2 := enclA_fits s1
  have t3 := enlA_sml g1
  have p1 := mold_Enclose_sp a s1 (by decide)
  have p2 := mold_Enclose_sp b s2 (by decide)
  have p3 := mold_Enlist_sp a s1
  have p4 := mold_Enlist_sp b s2
  generalize reshA n a = x1 at *
  generalize reshA m b = x2 at *
  generalize enclA a = y1 at *
  generalize enclA b = y2 at *
  generalize enlA a = z1 at *
  generalize enlA b = z2 at *
  simp only [getD_c0, getD_c1, toInt_int, int_beq, int_bne]
  refine wp_decs (fun hx => wp_decs (fun hy => wp_call (alike_sp (t1 hx) (q1 hx hy)) (wp_ff rfl ?_)) (fun _ => ?_)) (fun _ => ?_)
  all_goals refine wp_call p1 (wp_call p2 ?_)
  all_goals simp only [getD_c0, getD_c1, toInt_int]
  all_goals refine wp_decs (fun hx => wp_decs (fun hy => wp_call (alike_sp t2 (q2 hx hy)) (wp_ff rfl ?_)) (fun _ => ?_)) (fun _ => ?_)
  all_goals refine wp_call p3 (wp_call p4 ?_)
  all_goals simp only [getD_c0, getD_c1, toInt_int]
  all_goals exact wp_decs (fun _ => awake_ret) (fun hx => wp_decs (fun _ => awake_ret) (fun hy => wp_call (alike_sp t3 (q3 (Classical.not_not.1 hx) (Classical.not_not.1 hy))) (wp_tt rfl awake_ret)))
end Go.Proofs.Ytfnmaeniekggeaa
set_option maxRecDepth 100000
namespace Go.Proofs.Ytfnmaeniekggeaa
open Go.ChangeShapes Go.WideShapes Go.ChangeAt Go.RowKit

set_option maxRecDepth 100000 in
theorem moldBlind_lifted (os : Os) (started : os.Started) (H : Type) (enc : TypeId × Value → H) :
    ReturnsInHanded {} Try.checked os 7 .any (Rows.moldBlindSpec.pre6 enc Try.prog Try.f7 Rows.moldBlindRow.domain false) (Rows.moldBlindSpec.post enc Try.prog Try.f7 false true false false) := by
  refine returnsInHanded_of_change (C := Try.checked) knob started (by kernel_rfl) Try.func7
    (ChangeSpec.witness6 (enc := enc) (C := Try.checked) false ⟨#[], #[.agg #[.int .u64 0, .slice none 0 0, .slice none 0 0], .agg #[.int .u64 0, .slice none 0 0, .slice none 0 0], .agg #[.int .u64 0, .slice none 0 0, .slice none 0 0], .agg #[.int .u64 0, .slice none 0 0, .slice none 0 0], .int .u64 0], []⟩ 16 (by kernel_rfl) (by kernel_rfl) (by kernel_rfl) (by kernel_rfl)) ?_
  intro W base args ds gs before hval0 hW hcnd _
  have hval : ∀ (j : Nat) t v, Try.f7.params[j]? = some t → args[j]? = some v → Value.okWide Try.prog W .any base t v := hval0
  have hW' := hW
  obtain ⟨p, q, hA0, hV, rfl, hfz, hnd⟩ := hW
  have hA : DataW.TrodAll enc Try.prog W 0 (fun _ => true) true Try.f7.params.toList args.toList ds p := hA0
  rw [Try.params7] at hA hval
  obtain ⟨v0, vs0, d0, ds0, p0, q0, hargs, rfl, rfl, h0, r0⟩ := trodAll_cons hA
  obtain ⟨v1, vs1, d1, ds1, p1, q1, rfl, rfl, rfl, h1, r1⟩ := trodAll_cons r0
  obtain ⟨v2, vs2, d2, ds2, p2, q2, rfl, rfl, rfl, h2, r2⟩ := trodAll_cons r1
  obtain ⟨v3, vs3, d3, ds3, p3, q3, rfl, rfl, rfl, h3, r3⟩ := trodAll_cons r2
  obtain ⟨v4, vs4, d4, ds4, p4, q4, rfl, rfl, rfl, h4, r4⟩ := trodAll_cons r3
  obtain ⟨rfl, rfl, rfl⟩ := trodAll_nil r4
  obtain rfl : args = #[v0, v1, v2, v3, v4] := by cases args; simp_all
  obtain ⟨x0, hx0, hr0⟩ := arg_arr (hval 0 26 v0 rfl rfl) h0
  obtain ⟨x1, hx1, hr1⟩ := arg_arr (hval 1 26 v1 rfl rfl) h1
  obtain ⟨x2, hx2, hr2⟩ := arg_arr (hval 2 26 v2 rfl rfl) h2
  obtain ⟨x3, hx3, hr3⟩ := arg_arr (hval 3 26 v3 rfl rfl) h3
  obtain ⟨x4, hr4⟩ := arg_lab (hval 4 22 v4 rfl rfl) h4
  refine (law_calls (vs := [v0, v1, v2, v3, v4]) (moldBlind_sp x0 x1 x2 x3 x4 hx0 hx1 hx2 hx3) Try.func7 (by kernel_rfl) (by kernel_rfl) Try.underlying4 rfl rfl ?_).mono fun e W' ⟨he, hx⟩ => ⟨_, he, law_post laidOut hW' rfl (by kernel_rfl) Try.underlying4 rfl (by kernel_rfl) hx⟩
  intro i t x v ht hx hv
  match i with
  | 0 => cases (show some 26 = some t from ht); cases hx; cases hv; exact hr0
  | 1 => cases (show some 26 = some t from ht); cases hx; cases hv; exact hr1
  | 2 => cases (show some 26 = some t from ht); cases hx; cases hv; exact hr2
  | 3 => cases (show some 26 = some t from ht); cases hx; cases hv; exact hr3
  | 4 => cases (show some 22 = some t from ht); cases hx; cases hv; exact hr4
  | i + 5 => cases hx

theorem moldBlind_holds : Rows.MoldBlindSaid :=
  OpenClaim.holds_of_wide 7 Try.f7 rfl rfl rfl rfl rfl rfl rfl ⟨rfl, rfl, rfl, rfl, rfl⟩ rfl rfl rfl rfl rfl (by kernel_rfl) Try.func7 (by kernel_rfl)
    (of_decide_eq_true (by kernel_rfl)) (by unfold Func.isWrapper; first | (rw [if_pos (by decide +kernel)]; kernel_rfl) | (rw [if_neg (by decide +kernel)]; exact ⟨rfl, rfl⟩))
    (fun os started H enc _ => moldBlind_lifted os started H enc)

end Go.Proofs.Ytfnmaeniekggeaa
